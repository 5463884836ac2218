/-
  The walk of the program's step.
-/
import Derived.Test.YtmckmlmfilmiaaaPart2
import Derived.Deep.Slices
import Derived.WideShapes
import Derived.ChangeArms
import Derived.ChangeOld
import Derived.RangeFuncIn
import Derived.RangeFuncRecord
import Derived.RangeFuncLeaves
import Derived.RangeFuncCalls
import Derived.TacticsIn
import Derived.LaidEql
import Derived.Test.YtmckmlmfilmiaaaPart1
import Derived.Laws.MakeOwn
import Derived.Scope
import Derived.Laws.Small
import Derived.DeepKeys3
import Derived.Laws.CopyRow
import Derived.Laws.IdiomCopy
import Derived.OrdersIn
set_option linter.unusedVariables false
set_option linter.unusedSimpArgs false
namespace Go.Proofs.Ytmckmlmfilmiaaa.Bs
theorem polV_vol (b : Bas) (s : Sta) (x v : Int) : ∀ k, polV b ⟨x, s.fil⟩ v k = polV b s v k := by
  intro k
  induction k with
  | zero => rfl
  | succ k ih => simp only [polV, ih]; rfl
theorem polT_vol (b : Bas) (s : Sta) (x v : Int) (k : Nat) : polT b ⟨x, s.fil⟩ v k = polT b s v k := by unfold polT; rw [polV_vol]; rfl
def outS (b : Bas) (s : Sta) (t : Tick) : Sta := if stepE b s t = 0 then stepS b s t else ⟨0, []⟩
def outF (b : Bas) (s : Sta) (t : Tick) : Flo := if stepE b s t = 0 then stepF b s t else ⟨0, 0, 0, 0, []⟩
def staK (b : Bas) (s : Sta) (t : Tick) : Nat → Sta
  | 0 => s
  | 1 => ⟨vol1 s t, s.fil⟩
  | 2 => ⟨vol2 b s t, s.fil⟩
  | 3 => ⟨vol3 b s t, s.fil⟩
  | 4 => ⟨vol4 b s t, s.fil⟩
  | _ => ⟨polV b s (vol4 b s t) b.pols.length, s.fil⟩
def floK (b : Bas) (s : Sta) (t : Tick) : Nat → Flo
  | 0 => ⟨0, 0, 0, 0, []⟩
  | 1 => ⟨t.river, 0, 0, 0, []⟩
  | 2 => ⟨t.river, overOf b t, 0, 0, []⟩
  | 3 => ⟨t.river, overOf b t, leakOf b t.outer (vol2 b s t), 0, []⟩
  | _ => ⟨t.river, overOf b t, leakOf b t.outer (vol2 b s t), outOf b s t, []⟩
def filS (b : Bas) (s : Sta) (t : Tick) (k : Nat) : List Int := if k ≤ 4 then s.fil else (stepS b s t).fil
def tkS (b : Bas) (s : Sta) (t : Tick) (k : Nat) : List Int := if k ≤ 4 then [] else (stepF b s t).taken
theorem stepE_7 {b : Bas} {s : Sta} {t : Tick} (h : tickBad t = true) : stepE b s t = 7 := by unfold stepE; rw [if_pos h]
theorem stepE_3 {b : Bas} {s : Sta} {t : Tick} (h : tickBad t = false) (h1 : 1000000000 < vol1 s t ∨ 1000000000 < vol2 b s t ∨ 1000000000 < vol3 b s t) : stepE b s t = 3 := by
  unfold stepE
  rw [if_neg (by simp [h])]
  by_cases a : 1000000000 < vol1 s t
  · rw [if_pos a]
  · rw [if_neg a]
    by_cases c : 1000000000 < vol2 b s t
    · rw [if_pos c]
    · rw [if_neg c, if_pos (by omega)]
theorem stepE_0 {b : Bas} {s : Sta} {t : Tick} (h : tickBad t = false) (h1 : vol1 s t ≤ 1000000000) (h2 : vol2 b s t ≤ 1000000000) (h3 : vol3 b s t ≤ 1000000000) : stepE b s t = 0 := by
  unfold stepE
  rw [if_neg (by simp [h]), if_neg (by omega), if_neg (by omega), if_neg (by omega)]
theorem outS_n {b : Bas} {s : Sta} {t : Tick} (h : stepE b s t ≠ 0) : outS b s t = ⟨0, []⟩ := by unfold outS; rw [if_neg h]
theorem outF_n {b : Bas} {s : Sta} {t : Tick} (h : stepE b s t ≠ 0) : outF b s t = ⟨0, 0, 0, 0, []⟩ := by unfold outF; rw [if_neg h]
theorem outS_0 {b : Bas} {s : Sta} {t : Tick} (h : stepE b s t = 0) : outS b s t = stepS b s t := by unfold outS; rw [if_pos h]
theorem outF_0 {b : Bas} {s : Sta} {t : Tick} (h : stepE b s t = 0) : outF b s t = stepF b s t := by unfold outF; rw [if_pos h]
end Go.Proofs.Ytmckmlmfilmiaaa.Bs
namespace Go.Proofs.Ytmckmlmfilmiaaa.X
open Go Go.RowKit Go.Proofs.Ytmckmlmfilmiaaa.Bs
set_option linter.unusedVariables false
/-- what a tick's call returns. -/
def StepR (b : Bas) (s : Sta) (t : Tick) (w : World) (v : Value) (w' : World) : Prop :=
  ∃ q r : SV, v = .tuple ⟨[staV q (outS b s t), floV r (outF b s t), .int .i64 (stepE b s t)]⟩ ∧ IntsAt w' (Btw w.heap.size w'.heap.size) q (outS b s t).fil ∧ IntsAt w' (Btw w.heap.size w'.heap.size) r (outF b s t).taken ∧ Below w.heap.size w w'
theorem StepR.err {b : Bas} {s : Sta} {t : Tick} {w w' : World} {e : Int} (he : stepE b s t = e) (hne : e ≠ 0) (hb : Below w.heap.size w w') :
    StepR b s t w (.tuple ⟨[.agg ⟨[.int .i64 0, .slice none 0 0]⟩, .agg ⟨[.int .i64 0, .int .i64 0, .int .i64 0, .int .i64 0, .slice none 0 0]⟩, .int .i64 e]⟩) w' :=
  ⟨⟨none, 0, 0⟩, ⟨none, 0, 0⟩, by rw [outS_n (by rw [he]; exact hne), outF_n (by rw [he]; exact hne), he]; rfl, by rw [outS_n (by rw [he]; exact hne)]; exact IntsAt.nil, by rw [outF_n (by rw [he]; exact hne)]; exact IntsAt.nil, hb⟩
theorem fn_one : lkG TB.one 35 = some () := by rfl
theorem fn_size : (Try.prog.info? 35).map (·.size) = some 1 := by kernel_rfl
set_option maxHeartbeats 16000000 in
theorem step_any {p : BV} {b : Bas} {q : SV} {s : Sta} {t : Tick} {w : World} (hb : BasAt w w.heap.size p b) (hq : IntsAt w (Lt w.heap.size) q s.fil) (ho : Ok b) (hs : StaOk b s) :
    Calls Try.prog 113 #[basV p b, staV q s, tickV t] w fun e w' => ∃ v, e = .returned v ∧ StepR b s t w v w' := by
  have hm := ho.m6
  have hl := hs.len
  obtain ⟨A, n, c⟩ := q
  have hn := hq.len
  simp only at hn
  subst hn
  simp only [basV, basC, staV, staC, tickV, tickC]
  refine enter Try.func113 rfl Try.ntmps113 rfl ?_; simp only [frame, Nat.zero_add, Nat.reduceAdd]
  repeat (any_goals (first | (refine M0 ?_; first | refine SL ?_ | refine SB fun _ _ => ?_ | (refine XL.split _ _ rfl (fun h => ?_) (fun h => ?_) <;> rw [h]) | refine Y4 (Ev.call (f := 73) (ck rfl) rfl (fun w _ => high_any _ w)) ?_ | refine Y4 (Ev.call (f := 53) (ck rfl) rfl (fun w _ => out_any _ _ _ w)) ?_) | (refine M1 ?_; first | refine SC ?_ | refine SD ?_ | refine XC.cond _ rfl (fun h => ?_) (fun h => ?_)) | (refine M2 ?_; refine SE ?_) | (refine M3 ?_; first | refine SG ?_ | refine SF ?_ | (refine Fw.split _ _ rfl (fun h => ?_) (fun h => ?_) <;> rw [h]) | refine YF (Ev.call (f := 73) (ck rfl) rfl (fun w _ => high_any _ w)) ?_ | refine YF (Ev.call (f := 53) (ck rfl) rfl (fun w _ => out_any _ _ _ w)) ?_) | (refine M4 ?_; refine SR ?_) | (refine M5 ?_; first | exact M7 | refine YM ?_ | refine YN ?_ ?_)))
  all_goals try (refine XE.retg tok Try.results113 rfl (by simp only [and_self, and_true]) (fun w' S => ?_)
                 refine ⟨_, rfl, StepR.err (stepE_7 (by simp [tickBad, *])) (by decide) S.toBelow⟩)
  rename_i g3 hg3 g4 hg4 g5 hg5 g6 hg6 g7 hg7 h1 h2
  have h3 := h
  have hbad : tickBad t = false := by simp [tickBad, *]
  have o1 := outB_f.1 h1
  have o2 := outB_f.1 h2
  have o3 := outB_f.1 h3
  refine XL.call (fst := []) (cap := []) (ck rfl) rfl rfl rfl (List.Sublist.refl _) (fun w1 v w2 => ∃ r : SV, v = svV r ∧ w2.ownsRow w1.heap.size 3 1 (svV r) s.fil.length (ints s.fil))
    (fun w1 S1 => (clone_any (hq.arg S1) (by omega)).mono fun e w' ⟨v, h, h4, h5⟩ => ⟨v, h, h4, h5⟩) (fun w1 v w2 S1 hR hB S2 => ?_)
  obtain ⟨q2, rfl, hown⟩ := hR
  have hownC := hown
  have hown := owns_base hown S1.size
  have hgs := fun e he => S1.lt (e := e) he
  simp only [List.mem_cons, forall_eq_or_imp, List.not_mem_nil, false_implies, implies_true, and_true] at hgs
  simp only [svV]
  repeat (first | (refine M0 ?_; first | refine SL ?_ | refine SB fun _ _ => ?_) | (refine M1 ?_; first | refine SC ?_ | refine SD ?_) | (refine M2 ?_; refine SE ?_) | (refine M3 ?_; first | refine SG ?_ | refine SF ?_) | (refine M4 ?_; refine SR ?_) | (refine M5 ?_; first | exact M7 | refine YM ?_ | refine YN ?_ ?_))
  rename_i g9 hg9
  repeat (first | (refine M0 ?_; first | refine SL ?_ | refine SB fun _ _ => ?_ | refine Y4 (Ev.makeFunc rfl rfl) ?_) | (refine M1 ?_; first | refine SC ?_ | refine SD ?_) | (refine M2 ?_; refine SE ?_) | (refine M3 ?_; first | refine SG ?_ | refine SF ?_ | refine YF (Ev.makeFunc rfl rfl) ?_) | (refine M4 ?_; refine SR ?_) | (refine M5 ?_; first | exact M7 | refine YM ?_ | refine YN ?_ ?_))
  refine XL.step _ (Ev.buildArr tok Try.underlying203 fn_size rfl rfl rfl) rfl ?_
  repeat (first | (refine M0 ?_; first | refine SL ?_ | refine SB fun _ _ => ?_) | (refine M1 ?_; first | refine SC ?_ | refine SD ?_) | (refine M2 ?_; refine SE ?_) | (refine M3 ?_; first | refine SG ?_ | refine SF ?_) | (refine M4 ?_; refine SR ?_) | (refine M5 ?_; first | exact M7 | refine YM ?_ | refine YN ?_ ?_))
  have hB2 : Below w.heap.size w w2 := S2.toBelow
  have hsQ : ∀ x, (svV q2).ownBlock = some x → x ∉ [g9, g7, g6, g5, g4, g3] := fun x hx hm' => by
    have := hownC.lt x hx
    simp only [List.mem_cons, List.not_mem_nil, or_false] at hm'
    omega
  have hb2 := hb.below hB2
  have hws : w.heap.size ≤ w2.heap.size := hB2.size
  refine XC.loopk [6, 7, 9, 46] rfl (fun s' : Nat × World × SV => [(47, .int .i64 (s'.1 : Nat))])
    (fun s' => [(g9, watO p b q2 (staK b s t s'.1) t s'.2.2 (floK b s t s'.1)), _, _, _, _, _]) (fun s' => s'.2.1)
    (fun s' => s'.1 ≤ 5 ∧ Below w.heap.size w s'.2.1 ∧ s'.2.1.ownsRow w.heap.size 3 1 (svV q2) s.fil.length (ints (filS b s t s'.1)) ∧ s'.2.1.ownsRow w.heap.size 3 1 (svV s'.2.2) (tkS b s t s'.1).length (ints (tkS b s t s'.1)) ∧
      (s'.1 ≤ 4 → s'.2 = (w2, ⟨none, 0, 0⟩)) ∧ (1 ≤ s'.1 → vol1 s t ≤ 1000000000) ∧ (2 ≤ s'.1 → vol2 b s t ≤ 1000000000) ∧ (3 ≤ s'.1 → vol3 b s t ≤ 1000000000) ∧ (∀ x, (svV s'.2.2).ownBlock = some x → x ∉ [g9, g7, g6, g5, g4, g3]))
    (fun s' => 5 - s'.1) (0, w2, ⟨none, 0, 0⟩) ⟨Nat.zero_le _, hB2, hown, World.ownsRow_nil _ _ _ _, fun _ => rfl, fun h => absurd h (by simp), fun h => absurd h (by simp), fun h => absurd h (by simp), fun x hx => by cases hx⟩ ZZSUB (fun _ h => h) ?_
  rintro ⟨k, W, r⟩ ⟨hk, hBW, hoF, hoT, h4, c1, c2, c3, hsR⟩
  simp only at hk hBW hoF hoT h4 c1 c2 c3 hsR
  dsimp only [List.cons_append, List.nil_append]
  repeat (first | (refine M0 ?_; first | refine SL ?_ | refine SB fun _ _ => ?_) | (refine M1 ?_; first | refine SC ?_ | refine SD ?_) | (refine M2 ?_; refine SE ?_) | (refine M3 ?_; first | refine SG ?_ | refine SF ?_) | (refine M4 ?_; refine SR ?_) | (refine M5 ?_; first | exact M7 | refine YM ?_ | refine YN ?_ ?_))
  refine XC.cond _ rfl (fun h5 => ?_) (fun h5 => ?_)
  · have hv0 := v0_bd ho
    have hvs := hs.vol
    have hov := over_bd ho t o1
    have e1 : vol1 s t = s.vol + t.river := rfl
    have e2 : vol2 b s t = vol1 s t + overOf b t := rfl
    have e3 : vol3 b s t = vol2 b s t + leakOf b t.outer (vol2 b s t) := rfl
    have e4 : b.v0 - vol2 b s t ≤ leakOf b t.outer (vol2 b s t) := by unfold leakOf; omega
    have e0 : b.v0 = (b.row 0).vol := rfl
    have hk4 : k ≤ 4 := by simp only [decide_eq_true_eq] at h5; omega
    obtain ⟨rfl, rfl⟩ := Prod.mk.inj (h4 hk4)
    have hoF : W.ownsRow w.heap.size 3 1 (svV q2) s.fil.length (ints s.fil) := hown
    have hoT : W.ownsRow w.heap.size 3 1 (svV ⟨none, 0, 0⟩) ([] : List Int).length (ints []) := World.ownsRow_nil _ _ _ _
    rcases k with _ | _ | _ | _ | _ | k
    · -- river
      repeat (first | (refine M0 ?_; first | refine SL ?_ | refine SB fun _ _ => ?_) | (refine M1 ?_; first | refine SC ?_ | refine SD ?_) | (refine M2 ?_; refine SE ?_) | (refine M3 ?_; first | refine SG ?_ | refine SF ?_) | (refine M4 ?_; refine SR ?_) | (refine M5 ?_; first | exact M7 | refine YM ?_ | refine YN ?_ ?_))
      refine XL.step _ (Ev.indexArr tok Try.underlying203 fn_one rfl (j := 0) rfl (by decide) rfl) rfl ?_
      repeat (first | (refine M0 ?_; first | refine SL ?_ | refine SB fun _ _ => ?_) | (refine M1 ?_; first | refine SC ?_ | refine SD ?_) | (refine M2 ?_; refine SE ?_) | (refine M3 ?_; first | refine SG ?_ | refine SF ?_) | (refine M4 ?_; refine SR ?_) | (refine M5 ?_; first | exact M7 | refine YM ?_ | refine YN ?_ ?_))
      refine XL.callT (B' := g9) 0 (fst := [.pointer (some ⟨g9, 0, none⟩)]) (cap := []) (vs := []) (ck rfl) rfl rfl rfl rfl rfl (fun w5 S5 => (river_any (g := g9) (p := p) (b := b) (q := q2) (s := s) (t := t) (r := ⟨none, 0, 0⟩) (f := ⟨0, 0, 0, 0, []⟩) (S5.obj (i := 0) rfl) (by unfold i64in; omega) :)) ?_
      repeat (first | (refine M0 ?_; first | refine SL ?_ | refine SB fun _ _ => ?_) | (refine M1 ?_; first | refine SC ?_ | refine SD ?_) | (refine M2 ?_; refine SE ?_) | (refine M3 ?_; first | refine SG ?_ | refine SF ?_) | (refine M4 ?_; refine SR ?_) | (refine M5 ?_; first | exact M7 | refine YM ?_ | refine YN ?_ ?_))
      refine XC.cond _ rfl (fun h6 => ?_) (fun h6 => ?_)
      · simp only [Bool.not_not, Bool.not_eq_true', Bool.not_eq_false', decide_eq_true_eq, decide_eq_false_iff_not] at h6
        repeat (first | (refine M0 ?_; first | refine SL ?_ | refine SB fun _ _ => ?_) | (refine M1 ?_; first | refine SC ?_ | refine SD ?_) | (refine M2 ?_; refine SE ?_) | (refine M3 ?_; first | refine SG ?_ | refine SF ?_) | (refine M4 ?_; refine SR ?_) | (refine M5 ?_; first | exact M7 | refine YM ?_ | refine YN ?_ ?_))
        refine XE.retg tok Try.results113 rfl (by simp only [and_self, and_true]) (fun w' S => ?_)
        exact ⟨_, rfl, StepR.err (stepE_3 hbad (.inl h6)) (by decide) (hB2.trans S.toBelow)⟩
      · simp only [Bool.not_not, Bool.not_eq_true', Bool.not_eq_false', decide_eq_true_eq, decide_eq_false_iff_not] at h6
        repeat (first | (refine M0 ?_; first | refine SL ?_ | refine SB fun _ _ => ?_) | (refine M1 ?_; first | refine SC ?_ | refine SD ?_) | (refine M2 ?_; refine SE ?_) | (refine M3 ?_; first | refine SG ?_ | refine SF ?_) | (refine M4 ?_; refine SR ?_) | (refine M5 ?_; first | exact M7 | refine YM ?_ | refine YN ?_ ?_))
        refine XE.round (s := (0, W, ⟨none, 0, 0⟩)) (0 + 1, W, ⟨none, 0, 0⟩) ⟨by simp, hB2, hoF, hoT, fun _ => rfl, fun _ => (by simp only [vol1]; omega), fun h => absurd h (by simp), fun h => absurd h (by simp), fun x hx => by cases hx⟩ (by simp) ZZSUB (fun _ h => h)
    · -- over
      repeat (first | (refine M0 ?_; first | refine SL ?_ | refine SB fun _ _ => ?_) | (refine M1 ?_; first | refine SC ?_ | refine SD ?_) | (refine M2 ?_; refine SE ?_) | (refine M3 ?_; first | refine SG ?_ | refine SF ?_) | (refine M4 ?_; refine SR ?_) | (refine M5 ?_; first | exact M7 | refine YM ?_ | refine YN ?_ ?_))
      refine XL.step _ (Ev.indexArr tok Try.underlying203 fn_one rfl (j := 1) rfl (by decide) rfl) rfl ?_
      repeat (first | (refine M0 ?_; first | refine SL ?_ | refine SB fun _ _ => ?_) | (refine M1 ?_; first | refine SC ?_ | refine SD ?_) | (refine M2 ?_; refine SE ?_) | (refine M3 ?_; first | refine SG ?_ | refine SF ?_) | (refine M4 ?_; refine SR ?_) | (refine M5 ?_; first | exact M7 | refine YM ?_ | refine YN ?_ ?_))
      refine XL.callT (B' := g9) 0 (fst := [.pointer (some ⟨g9, 0, none⟩)]) (cap := []) (vs := []) (ck rfl) rfl rfl rfl rfl rfl (fun w5 S5 => (over_run (g := g9) (p := p) (b := b) (q := q2) (s := ⟨vol1 s t, s.fil⟩) (t := t) (r := ⟨none, 0, 0⟩) (f := ⟨t.river, 0, 0, 0, []⟩) (S5.obj (i := 0) rfl) ho o1 (by simp only; omega) :)) ?_
      repeat (first | (refine M0 ?_; first | refine SL ?_ | refine SB fun _ _ => ?_) | (refine M1 ?_; first | refine SC ?_ | refine SD ?_) | (refine M2 ?_; refine SE ?_) | (refine M3 ?_; first | refine SG ?_ | refine SF ?_) | (refine M4 ?_; refine SR ?_) | (refine M5 ?_; first | exact M7 | refine YM ?_ | refine YN ?_ ?_))
      refine XC.cond _ rfl (fun h6 => ?_) (fun h6 => ?_)
      · simp only [Bool.not_not, Bool.not_eq_true', Bool.not_eq_false', decide_eq_true_eq, decide_eq_false_iff_not] at h6
        repeat (first | (refine M0 ?_; first | refine SL ?_ | refine SB fun _ _ => ?_) | (refine M1 ?_; first | refine SC ?_ | refine SD ?_) | (refine M2 ?_; refine SE ?_) | (refine M3 ?_; first | refine SG ?_ | refine SF ?_) | (refine M4 ?_; refine SR ?_) | (refine M5 ?_; first | exact M7 | refine YM ?_ | refine YN ?_ ?_))
        refine XE.retg tok Try.results113 rfl (by simp only [and_self, and_true]) (fun w' S => ?_)
        exact ⟨_, rfl, StepR.err (stepE_3 hbad (.inr <| .inl h6)) (by decide) (hB2.trans S.toBelow)⟩
      · simp only [Bool.not_not, Bool.not_eq_true', Bool.not_eq_false', decide_eq_true_eq, decide_eq_false_iff_not] at h6
        repeat (first | (refine M0 ?_; first | refine SL ?_ | refine SB fun _ _ => ?_) | (refine M1 ?_; first | refine SC ?_ | refine SD ?_) | (refine M2 ?_; refine SE ?_) | (refine M3 ?_; first | refine SG ?_ | refine SF ?_) | (refine M4 ?_; refine SR ?_) | (refine M5 ?_; first | exact M7 | refine YM ?_ | refine YN ?_ ?_))
        refine XE.round (s := (1, W, ⟨none, 0, 0⟩)) (1 + 1, W, ⟨none, 0, 0⟩) ⟨by simp, hB2, hoF, hoT, fun _ => rfl, fun _ => c1 (by omega), fun _ => (by rw [e2]; omega), fun h => absurd h (by simp), fun x hx => by cases hx⟩ (by simp) ZZSUB (fun _ h => h)
    · -- leak
      repeat (first | (refine M0 ?_; first | refine SL ?_ | refine SB fun _ _ => ?_) | (refine M1 ?_; first | refine SC ?_ | refine SD ?_) | (refine M2 ?_; refine SE ?_) | (refine M3 ?_; first | refine SG ?_ | refine SF ?_) | (refine M4 ?_; refine SR ?_) | (refine M5 ?_; first | exact M7 | refine YM ?_ | refine YN ?_ ?_))
      refine XL.step _ (Ev.indexArr tok Try.underlying203 fn_one rfl (j := 2) rfl (by decide) rfl) rfl ?_
      repeat (first | (refine M0 ?_; first | refine SL ?_ | refine SB fun _ _ => ?_) | (refine M1 ?_; first | refine SC ?_ | refine SD ?_) | (refine M2 ?_; refine SE ?_) | (refine M3 ?_; first | refine SG ?_ | refine SF ?_) | (refine M4 ?_; refine SR ?_) | (refine M5 ?_; first | exact M7 | refine YM ?_ | refine YN ?_ ?_))
      refine XL.callT (B' := g9) 0 (fst := [.pointer (some ⟨g9, 0, none⟩)]) (cap := []) (vs := []) (ck rfl) rfl rfl rfl rfl rfl (fun w5 S5 => (leak_any (g := g9) (p := p) (b := b) (q := q2) (s := ⟨vol2 b s t, s.fil⟩) (t := t) (r := ⟨none, 0, 0⟩) (f := ⟨t.river, overOf b t, 0, 0, []⟩) (S5.obj (i := 0) rfl) ((hb2.below S5.toBelow).more (by omega)) ho o1 (by simp only; omega) :)) ?_
      repeat (first | (refine M0 ?_; first | refine SL ?_ | refine SB fun _ _ => ?_) | (refine M1 ?_; first | refine SC ?_ | refine SD ?_) | (refine M2 ?_; refine SE ?_) | (refine M3 ?_; first | refine SG ?_ | refine SF ?_) | (refine M4 ?_; refine SR ?_) | (refine M5 ?_; first | exact M7 | refine YM ?_ | refine YN ?_ ?_))
      refine XC.cond _ rfl (fun h6 => ?_) (fun h6 => ?_)
      · simp only [Bool.not_not, Bool.not_eq_true', Bool.not_eq_false', decide_eq_true_eq, decide_eq_false_iff_not] at h6
        repeat (first | (refine M0 ?_; first | refine SL ?_ | refine SB fun _ _ => ?_) | (refine M1 ?_; first | refine SC ?_ | refine SD ?_) | (refine M2 ?_; refine SE ?_) | (refine M3 ?_; first | refine SG ?_ | refine SF ?_) | (refine M4 ?_; refine SR ?_) | (refine M5 ?_; first | exact M7 | refine YM ?_ | refine YN ?_ ?_))
        refine XE.retg tok Try.results113 rfl (by simp only [and_self, and_true]) (fun w' S => ?_)
        exact ⟨_, rfl, StepR.err (stepE_3 hbad (.inr <| .inr h6)) (by decide) (hB2.trans S.toBelow)⟩
      · simp only [Bool.not_not, Bool.not_eq_true', Bool.not_eq_false', decide_eq_true_eq, decide_eq_false_iff_not] at h6
        repeat (first | (refine M0 ?_; first | refine SL ?_ | refine SB fun _ _ => ?_) | (refine M1 ?_; first | refine SC ?_ | refine SD ?_) | (refine M2 ?_; refine SE ?_) | (refine M3 ?_; first | refine SG ?_ | refine SF ?_) | (refine M4 ?_; refine SR ?_) | (refine M5 ?_; first | exact M7 | refine YM ?_ | refine YN ?_ ?_))
        refine XE.round (s := (2, W, ⟨none, 0, 0⟩)) (2 + 1, W, ⟨none, 0, 0⟩) ⟨by simp, hB2, hoF, hoT, fun _ => rfl, fun _ => c1 (by omega), fun _ => c2 (by omega), fun _ => (by rw [e3]; omega), fun x hx => by cases hx⟩ (by simp) ZZSUB (fun _ h => h)
    · -- off
      repeat (first | (refine M0 ?_; first | refine SL ?_ | refine SB fun _ _ => ?_) | (refine M1 ?_; first | refine SC ?_ | refine SD ?_) | (refine M2 ?_; refine SE ?_) | (refine M3 ?_; first | refine SG ?_ | refine SF ?_) | (refine M4 ?_; refine SR ?_) | (refine M5 ?_; first | exact M7 | refine YM ?_ | refine YN ?_ ?_))
      refine XL.step _ (Ev.indexArr tok Try.underlying203 fn_one rfl (j := 3) rfl (by decide) rfl) rfl ?_
      repeat (first | (refine M0 ?_; first | refine SL ?_ | refine SB fun _ _ => ?_) | (refine M1 ?_; first | refine SC ?_ | refine SD ?_) | (refine M2 ?_; refine SE ?_) | (refine M3 ?_; first | refine SG ?_ | refine SF ?_) | (refine M4 ?_; refine SR ?_) | (refine M5 ?_; first | exact M7 | refine YM ?_ | refine YN ?_ ?_))
      refine XL.callT (B' := g9) 0 (fst := [.pointer (some ⟨g9, 0, none⟩)]) (cap := []) (vs := []) (ck rfl) rfl rfl rfl rfl rfl (fun w5 S5 => (off_any (g := g9) (p := p) (b := b) (q := q2) (s := ⟨vol3 b s t, s.fil⟩) (t := t) (r := ⟨none, 0, 0⟩) (f := ⟨t.river, overOf b t, leakOf b t.outer (vol2 b s t), 0, []⟩) (S5.obj (i := 0) rfl) ((hb2.below S5.toBelow).more (by omega)) ho o3 (by simp only; omega) :)) ?_
      repeat (first | (refine M0 ?_; first | refine SL ?_ | refine SB fun _ _ => ?_) | (refine M1 ?_; first | refine SC ?_ | refine SD ?_) | (refine M2 ?_; refine SE ?_) | (refine M3 ?_; first | refine SG ?_ | refine SF ?_) | (refine M4 ?_; refine SR ?_) | (refine M5 ?_; first | exact M7 | refine YM ?_ | refine YN ?_ ?_))
      refine XE.round (s := (3, W, ⟨none, 0, 0⟩)) (3 + 1, W, ⟨none, 0, 0⟩) ⟨by simp, hB2, hoF, hoT, fun _ => rfl, fun _ => c1 (by omega), fun _ => c2 (by omega), fun _ => c3 (by omega), fun x hx => by cases hx⟩ (by simp) ZZSUB (fun _ h => h)
    · -- polders
      repeat (first | (refine M0 ?_; first | refine SL ?_ | refine SB fun _ _ => ?_) | (refine M1 ?_; first | refine SC ?_ | refine SD ?_) | (refine M2 ?_; refine SE ?_) | (refine M3 ?_; first | refine SG ?_ | refine SF ?_) | (refine M4 ?_; refine SR ?_) | (refine M5 ?_; first | exact M7 | refine YM ?_ | refine YN ?_ ?_))
      refine XL.step _ (Ev.indexArr tok Try.underlying203 fn_one rfl (j := 4) rfl (by decide) rfl) rfl ?_
      repeat (first | (refine M0 ?_; first | refine SL ?_ | refine SB fun _ _ => ?_) | (refine M1 ?_; first | refine SC ?_ | refine SD ?_) | (refine M2 ?_; refine SE ?_) | (refine M3 ?_; first | refine SG ?_ | refine SF ?_) | (refine M4 ?_; refine SR ?_) | (refine M5 ?_; first | exact M7 | refine YM ?_ | refine YN ?_ ?_))
      have hk4v : b.v0 ≤ vol4 b s t ∧ vol4 b s t ≤ 1000000000 := (stepOk_of ho hs (stepE_0 hbad (c1 (by omega)) (c2 (by omega)) (c3 (by omega)))).v4
      by_cases hm0 : b.pols.length = 0
      · refine XL.callT (B' := g9) 0 (fst := [.pointer (some ⟨g9, 0, none⟩)]) (cap := []) (vs := []) (ck rfl) rfl rfl rfl rfl rfl (fun w5 S5 => (polders0_any (g := g9) (p := p) (b := b) (q := q2) (s := ⟨vol4 b s t, s.fil⟩) (t := t) (r := ⟨none, 0, 0⟩) (f := floK b s t 4) (S5.obj (i := 0) rfl) ((hb2.below S5.toBelow).more (by omega)) hm0 :)) ?_
        have e5 : staK b s t 5 = ⟨vol4 b s t, s.fil⟩ := by simp [staK, hm0, polV]
        have e6 : filS b s t 5 = s.fil := by simp [filS, stepS, hm0, rg]; rw [hm0] at hl; exact List.length_eq_zero_iff.1 hl
        have e7 : tkS b s t 5 = [] := by simp [tkS, stepF, hm0, rg]
        repeat (first | (refine M0 ?_; first | refine SL ?_ | refine SB fun _ _ => ?_) | (refine M1 ?_; first | refine SC ?_ | refine SD ?_) | (refine M2 ?_; refine SE ?_) | (refine M3 ?_; first | refine SG ?_ | refine SF ?_) | (refine M4 ?_; refine SR ?_) | (refine M5 ?_; first | exact M7 | refine YM ?_ | refine YN ?_ ?_))
        refine XE.round (s := (4, W, ⟨none, 0, 0⟩)) (4 + 1, W, ⟨none, 0, 0⟩) ⟨by simp, hB2, by simp only [e6]; exact hown, by simp only [e7]; exact World.ownsRow_nil _ _ _ _, fun h => absurd h (by simp), fun _ => c1 (by omega), fun _ => c2 (by omega), fun _ => c3 (by omega), fun x hx => by cases hx⟩ (by simp) ZZSUB (fun w6 S6 => by simp only [e5]; exact S6)
      · obtain ⟨fb, sp, hA, hnq, hbf, hheap, hlen, hcm⟩ := owns_block hownC (by omega)
        obtain ⟨Aq, nq, cq⟩ := q2
        simp only at hA hnq hlen hcm
        subst hA hnq
        have hfW := (Array.getElem?_eq_some_iff.1 hheap).1
        have hnot := hsQ fb rfl
        simp only [List.mem_cons, List.not_mem_nil, or_false, not_or] at hnot
        have hs' : StaOk b ⟨vol4 b s t, s.fil⟩ := ⟨hs.len, hk4v, hs.fil⟩
        refine XL.callr (fst := [.pointer (some ⟨g9, 0, none⟩)]) (cap := []) (vs := []) (fun w5 v w6 => v = .bool true ∧ ∃ r : SV, Sys w.heap.size w5 [(g9, watO p b ⟨some ⟨fb, 0, none⟩, s.fil.length, cq⟩ (staK b s t 5) t r (floK b s t 5)), (fb, cel 3 (ints (stepS b s t).fil ++ sp))] w6 ∧
          w6.ownsRow w5.heap.size 3 1 (svV r) (stepF b s t).taken.length (ints (stepF b s t).taken)) (ck rfl) rfl rfl rfl (fun w5 S5 => ?_) (fun w5 v w6 S5 hR => ?_)
        · have hfw5 : w5.heap[fb]? = some (cel 3 (ints s.fil ++ sp)) := by
            rw [S5.old fb hfW (fun e he e1 => by
              simp only [List.mem_cons, List.not_mem_nil, or_false] at he
              rcases he with rfl | rfl | rfl | rfl | rfl | rfl <;> simp only at e1 <;> omega)]
            exact hheap
          refine (polders_any (g := g9) (fb := fb) (B := w.heap.size) (p := p) (b := b) (n := s.fil.length) (c := cq) (s := ⟨vol4 b s t, s.fil⟩) (t := t) (f := floK b s t 4) (sp := sp) (S5.obj (i := 0) rfl) hfw5 (fun e => hnot.1 e.symm) (by omega) (by omega) (hb2.below S5.toBelow) ho hs' hs.len).mono fun e w6 he => ?_
          obtain ⟨rfl, r1, hS, hT⟩ := he
          refine ⟨_, rfl, rfl, r1, ?_, ?_⟩
          · simp only [polV_vol, polT_vol] at hS
            exact hS
          · simp only [polT_vol] at hT
            have : (stepF b s t).taken.length = b.pols.length := by simp [stepF, rg_len]
            rw [this]; exact hT
        · obtain ⟨rfl, r1, hS, hT⟩ := hR
          refine ⟨_, w6, S5.turnedF 0 rfl rfl hS (fun e he e1 => ?_), ?_⟩
          · simp only [List.mem_cons, List.not_mem_nil, or_false] at he
            rcases he with rfl | rfl | rfl | rfl | rfl | rfl <;> simp only at e1 <;> omega
          have hB6 : Below w.heap.size w w6 := hB2.trans (S5.toBelow.trans hS.toBelow)
          have hfil : (stepS b s t).fil.length = s.fil.length := by simp [stepS, rg_len, hl]
          have hfb6 := (hS.own (fb, _) (List.mem_cons_of_mem _ List.mem_cons_self)).2
          have hids := fun e he => S5.lt (e := e) he
          simp only [List.mem_cons, forall_eq_or_imp, List.not_mem_nil, false_implies, implies_true, and_true] at hids
          repeat (first | (refine M0 ?_; first | refine SL ?_ | refine SB fun _ _ => ?_) | (refine M1 ?_; first | refine SC ?_ | refine SD ?_) | (refine M2 ?_; refine SE ?_) | (refine M3 ?_; first | refine SG ?_ | refine SF ?_) | (refine M4 ?_; refine SR ?_) | (refine M5 ?_; first | exact M7 | refine YM ?_ | refine YN ?_ ?_))
          refine XE.round (s := (4, W, ⟨none, 0, 0⟩)) (4 + 1, w6, r1) ⟨by simp, hB6, ?_, ?_, fun h => absurd h (by simp), fun _ => c1 (by omega), fun _ => c2 (by omega), fun _ => c3 (by omega), fun x hx hm' => ?_⟩ (by simp) ZZSUB (fun _ h => h)
          · exact owns_of (xs := ints (stepS b s t).fil) hfb6 (by omega) (by rw [ints_len, hfil]) (by rw [ints_len, hfil, ← hlen, ints_len]) hcm
          · exact owns_base hT (Nat.le_trans hB2.size S5.size)
          · have := hT.lt x hx
            simp only [List.mem_cons, List.not_mem_nil, or_false] at hm'
            omega
    · omega
  · simp only [decide_eq_false_iff_not] at h5
    obtain rfl : k = 5 := by omega
    have hE : stepE b s t = 0 := stepE_0 hbad (c1 (by omega)) (c2 (by omega)) (c3 (by omega))
    repeat (first | (refine M0 ?_; first | refine SL ?_ | refine SB fun _ _ => ?_) | (refine M1 ?_; first | refine SC ?_ | refine SD ?_) | (refine M2 ?_; refine SE ?_) | (refine M3 ?_; first | refine SG ?_ | refine SF ?_) | (refine M4 ?_; refine SR ?_) | (refine M5 ?_; first | exact M7 | refine YM ?_ | refine YN ?_ ?_))
    refine XC.drawRS _ [(g9, watO p b q2 (staK b s t 5) t r (floK b s t 5))] [0, 1, 2, 3, 4, 5, 6, 7] [8, 9, 10] mixed (fun _ h => Sys.anchor (by assumption) h (by simp) (by simp)) rfl (by kernel_rfl) ?_
    repeat (any_goals (first | (refine M0 ?_; first | refine SL ?_ | refine SB fun _ _ => ?_ | (refine XL.split _ _ rfl (fun h => ?_) (fun h => ?_) <;> rw [h])) | (refine M1 ?_; first | refine SC ?_ | refine SD ?_ | refine XC.cond _ rfl (fun h => ?_) (fun h => ?_)) | (refine M2 ?_; refine SE ?_) | (refine M3 ?_; first | refine SG ?_ | refine SF ?_ | (refine Fw.split _ _ rfl (fun h => ?_) (fun h => ?_) <;> rw [h])) | (refine M4 ?_; refine SR ?_) | (refine M5 ?_; first | exact M7 | refine YM ?_ | refine YN ?_ ?_)))
    refine XE.retg tok Try.results113 rfl (by simp only [and_self, and_true]) (fun w' S => ?_)
    have sepL : ∀ (v : SV), (∀ x, (svV v).ownBlock = some x → x ∉ [g9, g7, g6, g5, g4, g3]) → ∀ k, (svV v).ownBlock = some k → ∀ e : Nat × Obj, e.1 ∈ [g9, g7, g6, g5, g4, g3] → e.1 ≠ k := fun v hv k hk e he e1 => hv k hk (e1 ▸ he)
    refine ⟨_, rfl, q2, r, by rw [outS_0 hE, outF_0 hE, hE]; rfl, ?_, ?_, hBW.trans S.toBelow⟩
    · rw [outS_0 hE]
      refine IntsAt.own (e := 3) ?_
      have := owns_sys hoF S (fun k hk e he => sepL q2 hsQ k hk e (by simp only [List.mem_cons, List.not_mem_nil, or_false] at he ⊢; rcases he with rfl | rfl | rfl | rfl | rfl | rfl <;> simp))
      have hfil : (stepS b s t).fil.length = s.fil.length := by simp [stepS, rg_len, hl]
      rw [hfil]; exact this
    · rw [outF_0 hE]
      exact IntsAt.own (e := 3) (owns_sys hoT S (fun k hk e he => sepL r hsR k hk e (by simp only [List.mem_cons, List.not_mem_nil, or_false] at he ⊢; rcases he with rfl | rfl | rfl | rfl | rfl | rfl <;> simp)))
end Go.Proofs.Ytmckmlmfilmiaaa.X
/-
  The walk of the document's step.
-/
namespace Go.Proofs.Ytmckmlmfilmiaaa.X
open Go Go.RowKit Go.Proofs.Ytmckmlmfilmiaaa.Bs
set_option linter.unusedVariables false
/-- what leaks, as the document reckons it. -/
theorem leak_alt (b : Bas) (outer v : Int) : b.leak * (outer * den b v - num b v) = b.leak * (-(num b v) - (-outer) * den b v) := by rw [Int.neg_mul]; congr 1; omega
theorem take_alt {b : Bas} (ho : Ok b) {v : Int} {i : Nat} (hi : i < b.pols.length) (h2 : (b.pol i).sill * den b v < num b v) :
    ((b.pol i).take * (num b v - (b.pol i).sill * den b v)).tdiv (den b v) = (b.pol i).take * (num b v - (b.pol i).sill * den b v) / den b v :=
  Int.tdiv_eq_ediv_of_nonneg (Int.mul_nonneg (ho.take i hi).1 (by omega))
set_option maxHeartbeats 16000000 in
theorem refStep_any {p : BV} {b : Bas} {q : SV} {s : Sta} {t : Tick} {w : World} (hb : BasAt w w.heap.size p b) (hq : IntsAt w (Lt w.heap.size) q s.fil) (ho : Ok b) (hs : StaOk b s) :
    Calls Try.prog 104 #[basV p b, staV q s, tickV t] w fun e w' => ∃ v, e = .returned v ∧ StepR b s t w v w' := by
  have hm := ho.m6
  have hl := hs.len
  obtain ⟨A, n, c⟩ := q
  have hn := hq.len
  simp only at hn
  subst hn
  obtain ⟨Ap, n1, c1, A2, n2, c2⟩ := p
  have hn1 := hb.n_eq
  have hn2 := hb.n2_eq
  simp only at hn1 hn2
  subst hn1 hn2
  have h2r := ho.n2
  obtain ⟨ad, rfl, hlt⟩ := hb.rows.addr (by simp only; omega)
  simp only [basV, basC, staV, staC, tickV, tickC]
  refine enter Try.func104 rfl Try.ntmps104 rfl ?_; simp only [frame, Nat.zero_add, Nat.reduceAdd]
  repeat (any_goals (first | (refine M0 ?_; first | refine SL ?_ | refine SB fun _ _ => ?_ | (refine XL.split _ _ rfl (fun h => ?_) (fun h => ?_) <;> rw [h]) | refine Y4 (Ev.call (f := 114) (ck rfl) rfl (fun w _ => level_any _ w)) ?_ | refine Y4 (Ev.call (f := 108) (ck rfl) rfl (fun w _ => in_any _ _ _ w)) ?_) | (refine M1 ?_; first | refine SC ?_ | refine SD ?_ | refine XC.cond _ rfl (fun h => ?_) (fun h => ?_)) | (refine M2 ?_; refine SE ?_) | (refine M3 ?_; first | refine SG ?_ | refine SF ?_ | (refine Fw.split _ _ rfl (fun h => ?_) (fun h => ?_) <;> rw [h]) | refine YF (Ev.call (f := 114) (ck rfl) rfl (fun w _ => level_any _ w)) ?_ | refine YF (Ev.call (f := 108) (ck rfl) rfl (fun w _ => in_any _ _ _ w)) ?_) | (refine M4 ?_; refine SR ?_) | (refine M5 ?_; first | exact M7 | refine YM ?_ | refine YN ?_ ?_)))
  all_goals simp only [Bool.not_not] at *
  all_goals try (refine XE.retg tok Try.results104 rfl (by simp only [and_self, and_true]) (fun w' S => ?_)
                 refine ⟨_, rfl, StepR.err (stepE_7 (by simp [tickBad, *])) (by decide) S.toBelow⟩)
  rename_i g3 hg3 g4 hg4 g5 hg5 g6 hg6 g7 hg7 h1 h2
  have h3 := h
  have hbad : tickBad t = false := by simp [tickBad, *]
  have o1 := outB_f.1 h1
  have o2 := outB_f.1 h2
  have o3 := outB_f.1 h3
  have hv0 := v0_bd ho
  have hvs := hs.vol
  have hov := over_bd ho t o1
  have hcr := ho.crest
  have e1 : vol1 s t = s.vol + t.river := rfl
  have e2 : vol2 b s t = vol1 s t + overOf b t := rfl
  have e0 : b.v0 = (b.row 0).vol := rfl
  have k0 : i64in (overOf b t) := by unfold i64in; omega
  have k1 : i64in (b.over * max 0 (t.outer - b.crest)) := k0
  repeat (first | (refine M0 ?_; first | refine SL ?_ | refine SB fun _ _ => ?_ | refine Y4 (Ev.load_old tok rfl rfl (add_lt2 hlt) (hb.rowVol (i := 0) (by omega))) ?_) | (refine M1 ?_; first | refine SC ?_ | refine SD ?_) | (refine M2 ?_; refine SE ?_) | (refine M3 ?_; first | refine SG ?_ | refine SF ?_ | refine YF (Ev.load_old tok rfl rfl (add_lt2 hlt) (hb.rowVol (i := 0) (by omega))) ?_) | (refine M4 ?_; refine SR ?_) | (refine M5 ?_; first | exact M7 | refine YM ?_ | refine YN ?_ ?_))
  rename_i g9 hg9
  refine XC.cond _ rfl (fun h4 => ?_) (fun h4 => ?_)
  · simp only [decide_eq_true_eq] at h4
    repeat (first | (refine M0 ?_; first | refine SL ?_ | refine SB fun _ _ => ?_) | (refine M1 ?_; first | refine SC ?_ | refine SD ?_) | (refine M2 ?_; refine SE ?_) | (refine M3 ?_; first | refine SG ?_ | refine SF ?_) | (refine M4 ?_; refine SR ?_) | (refine M5 ?_; first | exact M7 | refine YM ?_ | refine YN ?_ ?_))
    refine XE.retg tok Try.results104 rfl (by simp only [and_self, and_true]) (fun w' S => ?_)
    exact ⟨_, rfl, StepR.err (stepE_3 hbad (.inl h4)) (by decide) S.toBelow⟩
  simp only [decide_eq_false_iff_not] at h4
  have k2 : i64in (s.vol + t.river + b.over * max 0 (t.outer - b.crest)) := by have : i64in (s.vol + t.river + overOf b t) := (by unfold i64in; omega); exact this
  repeat (first | (refine M0 ?_; first | refine SL ?_ | refine SB fun _ _ => ?_) | (refine M1 ?_; first | refine SC ?_ | refine SD ?_) | (refine M2 ?_; refine SE ?_) | (refine M3 ?_; first | refine SG ?_ | refine SF ?_) | (refine M4 ?_; refine SR ?_) | (refine M5 ?_; first | exact M7 | refine YM ?_ | refine YN ?_ ?_))
  refine XC.cond _ rfl (fun h5 => ?_) (fun h5 => ?_)
  · simp only [decide_eq_true_eq] at h5
    repeat (first | (refine M0 ?_; first | refine SL ?_ | refine SB fun _ _ => ?_) | (refine M1 ?_; first | refine SC ?_ | refine SD ?_) | (refine M2 ?_; refine SE ?_) | (refine M3 ?_; first | refine SG ?_ | refine SF ?_) | (refine M4 ?_; refine SR ?_) | (refine M5 ?_; first | exact M7 | refine YM ?_ | refine YN ?_ ?_))
    refine XE.retg tok Try.results104 rfl (by simp only [and_self, and_true]) (fun w' S => ?_)
    exact ⟨_, rfl, StepR.err (stepE_3 hbad (.inr (.inl h5))) (by decide) S.toBelow⟩
  simp only [decide_eq_false_iff_not] at h5
  rw [show s.vol + t.river + b.over * max 0 (t.outer - b.crest) = vol2 b s t from rfl] at *
  rw [show b.over * max 0 (t.outer - b.crest) = overOf b t from rfl] at *
  have hv2 : b.v0 ≤ vol2 b s t ∧ vol2 b s t ≤ 1000000000 := by omega
  have hd := den_pos ho.rowsOk (vol2 b s t)
  have hnm := num_bd ho.rowsOk hv2
  obtain ⟨j1, j2, j3⟩ := leakQ_bd ho hv2 o1
  rw [← leak_alt] at j2
  have j4 : -20000000000000 ≤ t.outer * den b (vol2 b s t) ∧ t.outer * den b (vol2 b s t) ≤ 20000000000000 := by rw [Int.neg_mul] at j1; omega
  repeat (first | (refine M0 ?_; first | refine SL ?_ | refine SB fun _ _ => ?_ | refine Y4 (Ev.call (f := 118) (ck rfl) rfl (fun w S => (refExact_any (p := ⟨some ad, b.rows.length, c1, A2, b.pols.length, c2⟩) (hb.sys S) ho.rowsOk hv2 :))) ?_ | refine Y4 (Ev.call (f := 119) (ck rfl) rfl (fun w S => (down_any (a := b.leak * (t.outer * den b (vol2 b s t) - num b (vol2 b s t))) (b := den b (vol2 b s t)) hd.1 (by omega) w :))) ?_) | (refine M1 ?_; first | refine SC ?_ | refine SD ?_) | (refine M2 ?_; refine SE ?_) | (refine M3 ?_; first | refine SG ?_ | refine SF ?_ | refine YF (Ev.call (f := 118) (ck rfl) rfl (fun w S => (refExact_any (p := ⟨some ad, b.rows.length, c1, A2, b.pols.length, c2⟩) (hb.sys S) ho.rowsOk hv2 :))) ?_ | refine YF (Ev.call (f := 119) (ck rfl) rfl (fun w S => (down_any (a := b.leak * (t.outer * den b (vol2 b s t) - num b (vol2 b s t))) (b := den b (vol2 b s t)) hd.1 (by omega) w :))) ?_) | (refine M4 ?_; refine SR ?_) | (refine M5 ?_; first | exact M7 | refine YM ?_ | refine YN ?_ ?_))
  rw [show max (b.leak * (t.outer * den b (vol2 b s t) - num b (vol2 b s t)) / den b (vol2 b s t)) ((b.row 0).vol - vol2 b s t) = leakOf b t.outer (vol2 b s t) from by unfold leakOf leakQ; rw [leak_alt]; rfl]
  have e3 : vol3 b s t = vol2 b s t + leakOf b t.outer (vol2 b s t) := rfl
  have e4 : b.v0 - vol2 b s t ≤ leakOf b t.outer (vol2 b s t) ∧ leakOf b t.outer (vol2 b s t) ≤ 900000000000000000 := by unfold leakOf; omega
  have k3 : i64in (vol2 b s t + leakOf b t.outer (vol2 b s t)) := by unfold i64in; omega
  repeat (first | (refine M0 ?_; first | refine SL ?_ | refine SB fun _ _ => ?_) | (refine M1 ?_; first | refine SC ?_ | refine SD ?_) | (refine M2 ?_; refine SE ?_) | (refine M3 ?_; first | refine SG ?_ | refine SF ?_) | (refine M4 ?_; refine SR ?_) | (refine M5 ?_; first | exact M7 | refine YM ?_ | refine YN ?_ ?_))
  refine XC.cond _ rfl (fun h6 => ?_) (fun h6 => ?_)
  · simp only [decide_eq_true_eq] at h6
    repeat (first | (refine M0 ?_; first | refine SL ?_ | refine SB fun _ _ => ?_) | (refine M1 ?_; first | refine SC ?_ | refine SD ?_) | (refine M2 ?_; refine SE ?_) | (refine M3 ?_; first | refine SG ?_ | refine SF ?_) | (refine M4 ?_; refine SR ?_) | (refine M5 ?_; first | exact M7 | refine YM ?_ | refine YN ?_ ?_))
    refine XE.retg tok Try.results104 rfl (by simp only [and_self, and_true]) (fun w' S => ?_)
    exact ⟨_, rfl, StepR.err (stepE_3 hbad (.inr (.inr h6))) (by decide) S.toBelow⟩
  simp only [decide_eq_false_iff_not] at h6
  rw [show vol2 b s t + leakOf b t.outer (vol2 b s t) = vol3 b s t from rfl] at *
  have hE : stepE b s t = 0 := stepE_0 hbad (by rw [e1]; omega) (by omega) (by omega)
  have hok := stepOk_of ho hs hE
  have hv3 := hok.v3
  have hv4 := hok.v4
  have k4 : i64in (vol3 b s t - (b.row 0).vol) := by unfold i64in; omega
  have k5 : i64in (vol3 b s t - min t.out (vol3 b s t - (b.row 0).vol)) := by have : i64in (vol4 b s t) := (by unfold i64in; omega); exact this
  repeat (first | (refine M0 ?_; first | refine SL ?_ | refine SB fun _ _ => ?_) | (refine M1 ?_; first | refine SC ?_ | refine SD ?_) | (refine M2 ?_; refine SE ?_) | (refine M3 ?_; first | refine SG ?_ | refine SF ?_) | (refine M4 ?_; refine SR ?_) | (refine M5 ?_; first | exact M7 | refine YM ?_ | refine YN ?_ ?_))
  rw [show min t.out (vol3 b s t - (b.row 0).vol) = outOf b s t from rfl]
  rw [show vol3 b s t - outOf b s t = vol4 b s t from rfl]
  refine XC.loopk [3, 4, 6, 7, 9] rfl (fun x : Nat × World × SV × SV => [(11, .int .i64 (polV b s (vol4 b s t) x.1)), (14, svV x.2.2.1), (15, .int .i64 (x.1 : Nat))])
    (fun x => [(g9, cel 162 (floC x.2.2.2 (floK b s t 4))), _, _, _, _, _]) (fun x => x.2.1)
    (fun x => x.1 ≤ b.pols.length ∧ Below w.heap.size w x.2.1 ∧ x.2.1.ownsRow w.heap.size 3 1 (svV x.2.2.1) x.1 (ints (rg x.1 fun i => s.f i + polT b s (vol4 b s t) i)) ∧
      x.2.1.ownsRow w.heap.size 3 1 (svV x.2.2.2) x.1 (ints (rg x.1 fun i => polT b s (vol4 b s t) i)) ∧ (∀ k, (svV x.2.2.1).ownBlock = some k → k ∉ [g9, g7, g6, g5, g4, g3]) ∧
      (∀ k, (svV x.2.2.2).ownBlock = some k → k ∉ [g9, g7, g6, g5, g4, g3] ∧ (svV x.2.2.1).ownBlock ≠ some k))
    (fun x => b.pols.length - x.1) (0, w, ⟨none, 0, 0⟩, ⟨none, 0, 0⟩) ⟨Nat.zero_le _, Below.refl _ _, World.ownsRow_nil _ _ _ _, World.ownsRow_nil _ _ _ _, fun k hk => (by cases hk), fun k hk => (by cases hk)⟩ ZZSUB (fun _ h => h) ?_
  rintro ⟨k, W, rF, rT⟩ ⟨hk, hBW, hoF, hoT, sF, sT⟩
  simp only at hk hBW hoF hoT sF sT
  simp only [floC, svV]
  dsimp only [List.cons_append, List.nil_append]
  repeat (first | (refine M0 ?_; first | refine SL ?_ | refine SB fun _ _ => ?_) | (refine M1 ?_; first | refine SC ?_ | refine SD ?_) | (refine M2 ?_; refine SE ?_) | (refine M3 ?_; first | refine SG ?_ | refine SF ?_) | (refine M4 ?_; refine SR ?_) | (refine M5 ?_; first | exact M7 | refine YM ?_ | refine YN ?_ ?_))
  refine XC.cond _ rfl (fun h7 => ?_) (fun h7 => ?_)
  · have hkm : k < b.pols.length := by simpa using h7
    have hbW := hb.below hBW
    have hqW := hq.below hBW
    obtain ⟨ad3, rfl, hlt3, hc3⟩ := hqW.at_ (by omega)
    obtain ⟨ad2, rfl, hlt2⟩ := hb.pols.addr (by simp only; omega)
    have hpv := polV_bd ho hs (v := vol4 b s t) hv4 k hk
    have hv : b.v0 ≤ polV b s (vol4 b s t) k ∧ polV b s (vol4 b s t) k ≤ 1000000000 := by omega
    have hdk := den_pos ho.rowsOk (polV b s (vol4 b s t) k)
    have hnk := num_bd ho.rowsOk hv
    obtain ⟨q1, q2⟩ := takeOver_bd ho hv hkm
    have htk := takeOf_bd ho hv hkm (hs.fil k hkm)
    have hrm := ho.room k hkm
    have hfk := hs.fil k hkm
    have hfa : 0 ≤ at0 s.fil k ∧ at0 s.fil k ≤ (b.pol k).room := hfk
    obtain ⟨tk, htkq⟩ : ∃ tk, tk = takeOf b k (polV b s (vol4 b s t) k) (s.f k) := ⟨_, rfl⟩
    repeat (first | (refine M0 ?_; first | refine SL ?_ | refine SB fun _ _ => ?_ | refine Y4 (Ev.load_old_agg tok (polC (b.pol k)) rfl rfl rfl (add_lt hlt2) (hbW.pol hkm)) ?_) | (refine M1 ?_; first | refine SC ?_ | refine SD ?_) | (refine M2 ?_; refine SE ?_) | (refine M3 ?_; first | refine SG ?_ | refine SF ?_ | refine YF (Ev.load_old_agg tok (polC (b.pol k)) rfl rfl rfl (add_lt hlt2) (hbW.pol hkm)) ?_) | (refine M4 ?_; refine SR ?_) | (refine M5 ?_; first | exact M7 | refine YM ?_ | refine YN ?_ ?_))
    rename_i gx hgx
    repeat (first | (refine M0 ?_; first | refine SL ?_ | refine SB fun _ _ => ?_ | refine Y4 (Ev.call (f := 118) (ck rfl) rfl (fun w S => (refExact_any (p := ⟨some ad, b.rows.length, c1, some ad2, b.pols.length, c2⟩) (hbW.sys S) ho.rowsOk hv :))) ?_) | (refine M1 ?_; first | refine SC ?_ | refine SD ?_) | (refine M2 ?_; refine SE ?_) | (refine M3 ?_; first | refine SG ?_ | refine SF ?_ | refine YF (Ev.call (f := 118) (ck rfl) rfl (fun w S => (refExact_any (p := ⟨some ad, b.rows.length, c1, some ad2, b.pols.length, c2⟩) (hbW.sys S) ho.rowsOk hv :))) ?_) | (refine M4 ?_; refine SR ?_) | (refine M5 ?_; first | exact M7 | refine YM ?_ | refine YN ?_ ?_))
    refine XC.cutln [3, 4, 6, 7, 9, 11, 14, 15] rfl (fun _ : Unit => [(19, .int .i64 tk)]) (fun _ => []) (fun _ => True) ?_ (fun _ _ => ?_)
    · refine XC.cond _ rfl (fun h8 => ?_) (fun h8 => ?_)
      · simp only [decide_eq_true_eq] at h8
        have h8' : (b.pol k).sill * den b (polV b s (vol4 b s t) k) < num b (polV b s (vol4 b s t) k) := h8
        have hta := take_alt ho hkm h8'
        unfold takeOf at htkq
        rw [if_pos h8'] at htkq
        repeat (first | (refine M0 ?_; first | refine SL ?_ | refine SB fun _ _ => ?_ | refine Y4 (Ev.load_old tok rfl rfl (add_lt hlt3) (hc3 k (by omega))) ?_) | (refine M1 ?_; first | refine SC ?_ | refine SD ?_) | (refine M2 ?_; refine SE ?_) | (refine M3 ?_; first | refine SG ?_ | refine SF ?_ | refine YF (Ev.load_old tok rfl rfl (add_lt hlt3) (hc3 k (by omega))) ?_) | (refine M4 ?_; refine SR ?_) | (refine M5 ?_; first | exact M7 | refine YM ?_ | refine YN ?_ ?_))
        rw [hta]
        rw [show min ((b.pol k).take * (num b (polV b s (vol4 b s t) k) - (b.pol k).sill * den b (polV b s (vol4 b s t) k)) / den b (polV b s (vol4 b s t) k)) ((b.pol k).room - at0 s.fil k) = tk from htkq.symm]
        refine XE.leaf () ZZSUB (fun _ S' => by first | exact S' | exact S'.perm (by repeat (first | exact List.Perm.refl _ | refine perm1 ?_ | refine List.Perm.cons _ ?_ | refine perm2 ?_)) | exact (S'.pop (by assumption)) | exact (S'.pop2 (by assumption))) ?_
        trivial
      · simp only [decide_eq_false_iff_not] at h8
        unfold takeOf at htkq
        rw [if_neg h8] at htkq
        rw [htkq]
        repeat (first | (refine M0 ?_; first | refine SL ?_ | refine SB fun _ _ => ?_) | (refine M1 ?_; first | refine SC ?_ | refine SD ?_) | (refine M2 ?_; refine SE ?_) | (refine M3 ?_; first | refine SG ?_ | refine SF ?_) | (refine M4 ?_; refine SR ?_) | (refine M5 ?_; first | exact M7 | refine YM ?_ | refine YN ?_ ?_))
        refine XE.leaf () ZZSUB (fun _ S' => by first | exact S' | exact S'.perm (by repeat (first | exact List.Perm.refl _ | refine perm1 ?_ | refine List.Perm.cons _ ?_ | refine perm2 ?_)) | exact (S'.pop (by assumption)) | exact (S'.pop2 (by assumption))) ?_
        trivial
    dsimp only [List.cons_append, List.nil_append]
    rw [← htkq] at htk
    have k6 : i64in (at0 s.fil k + tk) := by have : i64in (s.f k + tk) := (by unfold i64in; omega); exact this
    repeat (first | (refine M0 ?_; first | refine SL ?_ | refine SB fun _ _ => ?_) | (refine M1 ?_; first | refine SC ?_ | refine SD ?_) | (refine M2 ?_; refine SE ?_) | (refine M3 ?_; first | refine SG ?_ | refine SF ?_) | (refine M4 ?_; refine SR ?_) | (refine M5 ?_; first | exact M7 | refine YM ?_ | refine YN ?_ ?_))
    refine XL.buildSlice tok rfl rfl rfl rfl rfl rfl rfl rfl rfl (fun gb hgb => ?_)
    have hWs : w.heap.size ≤ W.heap.size := hBW.size
    refine XL.append2 (v := svV rT) (m := 1) (n := k) (size := 1) (bytes := 8) (news := [.int .i64 tk]) int_el (by decide) rfl rfl rfl hoT
      (fun q hq' e he e1 => by
        have h9 := (sT q hq').1
        have h10 := hoT.lt q hq'
        simp only [List.mem_cons, List.not_mem_nil, or_false, not_or] at h9 he
        rcases he with rfl | rfl | rfl | rfl | rfl | rfl | rfl | rfl <;> simp only at e1 <;> omega) rfl
      (fun w' S j u hj => by rw [add_off]; exact (S.cell (List.mem_cons_self) _).trans (by simpa using hj)) rfl (by unfold maxLen; omega) (by omega) hWs
      (List.Sublist.cons _ (List.Sublist.cons _ (List.Sublist.refl _))) (fun w1 v1 w2 S1 ho1 hg1 _ hf1 => ?_)
    obtain ⟨r2, rfl, hr2⟩ := owns_sv ho1
    have hids := fun e he => S1.lt (e := e) he
    simp only [List.mem_cons, forall_eq_or_imp, List.not_mem_nil, false_implies, implies_true, and_true] at hids
    have hBW2 : Below w.heap.size w w2 := hBW.trans (grown_below S1 hg1 (fun q hq' => (hoT.lt q hq').1))
    have hW1 : W.heap.size ≤ w1.heap.size := S1.size
    have hF1 : w1.ownsRow w.heap.size 3 1 (svV rF) k (ints (rg k fun i => s.f i + polT b s (vol4 b s t) i)) := owns_sys hoF S1 (fun q hq' e he e1 => by
      have h9 := sF q hq'
      have h10 := hoF.lt q hq'
      simp only [List.mem_cons, List.not_mem_nil, or_false, not_or] at h9 he
      rcases he with rfl | rfl | rfl | rfl | rfl | rfl | rfl | rfl <;> simp only at e1 <;> omega)
    have hF2 := hF1.kept hg1 (by
      cases hx : (svV rF).ownBlock with
      | none => exact .inl rfl
      | some q => exact .inr fun e => (sT q e.symm).2 hx)
    have hqW2 := hq.below hBW2
    obtain ⟨ad3', e3', hlt3', hc3'⟩ := hqW2.at_ (by omega)
    cases e3'
    simp only [svV]
    repeat (first | (refine M0 ?_; first | refine SL ?_ | refine SB fun _ _ => ?_ | refine Y4 (Ev.load_old tok rfl rfl (add_lt hlt3') (hc3' k (by omega))) ?_) | (refine M1 ?_; first | refine SC ?_ | refine SD ?_) | (refine M2 ?_; refine SE ?_) | (refine M3 ?_; first | refine SG ?_ | refine SF ?_ | refine YF (Ev.load_old tok rfl rfl (add_lt hlt3') (hc3' k (by omega))) ?_) | (refine M4 ?_; refine SR ?_) | (refine M5 ?_; first | exact M7 | refine YM ?_ | refine YN ?_ ?_))
    refine XL.buildSlice tok rfl rfl rfl rfl rfl rfl rfl rfl rfl (fun gb2 hgb2 => ?_)
    refine XL.append2 (v := svV rF) (m := 1) (n := k) (size := 1) (bytes := 8) (news := [.int .i64 (at0 s.fil k + tk)]) int_el (by decide) rfl rfl rfl hF2
      (fun q hq' e he e1 => by
        have h9 := sF q hq'
        have h10 := hF2.lt q hq'
        simp only [List.mem_cons, List.not_mem_nil, or_false, not_or] at h9 he
        rcases he with rfl | rfl | rfl | rfl | rfl | rfl | rfl <;> simp only at e1 <;> omega) rfl
      (fun w' S j u hj => by rw [add_off]; exact (S.cell (List.mem_cons_self) _).trans (by simpa using hj)) rfl (by unfold maxLen; omega) (by omega) hBW2.size
      (List.Sublist.cons _ (List.Sublist.refl _)) (fun w3 v3 w4 S3 ho3 hg3 _ hf3 => ?_)
    obtain ⟨r3, rfl, hr3⟩ := owns_sv ho3
    have h12 : w1.heap.size ≤ w2.heap.size := hg1.size
    have h23 : w2.heap.size ≤ w3.heap.size := S3.size
    have hBW4 : Below w.heap.size w w4 := hBW2.trans (grown_below S3 hg3 (fun q hq' => (hF2.lt q hq').1))
    have hT2 : ∀ q, (svV r2).ownBlock = some q → q ∉ [g9, g7, g6, g5, g4, g3] ∧ (svV rF).ownBlock ≠ some q ∧ w.heap.size ≤ q ∧ q < w2.heap.size := fun q hq' => by
      have h10 := ho1.lt q hq'
      rcases hf1 q hq' with h9 | h9
      · exact ⟨(sT q h9).1, (sT q h9).2, h10⟩
      · refine ⟨?_, fun hx => ?_, h10⟩
        · simp only [List.mem_cons, List.not_mem_nil, or_false, not_or]; omega
        · have := hoF.lt q hx; omega
    have hT3 : w3.ownsRow w.heap.size 3 1 (svV r2) (k + 1) (ints (rg k fun i => polT b s (vol4 b s t) i) ++ [.int .i64 tk]) := owns_sys ho1 S3 (fun q hq' e he e1 => by
      have h9 := hT2 q hq'
      simp only [List.mem_cons, List.not_mem_nil, or_false, not_or] at h9 he
      rcases he with rfl | rfl | rfl | rfl | rfl | rfl | rfl <;> simp only at e1 <;> omega)
    have hT4 := hT3.kept hg3 (by
      cases hx : (svV r2).ownBlock with
      | none => exact .inl rfl
      | some q => exact .inr fun e => (hT2 q hx).2.1 e.symm)
    simp only [svV]
    repeat (first | (refine M0 ?_; first | refine SL ?_ | refine SB fun _ _ => ?_) | (refine M1 ?_; first | refine SC ?_ | refine SD ?_) | (refine M2 ?_; refine SE ?_) | (refine M3 ?_; first | refine SG ?_ | refine SF ?_) | (refine M4 ?_; refine SR ?_) | (refine M5 ?_; first | exact M7 | refine YM ?_ | refine YN ?_ ?_))
    refine XE.roundW (s := (k, W, rF, rT)) ?_
    intro w5 S5
    have e5 : polV b s (vol4 b s t) (k + 1) = polV b s (vol4 b s t) k - tk := by rw [htkq]; rfl
    have e6 : ints (rg (k + 1) fun i => polT b s (vol4 b s t) i) = ints (rg k fun i => polT b s (vol4 b s t) i) ++ [.int .i64 tk] := by rw [rg_succ, htkq]; simp [ints, polT]
    have e7 : ints (rg (k + 1) fun i => s.f i + polT b s (vol4 b s t) i) = ints (rg k fun i => s.f i + polT b s (vol4 b s t) i) ++ [.int .i64 (at0 s.fil k + tk)] := by rw [rg_succ, htkq]; simp [ints, polT]; rfl
    have hF3 : ∀ q, (svV r3).ownBlock = some q → q ∉ [g9, g7, g6, g5, g4, g3] ∧ (svV r2).ownBlock ≠ some q ∧ w.heap.size ≤ q := fun q hq' => by
      have h10 := ho3.lt q hq'
      rcases hf3 q hq' with h9 | h9
      · exact ⟨sF q h9, fun hx => (hT2 q hx).2.1 h9, h10.1⟩
      · refine ⟨?_, fun hx => ?_, h10.1⟩
        · simp only [List.mem_cons, List.not_mem_nil, or_false, not_or]; omega
        · have := (hT2 q hx).2.2.2; omega
    have sepL : ∀ (v : SV), (∀ x, (svV v).ownBlock = some x → x ∉ [g9, g7, g6, g5, g4, g3]) → ∀ k, (svV v).ownBlock = some k → ∀ e : Nat × Obj, e.1 ∈ [g9, g7, g6, g5, g4, g3] → e.1 ≠ k := fun v hv k hk e he e1 => hv k hk (e1 ▸ he)
    refine ⟨(k + 1, w5, r3, r2), ⟨hkm, hBW4.trans S5.toBelow, ?_, ?_, fun q hq' => (hF3 q hq').1, fun q hq' => ⟨(hT2 q hq').1, fun hx => (hF3 q hx).2.1 hq'⟩⟩, ?_, ?_, ?_⟩
    · simp only [e7]
      exact owns_sys ho3 S5 (fun q hk e he => sepL r3 (fun x hx => (hF3 x hx).1) q hk e (by simp only [List.mem_cons, List.not_mem_nil, or_false] at he ⊢; rcases he with rfl | rfl | rfl | rfl | rfl | rfl <;> simp))
    · simp only [e6]
      exact owns_sys hT4 S5 (fun q hk e he => sepL r2 (fun x hx => (hT2 x hx).1) q hk e (by simp only [List.mem_cons, List.not_mem_nil, or_false] at he ⊢; rcases he with rfl | rfl | rfl | rfl | rfl | rfl <;> simp))
    · simp only; omega
    · simp only [e5]; exact ZZSUB
    · exact S5.rebase (List.Sublist.refl _)
  · have hge : k = b.pols.length := by simp at h7; omega
    subst hge
    repeat (first | (refine M0 ?_; first | refine SL ?_ | refine SB fun _ _ => ?_) | (refine M1 ?_; first | refine SC ?_ | refine SD ?_) | (refine M2 ?_; refine SE ?_) | (refine M3 ?_; first | refine SG ?_ | refine SF ?_) | (refine M4 ?_; refine SR ?_) | (refine M5 ?_; first | exact M7 | refine YM ?_ | refine YN ?_ ?_))
    refine XC.drawRS _ [(g9, cel 162 [.int .i64 (floK b s t 4).river, .int .i64 (floK b s t 4).over, .int .i64 (floK b s t 4).leak, .int .i64 (floK b s t 4).out, .slice rT.A rT.n rT.c])] [0, 1, 2, 3] [4, 5, 6] mixed (fun _ h => Sys.anchor (by assumption) h (by simp) (by simp)) rfl (by kernel_rfl) ?_
    repeat (any_goals (first | (refine M0 ?_; first | refine SL ?_ | refine SB fun _ _ => ?_ | (refine XL.split _ _ rfl (fun h => ?_) (fun h => ?_) <;> rw [h])) | (refine M1 ?_; first | refine SC ?_ | refine SD ?_ | refine XC.cond _ rfl (fun h => ?_) (fun h => ?_)) | (refine M2 ?_; refine SE ?_) | (refine M3 ?_; first | refine SG ?_ | refine SF ?_ | (refine Fw.split _ _ rfl (fun h => ?_) (fun h => ?_) <;> rw [h])) | (refine M4 ?_; refine SR ?_) | (refine M5 ?_; first | exact M7 | refine YM ?_ | refine YN ?_ ?_)))
    refine XE.retg tok Try.results104 rfl (by simp only [and_self, and_true]) (fun w' S => ?_)
    have sepL : ∀ (v : SV), (∀ x, (svV v).ownBlock = some x → x ∉ [g9, g7, g6, g5, g4, g3]) → ∀ k, (svV v).ownBlock = some k → ∀ e : Nat × Obj, e.1 ∈ [g9, g7, g6, g5, g4, g3] → e.1 ≠ k := fun v hv k hk e he e1 => hv k hk (e1 ▸ he)
    refine ⟨_, rfl, rF, rT, by rw [outS_0 hE, outF_0 hE, hE]; rfl, ?_, ?_, hBW.trans S.toBelow⟩
    · rw [outS_0 hE]
      refine IntsAt.own (e := 3) ?_
      have := owns_sys hoF S (fun k hk e he => sepL rF sF k hk e (by simp only [List.mem_cons, List.not_mem_nil, or_false] at he ⊢; rcases he with rfl | rfl | rfl | rfl | rfl | rfl <;> simp))
      have hfil : (stepS b s t).fil.length = b.pols.length := by simp [stepS, rg_len]
      rw [hfil]; exact this
    · rw [outF_0 hE]
      refine IntsAt.own (e := 3) ?_
      have := owns_sys hoT S (fun k hk e he => sepL rT (fun x hx => (sT x hx).1) k hk e (by simp only [List.mem_cons, List.not_mem_nil, or_false] at he ⊢; rcases he with rfl | rfl | rfl | rfl | rfl | rfl <;> simp))
      have hfil : (stepF b s t).taken.length = b.pols.length := by simp [stepF, rg_len]
      rw [hfil]; exact this
end Go.Proofs.Ytmckmlmfilmiaaa.X
/-
  The walks of Step (both texts), and of the examples' basin, state and tick.
-/
namespace Go.Proofs.Ytmckmlmfilmiaaa.Bs
open Classical in
noncomputable def fullE (b : Bas) (s : Sta) (t : Tick) : Int := if staErr b s = 0 then stepE b s t else staErr b s
open Classical in
noncomputable def fullS (b : Bas) (s : Sta) (t : Tick) : Sta := if staErr b s = 0 then outS b s t else ⟨0, []⟩
open Classical in
noncomputable def fullF (b : Bas) (s : Sta) (t : Tick) : Flo := if staErr b s = 0 then outF b s t else ⟨0, 0, 0, 0, []⟩
theorem full_n {b : Bas} {s : Sta} {t : Tick} (h : staErr b s ≠ 0) : fullE b s t = staErr b s ∧ fullS b s t = ⟨0, []⟩ ∧ fullF b s t = ⟨0, 0, 0, 0, []⟩ := by simp [fullE, fullS, fullF, h]
theorem full_0 {b : Bas} {s : Sta} {t : Tick} (h : staErr b s = 0) : fullE b s t = stepE b s t ∧ fullS b s t = outS b s t ∧ fullF b s t = outF b s t := by simp [fullE, fullS, fullF, h]
end Go.Proofs.Ytmckmlmfilmiaaa.Bs
namespace Go.Proofs.Ytmckmlmfilmiaaa.X
open Go Go.RowKit Go.Proofs.Ytmckmlmfilmiaaa.Bs
set_option linter.unusedVariables false
def StepCR (b : Bas) (s : Sta) (t : Tick) (w : World) (v : Value) (w' : World) : Prop :=
  ∃ q r : SV, v = .tuple ⟨[staV q (fullS b s t), floV r (fullF b s t), .int .i64 (fullE b s t)]⟩ ∧ IntsAt w' (Btw w.heap.size w'.heap.size) q (fullS b s t).fil ∧ IntsAt w' (Btw w.heap.size w'.heap.size) r (fullF b s t).taken ∧ Below w.heap.size w w'
set_option maxHeartbeats 4000000 in
theorem Step_any {p : BV} {b : Bas} {q : SV} {s : Sta} {t : Tick} {w : World} (hb : BasAt w w.heap.size p b) (hq : IntsAt w (Lt w.heap.size) q s.fil) :
    Calls Try.prog 100 #[basV p b, staV q s, tickV t] w fun e w' => ∃ v, e = .returned v ∧ StepCR b s t w v w' := by
  simp only [basV, basC, staV, staC, tickV, tickC]
  refine enter Try.func100 rfl Try.ntmps100 rfl ?_; simp only [frame, Nat.zero_add, Nat.reduceAdd]
  repeat (first | (refine M0 ?_; first | refine SL ?_ | refine SB fun _ _ => ?_ | refine Y4 (Ev.call (f := 26) (ck rfl) rfl (fun w S => (checkState_any (hb.sys S) (hq.arg S) :))) ?_) | (refine M1 ?_; first | refine SC ?_ | refine SD ?_) | (refine M2 ?_; refine SE ?_) | (refine M3 ?_; first | refine SG ?_ | refine SF ?_ | refine YF (Ev.call (f := 26) (ck rfl) rfl (fun w S => (checkState_any (hb.sys S) (hq.arg S) :))) ?_) | (refine M4 ?_; refine SR ?_) | (refine M5 ?_; first | exact M7 | refine YM ?_ | refine YN ?_ ?_))
  refine XC.cond _ rfl (fun h0 => ?_) (fun h0 => ?_)
  · repeat (first | (refine M0 ?_; first | refine SL ?_ | refine SB fun _ _ => ?_) | (refine M1 ?_; first | refine SC ?_ | refine SD ?_) | (refine M2 ?_; refine SE ?_) | (refine M3 ?_; first | refine SG ?_ | refine SF ?_) | (refine M4 ?_; refine SR ?_) | (refine M5 ?_; first | exact M7 | refine YM ?_ | refine YN ?_ ?_))
    refine XE.retg tok Try.results100 rfl (by simp only [and_self, and_true]) (fun w' S => ?_)
    obtain ⟨f1, f2, f3⟩ := full_n (t := t) (show staErr b s ≠ 0 by simpa using h0)
    exact ⟨_, rfl, ⟨none, 0, 0⟩, ⟨none, 0, 0⟩, by rw [f1, f2, f3]; rfl, by rw [f2]; exact IntsAt.nil, by rw [f3]; exact IntsAt.nil, S.toBelow⟩
  have hE : staErr b s = 0 := by simpa using h0
  obtain ⟨ho, hs⟩ := staOk_of hE
  obtain ⟨f1, f2, f3⟩ := full_0 (t := t) hE
  repeat (first | (refine M0 ?_; first | refine SL ?_ | refine SB fun _ _ => ?_) | (refine M1 ?_; first | refine SC ?_ | refine SD ?_) | (refine M2 ?_; refine SE ?_) | (refine M3 ?_; first | refine SG ?_ | refine SF ?_) | (refine M4 ?_; refine SR ?_) | (refine M5 ?_; first | exact M7 | refine YM ?_ | refine YN ?_ ?_))
  refine XL.call (fst := []) (cap := []) (ck rfl) rfl rfl rfl (List.Sublist.refl _) (fun w1 v w2 => StepR b s t w1 v w2)
    (fun w1 S1 => (step_any (p := p) (hb.sys S1) (hq.arg S1) ho hs).mono fun e w' ⟨v, h, h4⟩ => ⟨v, h, h4, h4.choose_spec.choose_spec.2.2.2⟩) (fun w1 v w2 S1 hR hB S2 => ?_)
  obtain ⟨q2, r2, rfl, hq2, hr2, _⟩ := hR
  simp only [staV, staC, floV, floC]
  repeat (first | (refine M0 ?_; first | refine SL ?_ | refine SB fun _ _ => ?_) | (refine M1 ?_; first | refine SC ?_ | refine SD ?_) | (refine M2 ?_; refine SE ?_) | (refine M3 ?_; first | refine SG ?_ | refine SF ?_) | (refine M4 ?_; refine SR ?_) | (refine M5 ?_; first | exact M7 | refine YM ?_ | refine YN ?_ ?_))
  refine XE.retg tok Try.results100 rfl (by simp only [and_self, and_true]) (fun w' S => ?_)
  have hk : Keep (Btw w1.heap.size w2.heap.size) w2 _ := Keep.made S1 (Nat.le_refl _)
  refine ⟨_, rfl, q2, r2, by rw [f1, f2, f3]; rfl, ?_, ?_, S2.toBelow.trans S.toBelow⟩
  · rw [f2]
    exact (hq2.keep (hk.sysT S rfl)).mono fun k hk' => ⟨Nat.le_trans S1.size hk'.1, Nat.lt_of_lt_of_le hk'.2 S.size⟩
  · rw [f3]
    exact (hr2.keep (hk.sysT S rfl)).mono fun k hk' => ⟨Nat.le_trans S1.size hk'.1, Nat.lt_of_lt_of_le hk'.2 S.size⟩
set_option maxHeartbeats 4000000 in
theorem refStepC_any {p : BV} {b : Bas} {q : SV} {s : Sta} {t : Tick} {w : World} (hb : BasAt w w.heap.size p b) (hq : IntsAt w (Lt w.heap.size) q s.fil) :
    Calls Try.prog 77 #[basV p b, staV q s, tickV t] w fun e w' => ∃ v, e = .returned v ∧ StepCR b s t w v w' := by
  simp only [basV, basC, staV, staC, tickV, tickC]
  refine enter Try.func77 rfl Try.ntmps77 rfl ?_; simp only [frame, Nat.zero_add, Nat.reduceAdd]
  repeat (first | (refine M0 ?_; first | refine SL ?_ | refine SB fun _ _ => ?_ | refine Y4 (Ev.call (f := 84) (ck rfl) rfl (fun w S => (refCheckState_any (hb.sys S) (hq.arg S) :))) ?_) | (refine M1 ?_; first | refine SC ?_ | refine SD ?_) | (refine M2 ?_; refine SE ?_) | (refine M3 ?_; first | refine SG ?_ | refine SF ?_ | refine YF (Ev.call (f := 84) (ck rfl) rfl (fun w S => (refCheckState_any (hb.sys S) (hq.arg S) :))) ?_) | (refine M4 ?_; refine SR ?_) | (refine M5 ?_; first | exact M7 | refine YM ?_ | refine YN ?_ ?_))
  refine XC.cond _ rfl (fun h0 => ?_) (fun h0 => ?_)
  · repeat (first | (refine M0 ?_; first | refine SL ?_ | refine SB fun _ _ => ?_) | (refine M1 ?_; first | refine SC ?_ | refine SD ?_) | (refine M2 ?_; refine SE ?_) | (refine M3 ?_; first | refine SG ?_ | refine SF ?_) | (refine M4 ?_; refine SR ?_) | (refine M5 ?_; first | exact M7 | refine YM ?_ | refine YN ?_ ?_))
    refine XE.retg tok Try.results77 rfl (by simp only [and_self, and_true]) (fun w' S => ?_)
    obtain ⟨f1, f2, f3⟩ := full_n (t := t) (show staErr b s ≠ 0 by simpa using h0)
    exact ⟨_, rfl, ⟨none, 0, 0⟩, ⟨none, 0, 0⟩, by rw [f1, f2, f3]; rfl, by rw [f2]; exact IntsAt.nil, by rw [f3]; exact IntsAt.nil, S.toBelow⟩
  have hE : staErr b s = 0 := by simpa using h0
  obtain ⟨ho, hs⟩ := staOk_of hE
  obtain ⟨f1, f2, f3⟩ := full_0 (t := t) hE
  repeat (first | (refine M0 ?_; first | refine SL ?_ | refine SB fun _ _ => ?_) | (refine M1 ?_; first | refine SC ?_ | refine SD ?_) | (refine M2 ?_; refine SE ?_) | (refine M3 ?_; first | refine SG ?_ | refine SF ?_) | (refine M4 ?_; refine SR ?_) | (refine M5 ?_; first | exact M7 | refine YM ?_ | refine YN ?_ ?_))
  refine XL.call (fst := []) (cap := []) (ck rfl) rfl rfl rfl (List.Sublist.refl _) (fun w1 v w2 => StepR b s t w1 v w2)
    (fun w1 S1 => (refStep_any (p := p) (hb.sys S1) (hq.arg S1) ho hs).mono fun e w' ⟨v, h, h4⟩ => ⟨v, h, h4, h4.choose_spec.choose_spec.2.2.2⟩) (fun w1 v w2 S1 hR hB S2 => ?_)
  obtain ⟨q2, r2, rfl, hq2, hr2, _⟩ := hR
  simp only [staV, staC, floV, floC]
  repeat (first | (refine M0 ?_; first | refine SL ?_ | refine SB fun _ _ => ?_) | (refine M1 ?_; first | refine SC ?_ | refine SD ?_) | (refine M2 ?_; refine SE ?_) | (refine M3 ?_; first | refine SG ?_ | refine SF ?_) | (refine M4 ?_; refine SR ?_) | (refine M5 ?_; first | exact M7 | refine YM ?_ | refine YN ?_ ?_))
  refine XE.retg tok Try.results77 rfl (by simp only [and_self, and_true]) (fun w' S => ?_)
  have hk : Keep (Btw w1.heap.size w2.heap.size) w2 _ := Keep.made S1 (Nat.le_refl _)
  refine ⟨_, rfl, q2, r2, by rw [f1, f2, f3]; rfl, ?_, ?_, S2.toBelow.trans S.toBelow⟩
  · rw [f2]
    exact (hq2.keep (hk.sysT S rfl)).mono fun k hk' => ⟨Nat.le_trans S1.size hk'.1, Nat.lt_of_lt_of_le hk'.2 S.size⟩
  · rw [f3]
    exact (hr2.keep (hk.sysT S rfl)).mono fun k hk' => ⟨Nat.le_trans S1.size hk'.1, Nat.lt_of_lt_of_le hk'.2 S.size⟩
end Go.Proofs.Ytmckmlmfilmiaaa.X
/-
  From the reading of the arguments to how they lie in memory.
-/
namespace Go.Proofs.Ytmckmlmfilmiaaa.X
open Go Go.RowKit Go.Proofs.Ytmckmlmfilmiaaa.Bs Go.WideShapes Go.ChangeShapes
set_option linter.unusedVariables false
section
variable {H : Type} {enc : TypeId × Value → H} {P : Program} {w : World} {base : Nat} {spare : Nat → Bool} {held : Bool}
/-- a field of one cell. -/
theorem fieldR {t : TypeId} {fs : Array Field} {fuel : Nat} {cs : List Value} {x : DataW H × List MemPlace} (ht : P.underlying t = some (.struct fs)) (h : DataW.trod enc P w base spare held fuel t cs = some x) :
    cs.length = P.cellsOf t ∧ ∃ n, ∀ (i : Nat) (f : Field), fs[i]? = some f → P.cellsOf f.type = 1 → f.offset < cs.length → ∃ c y, cs[f.offset]? = some c ∧ DataW.trod enc P w base spare held n f.type [c] = some y := by
  obtain ⟨xs, n, _, rfl, hl, hlen, hf⟩ := DataW.trod_struct ht h
  refine ⟨hl, n, fun i f hi hc ho => ?_⟩
  have h1 := hf i f hi
  have hi' : i < xs.length := by rw [hlen]; exact (Array.getElem?_eq_some_iff.1 hi).1
  rw [hc, List.getElem?_eq_getElem hi'] at h1
  refine ⟨cs[f.offset], xs[i], List.getElem?_eq_getElem ho, ?_⟩
  rw [List.drop_eq_getElem_cons ho, List.take_succ_cons, List.take_zero] at h1
  exact h1
theorem choose_list {α : Type} {p : Nat → α → Prop} : ∀ n : Nat, (∀ i, i < n → ∃ b, p i b) → ∃ l : List α, l.length = n ∧ ∀ i b, l[i]? = some b → p i b := by
  intro n
  induction n with
  | zero => intro _; exact ⟨[], rfl, fun i b hb => by cases hb⟩
  | succ k ih =>
    intro hall
    obtain ⟨l, h1, h2⟩ := ih fun i hi => hall i (by omega)
    obtain ⟨b, h3⟩ := hall k (by omega)
    refine ⟨l ++ [b], by simp [h1], fun i c hc => ?_⟩
    rcases Nat.lt_or_ge i l.length with hi | hi
    · rw [List.getElem?_append_left hi] at hc
      exact h2 i c hc
    · have hi' : i < (l ++ [b]).length := (List.getElem?_eq_some_iff.1 hc).1
      have : i = l.length := by simp at hi'; omega
      subst this
      simp at hc
      subst hc
      rw [h1]
      exact h3
/-- a slice of elements that are decoded by C. -/
theorem sliceR {α : Type} {C : α → List Value} {G : α → Prop} {t e : TypeId} {m fuel : Nat} {cs : List Value} {x : DataW H × List MemPlace} (ht : P.underlying t = some (.slice e)) (he : P.cellsOf e = m)
    (hd : ∀ n cs x, DataW.trod enc P w base spare held n e cs = some x → ∃ a, cs = C a ∧ G a) (hm : ∀ a, (C a).length = m) (h0 : 0 < m) (h : DataW.trod enc P w base spare held fuel t cs = some x) :
    ∃ (A : Option Addr) (n c : Nat) (l : List α), cs = [.slice A n c] ∧ Reads w w.heap.size m A n (l.flatMap C) ∧ n ≤ c ∧ c ≤ maxLen ∧ ∀ a, a ∈ l → G a := by
  rcases Go.Deep.open_slice ht h with ⟨rfl, _⟩ | ⟨a, len, cap, m', n', D, Pl, rfl, hb, hl, hcm, hmm, _, hx⟩
  · exact ⟨none, 0, 0, [], rfl, Reads.none_, Nat.le_refl _, Nat.zero_le _, fun a ha => by cases ha⟩
  · rw [he] at hx
    have hlm : len ≤ m' := by rw [hmm]; split <;> omega
    have hall : ∀ i, i < len → ∃ b : α, w.cells? base (a.add (i * m)) m = some (C b) ∧ G b := fun i hi => by
      obtain ⟨cs', h1, h2⟩ := hx i (by omega)
      obtain ⟨b, rfl, hg⟩ := hd _ _ _ h2
      exact ⟨b, h1, hg⟩
    obtain ⟨l, hll, hlx⟩ := choose_list len hall
    refine ⟨some a, len, cap, l, rfl, ⟨by rw [flat_len C m hm, hll], fun hn => ?_⟩, hl, hcm, fun b hb => ?_⟩
    · have hcell : ∀ j u, (l.flatMap C)[j]? = some u → w.cell? (a.add j) = some u := fun j u hj => by
        have hjl : j < (l.flatMap C).length := (List.getElem?_eq_some_iff.1 hj).1
        rw [flat_len C m hm] at hjl
        have hdm := Nat.div_add_mod j m
        have hlt : j / m < l.length := Nat.div_lt_of_lt_mul (by rw [Nat.mul_comm]; exact hjl)
        have hb : l[j / m]? = some l[j / m] := List.getElem?_eq_getElem hlt
        have h1 := flat_at C m hm l (j / m) (j % m) _ hb (Nat.mod_lt _ h0)
        rw [show j / m * m + j % m = j by rw [Nat.mul_comm]; exact hdm, hj] at h1
        obtain ⟨_, _, h2⟩ := World.cells?_some (hlx _ _ hb).1
        have h3 := h2 (j % m) (Nat.mod_lt _ h0)
        rw [add_add, show j / m * m + j % m = j by rw [Nat.mul_comm]; exact hdm, ← h1] at h3
        exact h3
      refine ⟨a, rfl, ?_, hcell⟩
      obtain ⟨b, h1, _⟩ := hall 0 hn
      have := World.cells?_block h1 h0
      simpa [add_block] using this
    · obtain ⟨i, hi, rfl⟩ := List.mem_iff_getElem.1 hb
      exact (hlx i _ (List.getElem?_eq_getElem hi)).2
end
section
variable {H : Type} {enc : TypeId × Value → H} {w : World} {base : Nat} {spare : Nat → Bool} {held : Bool} {fuel : Nat} {cs : List Value} {x : DataW H × List MemPlace}
theorem intR {n : Nat} {c : Value} {y : DataW H × List MemPlace} (h : DataW.trod enc Try.prog w base spare held n 3 [c] = some y) : ∃ k : Int, c = .int .i64 k := by
  obtain ⟨k, e, _⟩ := DataW.trod_int Try.underlying3 h
  exact ⟨k, by simpa using e⟩
theorem strR {n : Nat} {c : Value} {y : DataW H × List MemPlace} (h : DataW.trod enc Try.prog w base spare held n 9 [c] = some y) : ∃ s : ByteArray, c = .string s ∧ s.size ≤ maxLen := by
  obtain ⟨s, e, _, hs⟩ := DataW.trod_string Try.underlying9 h
  exact ⟨s, by simpa using e, hs⟩
theorem c_int : (Try.prog).cellsOf 3 = 1 := by kernel_rfl
theorem c_str : (Try.prog).cellsOf 9 = 1 := by kernel_rfl
theorem c_row : (Try.prog).cellsOf 47 = 2 := by kernel_rfl
theorem c_pol : (Try.prog).cellsOf 125 = 4 := by kernel_rfl
theorem c_bas : (Try.prog).cellsOf 25 = 5 := by kernel_rfl
theorem c_sta : (Try.prog).cellsOf 28 = 2 := by kernel_rfl
theorem c_rows : (Try.prog).cellsOf 22 = 1 := by kernel_rfl
theorem c_pols : (Try.prog).cellsOf 23 = 1 := by kernel_rfl
theorem c_ints : (Try.prog).cellsOf 26 = 1 := by kernel_rfl
theorem rowR (h : DataW.trod enc Try.prog w base spare held fuel 47 cs = some x) : ∃ r : Row, cs = rowC r := by
  obtain ⟨hl, n, hf⟩ := fieldR Try.underlying47 h
  rw [c_row] at hl
  match cs, hl with
  | [c0, c1], _ =>
    obtain ⟨d0, y0, e0, h0⟩ := hf 0 _ rfl c_int (Nat.le_of_ble_eq_true rfl)
    obtain ⟨d1, y1, e1, h1⟩ := hf 1 _ rfl c_int (Nat.le_of_ble_eq_true rfl)
    obtain ⟨k0, rfl⟩ := intR h0
    obtain ⟨k1, rfl⟩ := intR h1
    cases e0; cases e1
    exact ⟨⟨k0, k1⟩, rfl⟩
theorem polR (h : DataW.trod enc Try.prog w base spare held fuel 125 cs = some x) : ∃ r : Pol, cs = polC r ∧ r.name.size ≤ maxLen := by
  obtain ⟨hl, n, hf⟩ := fieldR Try.underlying125 h
  rw [c_pol] at hl
  match cs, hl with
  | [c0, c1, c2, c3], _ =>
    obtain ⟨d0, y0, e0, h0⟩ := hf 0 _ rfl c_str (Nat.le_of_ble_eq_true rfl)
    obtain ⟨d1, y1, e1, h1⟩ := hf 1 _ rfl c_int (Nat.le_of_ble_eq_true rfl)
    obtain ⟨d2, y2, e2, h2⟩ := hf 2 _ rfl c_int (Nat.le_of_ble_eq_true rfl)
    obtain ⟨d3, y3, e3, h3⟩ := hf 3 _ rfl c_int (Nat.le_of_ble_eq_true rfl)
    obtain ⟨s, rfl, hs⟩ := strR h0
    obtain ⟨k1, rfl⟩ := intR h1
    obtain ⟨k2, rfl⟩ := intR h2
    obtain ⟨k3, rfl⟩ := intR h3
    cases e0; cases e1; cases e2; cases e3
    exact ⟨⟨s, k1, k2, k3⟩, rfl, hs⟩
theorem ints_flat (l : List Int) : l.flatMap (fun k : Int => [Value.int .i64 k]) = ints l := by
  unfold ints
  induction l with
  | nil => rfl
  | cons a l ih => rw [List.flatMap_cons, ih]; rfl
theorem intsR (h : DataW.trod enc Try.prog w base spare held fuel 26 cs = some x) : ∃ (q : SV) (l : List Int), cs = [svV q] ∧ IntsAt w (Lt w.heap.size) q l := by
  obtain ⟨A, n, c, l, rfl, hr, hnc, hcm, _⟩ := sliceR (C := fun k : Int => [.int .i64 k]) (G := fun _ => True) Try.underlying26 c_int (fun n cs x h => by
    obtain ⟨k, e, _⟩ := DataW.trod_int Try.underlying3 h
    exact ⟨k, e, trivial⟩) (fun _ => rfl) (by decide) h
  refine ⟨⟨A, n, c⟩, l, rfl, ?_, by simp only; unfold maxLen at hcm; omega⟩
  have := ints_flat l
  rw [this] at hr
  exact ReadsP.of hr
theorem staR (h : DataW.trod enc Try.prog w base spare held fuel 28 cs = some x) : ∃ (q : SV) (s : Sta), cs = staC q s ∧ IntsAt w (Lt w.heap.size) q s.fil := by
  obtain ⟨hl, n, hf⟩ := fieldR Try.underlying28 h
  rw [c_sta] at hl
  match cs, hl with
  | [c0, c1], _ =>
    obtain ⟨d0, y0, e0, h0⟩ := hf 0 _ rfl c_int (Nat.le_of_ble_eq_true rfl)
    obtain ⟨d1, y1, e1, h1⟩ := hf 1 _ rfl c_ints (Nat.le_of_ble_eq_true rfl)
    obtain ⟨k0, rfl⟩ := intR h0
    obtain ⟨q, l, e, hq⟩ := intsR h1
    cases e0; cases e1; cases e
    exact ⟨q, ⟨k0, l⟩, rfl, hq⟩
theorem basR (h : DataW.trod enc Try.prog w base spare held fuel 25 cs = some x) : ∃ (p : BV) (b : Bas), cs = basC p b ∧ BasAt w w.heap.size p b := by
  obtain ⟨hl, n, hf⟩ := fieldR Try.underlying25 h
  rw [c_bas] at hl
  match cs, hl with
  | [c0, c1, c2, c3, c4], _ =>
    obtain ⟨d0, y0, e0, h0⟩ := hf 0 _ rfl c_rows (Nat.le_of_ble_eq_true rfl)
    obtain ⟨d1, y1, e1, h1⟩ := hf 1 _ rfl c_int (Nat.le_of_ble_eq_true rfl)
    obtain ⟨d2, y2, e2, h2⟩ := hf 2 _ rfl c_int (Nat.le_of_ble_eq_true rfl)
    obtain ⟨d3, y3, e3, h3⟩ := hf 3 _ rfl c_int (Nat.le_of_ble_eq_true rfl)
    obtain ⟨d4, y4, e4, h4⟩ := hf 4 _ rfl c_pols (Nat.le_of_ble_eq_true rfl)
    obtain ⟨k1, rfl⟩ := intR h1
    obtain ⟨k2, rfl⟩ := intR h2
    obtain ⟨k3, rfl⟩ := intR h3
    obtain ⟨A, n1, cc, l, e5, hr, hnc, hcm, _⟩ := sliceR (C := rowC) (G := fun _ => True) Try.underlying22 c_row (fun n cs x h => by
      obtain ⟨k, e⟩ := rowR h
      exact ⟨k, e, trivial⟩) rowC_len (by decide) h0
    obtain ⟨A2, n2, cc2, l2, e6, hr2, hnc2, hcm2, hg⟩ := sliceR (C := polC) (G := fun r => r.name.size ≤ maxLen) Try.underlying23 c_pol (fun n cs x h => polR h) polC_len (by decide) h4
    cases e0; cases e1; cases e2; cases e3; cases e4; cases e5; cases e6
    refine ⟨⟨A, n1, cc, A2, n2, cc2⟩, ⟨l, k1, k2, k3, l2⟩, rfl, hr, hr2, hnc, ?_, ?_, fun r hr => ?_⟩
    · simp only; unfold maxLen at hcm; omega
    · simp only; unfold maxLen at hcm2; omega
    · have := hg r hr
      unfold maxLen at this; omega
/-- the fields, of however many cells. -/
theorem fieldN {P : Program} {t : TypeId} {fs : Array Field} (ht : P.underlying t = some (.struct fs)) (h : DataW.trod enc P w base spare held fuel t cs = some x) :
    cs.length = P.cellsOf t ∧ ∃ n, ∀ (i : Nat) (f : Field) (u : TypeId) (o m : Nat), fs[i]? = some f → f.type = u → f.offset = o → P.cellsOf u = m → ∃ y, DataW.trod enc P w base spare held n u ((cs.drop o).take m) = some y := by
  obtain ⟨xs, n, _, rfl, hl, hlen, hf⟩ := DataW.trod_struct ht h
  refine ⟨hl, n, fun i f u o m hi hu ho hm => ?_⟩
  subst hu ho hm
  have h1 := hf i f hi
  have hi' : i < xs.length := by rw [hlen]; exact (Array.getElem?_eq_some_iff.1 hi).1
  rw [List.getElem?_eq_getElem hi'] at h1
  exact ⟨xs[i], h1⟩
/-- a number. -/
theorem intR' (h : DataW.trod enc Try.prog w base spare held fuel 3 cs = some x) : ∃ k : Int, cs = [.int .i64 k] := by
  obtain ⟨k, e, _⟩ := DataW.trod_int Try.underlying3 h
  exact ⟨k, e⟩
end
end Go.Proofs.Ytmckmlmfilmiaaa.X
/-
  A walk by lemmas (14): a range over a function: the frame of a round, the iterator's calls of yield, the function that holds the statement.
-/
namespace Go.Proofs.Ytmckmlmfilmiaaa.X
open Go Go.RowKit
set_option linter.unusedVariables false
/-- everything is let in; a round's frame, or none. -/
def fen : Option Nat → Fence
  | none => Fence.wide
  | some l => Fence.wide.inRound l
theorem fen_fn (r : Option Nat) (f : FuncId) : (fen r).fn f := by cases r <;> trivial
theorem fen_round (r : Option Nat) : (fen r).round = r := by cases r <;> rfl
theorem fen_depth (r : Option Nat) : (fen r).depth.isSome = true → False := by cases r <;> (intro h; cases h)
theorem fen_calls {r : Option Nat} {n : Nat} {P : Program} {f : FuncId} {args : Array Value} {w : World} {R : Ending → World → Prop} (h : Calls P f args w R) : CallsIn (fen r) n P f args w R := by
  cases r with
  | none => exact callsIn_wide.2 h
  | some l => exact CallsIn.inRound l (callsIn_wide.2 h)
theorem fen_steps {r : Option Nat} {P : Program} {m m' : Machine} (h : Steps P m m') : StepsIn (Machine.fenced P (fen r)) P m m' := by
  cases r with
  | none => exact stepsIn_wide.2 h
  | some l =>
    show StepsIn (Machine.fenced P (Fence.wide.inRound l)) P m m'
    rw [fenced_inRound]; exact stepsIn_wide.2 h
def notDefer (o : Oper) : Bool := match o.op with
  | .defer _ => false
  | _ => true
theorem upon_in {r : Option Nat} {n : Nat} {P : Program} {o : Oper} {a : Act} {K : Act → World → Prop} {Q : Exit → Act → World → Prop} {res : Result Next} (hQ : ∀ e a w, Q e a w → e = .normal)
    {Q' : Exit → Act → World → Prop} (h : o.upon P a K Q res) : o.uponIn (fen r) n P a K Q' res := by
  cases res with
  | ok nx w =>
    cases nx <;> simp only [Oper.upon, Oper.uponIn] at h ⊢ <;> first
      | exact h
      | exact ⟨fun hd => (fen_depth r hd).elim, fen_calls (Calls.mono h fun e w'' he => by
          cases e with
          | returned v => exact he
          | panicked c => exact absurd (hQ _ _ _ he) (by simp)
          | outgrown => obtain ⟨a0, w0, q⟩ := he; exact absurd (hQ _ _ _ q) (by simp))⟩
      | exact ⟨fun hd => (fen_depth r hd).elim, fun c cs _ => (by obtain ⟨v, w', h1, h2⟩ := h c cs; exact ⟨v, w', h1, fen_steps h2⟩)⟩
      | exact h.elim
  | halt x w =>
    cases x <;> simp only [Oper.upon, Oper.uponIn] at h ⊢ <;> first
      | exact absurd (hQ _ _ _ h) (by simp)
      | exact h.elim
theorem only_normal {K : Act → World → Prop} : ∀ e a w, only K e a w → e = .normal := fun e a w h => by cases e <;> first | rfl | exact h.elim

section
variable {P : Program} {T : TT} {N : Nat} {B : Nat} {w0 : World} {ds : List Deferred} {Q : Exit → Act → World → Prop} {F : Fr} {L L' : Lo} {ops : Array Oper} {rest : List Oper} {r : Option Nat} {n : Nat}
variable (P N B w0 ds Q r n) in
/-- operations, in a frame of r's. -/
structure XI (ops : Array Oper) (l : List Oper) (F : Fr) (L : Lo) : Prop where
  run : ∀ a w, Fits N ds F a → Sys B w0 L w → wpListIn (fen r) n P ops Q l a w
variable (P N B w0 ds Q r n) in
/-- code, in a frame of r's. -/
structure XR' (c : Code) (F : Fr) (L : Lo) : Prop where
  run : ∀ a w, Fits N ds F a → Sys B w0 L w → c.wpIn (fen r) n P Q a w
theorem XI.done (h : XE N B w0 ds Q .normal F L) : XI P N B w0 ds Q r n ops [] F L := ⟨h.run⟩
theorem XI.one {o : Oper} (hd : notDefer o = true) (h : XL P N B w0 ds (only (wpListIn (fen r) n P ops Q rest)) ops [o] F L) : XI P N B w0 ds Q r n ops (o :: rest) F L := by
  refine ⟨fun a w hf hs => ?_⟩
  have h1 := h.run a w hf hs
  unfold wpList at h1
  unfold wpListIn
  split
  · rename_i hw
    rw [if_pos hw] at h1
    rcases h1 with h1 | ⟨_, a0, w0, q⟩
    · refine ⟨fun f _ => fen_fn r f, ?_⟩
      rw [fen_round]
      rw [Oper.semAt_eq r a.eval o (fun c e => by simp [notDefer, e] at hd)]
      exact upon_in only_normal h1
    · exact q.elim
  · rename_i hw
    rw [if_neg hw] at h1
    exact ⟨fun f _ => fen_fn r f, h1⟩
theorem XE.nextI (h : XI P N B w0 ds Q r n ops rest F L) : XE N B w0 ds (only (wpListIn (fen r) n P ops Q rest)) .normal F L := ⟨h.run⟩
/-- yield is called: what the round comes to is told by R. -/
theorem XI.yield {d : Nat} {c : Operand} {args : Array Operand} {vs : List Value} {l : Nat} {ats : Array TypeId} {ty : TypeId} {p : String} {af : Array Edge} (hcv : evo F c = some (.func (.yield l) #[] #[])) (ha : evos F args.toList = some vs) (hd : Nat.blt d N = true)
    (R : World → Value → World → Prop)
    (hy : ∀ w, Sys B w0 L w → ∃ fn tmps assign body, (Instr.yield l vs.toArray).run P w = .ok (.round l fn tmps assign body) w ∧ RoundIn (fen r) (n - 1) P l fn tmps assign body w fun e w' => ∃ v, e = .returned v ∧ R w v w')
    (k : ∀ w v w', Sys B w0 L w → R w v w' → ∃ L' w1, Sys B w1 L' w' ∧ XI P N B w1 ds Q r n ops rest ((d, v) :: F) L') :
    XI P N B w0 ds Q r n ops ({ dst := some d, op := .call { callee := .value c, args := args, argTypes := ats }, type := ty, pos := p, after := af, guard := none } :: rest) F L := by
  refine ⟨fun a w hf hs => ?_⟩
  obtain ⟨fn, tmps, assign, body, h1, h2⟩ := hy w hs
  refine wpListIn_plain rfl fun K hK => ⟨fun f _ => fen_fn r f, ?_⟩
  have hm : args.map a.eval = vs.toArray := by
    apply Array.ext'
    rw [Array.toList_map]
    exact evos_spec hf _ _ ha
  have hsem : ((Oper.semAt (fen r).round a.eval { dst := some d, op := .call { callee := .value c, args := args, argTypes := ats }, type := ty, pos := p, after := af, guard := none })).run P w = .ok (.round l fn tmps assign body) w := by
    rw [Oper.semAt_eq _ _ _ (fun c e => by cases e)]
    simp [execOp, resolve, hf.eval hcv, Deferred.ofValue, invoke, hm, h1]
  rw [hsem]
  refine ⟨fun hd => (fen_depth r hd).elim, h2.mono fun e w' he => ?_⟩
  obtain ⟨v, rfl, hR⟩ := he
  obtain ⟨L', w1, hS, hk⟩ := k w v w' hs hR
  exact hK _ _ (hk.run _ _ (hf.put hd) hS)
/-- a region in which yield is called, in a frame of no round's. -/
theorem XC.regionI {id : Nat} {l : List Oper} (n : Nat) (h : XI P N B w0 ds Q none n l.toArray l F L) : XC P N B w0 ds Q (.region id l.toArray false) F L :=
  ⟨fun a w hf hs => (wpIn_wide (n := n)).1 (wpIn_region_lit (F := Fence.wide) (h.run a w hf hs))⟩

/-! ### code in a round's frame -/
theorem XR'.region {id : Nat} {l : List Oper} (h : XI P N B w0 ds Q r n l.toArray l F L) : XR' P N B w0 ds Q r n (.region id l.toArray false) F L := ⟨fun a w hf hs => wpIn_region_lit (h.run a w hf hs)⟩
theorem XR'.seq {x y : Code} (h : XR' P N B w0 ds (Exit.then (y.wpIn (fen r) n P Q) Q) r n x F L) : XR' P N B w0 ds Q r n (.seq x y) F L := ⟨fun a w hf hs => wpIn_seq (h.run a w hf hs)⟩
theorem XE.nextR {y : Code} (h : XR' P N B w0 ds Q r n y F L) : XE N B w0 ds (Exit.then (y.wpIn (fen r) n P Q) Q) .normal F L := ⟨h.run⟩
theorem XR'.skip (h : XE N B w0 ds Q .normal F L) : XR' P N B w0 ds Q r n .skip F L := ⟨fun a w hf hs => wpIn_skip (h.run a w hf hs)⟩
theorem XR'.ret (h : XE N B w0 ds Q .ret F L) : XR' P N B w0 ds Q r n .ret F L := ⟨fun a w hf hs => wpIn_ret (h.run a w hf hs)⟩
theorem XR'.block {id : Nat} {c : Code} (h : XR' P N B w0 ds (Exit.inBlock id Q) r n c F L) : XR' P N B w0 ds Q r n (.block id c) F L := ⟨fun a w hf hs => wpIn_block (h.run a w hf hs)⟩
theorem XR'.cond {c : Operand} {x y : Code} (b : Bool) (hc : evo F c = some (.bool b)) (ht : b = true → XR' P N B w0 ds Q r n x F L) (he : b = false → XR' P N B w0 ds Q r n y F L) : XR' P N B w0 ds Q r n (.cond c x y) F L := ⟨fun a w hf hs => by
  cases b with
  | true => exact wpIn_cond_true (hf.eval hc) ((ht rfl).run a w hf hs)
  | false => exact wpIn_cond_false (hf.eval hc) ((he rfl).run a w hf hs)⟩
theorem XR'.cond_t {c : Operand} {x y : Code} (hc : evo F c = some (.bool true)) (ht : XR' P N B w0 ds Q r n x F L) : XR' P N B w0 ds Q r n (.cond c x y) F L := XR'.cond true hc (fun _ => ht) (fun h => by cases h)
theorem XR'.cond_f {c : Operand} {x y : Code} (hc : evo F c = some (.bool false)) (he : XR' P N B w0 ds Q r n y F L) : XR' P N B w0 ds Q r n (.cond c x y) F L := XR'.cond false hc (fun h => by cases h) (fun _ => he)
theorem XI.id {l : List Oper} (h : XI P N B w0 ds Q r n ops l F L) : XI P N B w0 ds Q r n ops l F L := h
theorem XR'.id {c : Code} (h : XR' P N B w0 ds Q r n c F L) : XR' P N B w0 ds Q r n c F L := h

/-! ### the function that holds the statement -/
/-- its deferred calls: the mark of the block D, which holds none. -/
def markD (D : Nat) : Deferred := { target := .collected D, args := #[] }
theorem enterM {f : FuncId} {fn : Func} {c : Code} {vs : List Value} {w : World} {R : Ending → World → Prop} {n : Nat} (hf : P.funcs[f]? = some fn) (hb : fn.body = some c) (hN : fn.ntmps = n)
    (hn : Nat.ble vs.length n = true) (h : XC P n w.heap.size w [] (bodyPostM Fence.wide 0 P fn R) c (frame 0 vs) []) : Calls P f vs.toArray w R := by
  subst hN
  have hn' := Nat.le_of_ble_eq_true hn
  refine (callsIn_wide (n := 0)).1 (callsIn_of_wp_marks (F := Fence.wide) hf hb trivial ((wpIn_wide (n := 0)).2 (h.run _ w ⟨?_, rfl, fun t v _ hv => ?_⟩ (Sys.enter w))))
  · simp; omega
  · obtain ⟨_, h2⟩ := lk_frame vs 0 t v hv
    have hlt : t < vs.length := (List.getElem?_eq_some_iff.1 h2).1
    simp only [Array.getD_eq_getD_getElem?]
    rw [Array.getElem?_append_left (by simpa using hlt)]
    simp at h2 ⊢
    rw [h2]; rfl
/-- it returns, the mark taken. -/
theorem XE.retM (hT : TOK P T) {fn : Func} {R : Ending → World → Prop} {rs : List ResultVar} {vs : List Value} {c : Prop} {D i : Nat} {L' : Lo} (h : fn.results = ⟨rs⟩) (hL : L[i]? = some (D, .deferred (some []))) (hL' : setN L i (D, .deferred none) = some L')
    (hv : resO T F L' rs = some (vs, c)) (hc : c) (hR : ∀ w, Sys B w0 L' w → R (.returned (tupV vs)) w) : XE N B w0 [markD D] (bodyPostM Fence.wide 0 P fn R) .ret F L := by
  refine ⟨fun a w hf hw => ?_⟩
  show LeavesInM Fence.wide 0 P fn a.tmps R a.defers .returning w
  rw [hf.defers]
  have hD := (hw.own _ (List.mem_of_getElem? hL)).2
  obtain ⟨e, hlt⟩ := setN_spec _ _ _ _ hL'
  have hsys : Sys B w0 L' (w.putObj D (.deferred none)) := hw.setObj hL e
  refine ⟨by simp, .inl ⟨D, w.putObj D (.deferred none), rfl, run_takeDeferred hD, ?_⟩⟩
  have hf' : Fits N [] F { a with defers := [] } := ⟨hf.size, rfl, hf.get⟩
  have h1 := resO_run hT hf' hsys hv hc
  have h2 : (results fn a.tmps).run P (w.putObj D (.deferred none)) = .ok (tupV vs) (w.putObj D (.deferred none)) := by
    unfold results
    rw [h, Array.mapM_eq_mapM_toList]
    simp only [Sem.run_bind, Sem.run_map]
    refine (congrArg (fun r : Result (List Value) => (r.andThen fun a w' => Result.ok a.toArray w').andThen fun a w' => Sem.run P (pure (if h : a.size = 1 then a[0] else Value.tuple a)) w') h1).trans ?_
    simp only [Result.andThen_ok, Sem.run_pure]
    cases vs with
    | nil => rfl
    | cons v vs => cases vs with
      | nil => rfl
      | cons u vs => simp [tupV]
  show LeavesIn Fence.wide 0 P fn a.tmps R [] .returning (w.putObj D (.deferred none))
  exact ⟨_, h2, hR _ hsys⟩
end
end Go.Proofs.Ytmckmlmfilmiaaa.X
/-
  A walk by lemmas (15): the statement that ranges over a function; a round's beginning and its end.
-/
namespace Go.Proofs.Ytmckmlmfilmiaaa.X
open Go Go.RowKit
set_option linter.unusedVariables false
/-- the loop's record. -/
abbrev recO (fn : FuncId) (tmps : Array Value) (ps : Array Tmp) (assign body : Code) (D : Nat) (st : LoopState) (pe : Option Code) : Loop :=
  { state := st, pending := pe, fn := fn, tmps := tmps, params := ps, assign := assign, body := body, defers := D }
section
variable {P : Program} {T : TT} {N : Nat} {B : Nat} {w0 : World} {ds : List Deferred} {Q : Exit → Act → World → Prop} {F : Fr} {L L' : Lo} {n : Nat}
theorem XE.begin {l i : Nat} {r : Loop} {body : Code} {Q' : Exit → Act → World → Prop} (hL : L[i]? = some (l, .loop r)) (hr : r.state = .ready) (hL' : setN L i (l, .loop { r with state := .busy }) = some L')
    (h : XR' P N B w0 ds Q' (some l) n body F L') :
    XE N B w0 ds (Exit.then (fun a₁ w₁ => ∃ w₂, (Instr.beginRound l).run P w₁ = .ok () w₂ ∧ body.wpIn (Fence.wide.inRound l) n P Q' a₁ w₂) (fun _ _ _ => False)) .normal F L :=
  ⟨fun a w hf hs => by
    obtain ⟨e, _⟩ := setN_spec _ _ _ _ hL'
    exact ⟨_, run_beginRound (hs.own _ (List.mem_of_getElem? hL)).2 hr, h.run a _ hf (hs.setObj hL e)⟩⟩
theorem XE.endR {l i : Nat} {r : Loop} {R : Ending → World → Prop} (hL : L[i]? = some (l, .loop r)) (hL' : setN L i (l, .loop { r with state := .ready, pending := none }) = some L')
    (h : ∀ w, Sys B w0 L' w → R (.returned (.bool true)) w) : XE N B w0 ds (roundPost P l R) .normal F L :=
  ⟨fun a w hf hs => by
    obtain ⟨e, _⟩ := setN_spec _ _ _ _ hL'
    exact ⟨_, _, run_endRound none (hs.own _ (List.mem_of_getElem? hL)).2, h _ (hs.setObj hL e)⟩⟩
/-- one round of yield. -/
theorem round_of {l : Nat} {fn : FuncId} {tmps : Array Value} {assign body : Code} {w : World} {R : Ending → World → Prop} (hf : Fits N [] F { tmps := tmps, defers := [] }) (hs : Sys B w0 L w)
    (h : XR' P N B w0 [] (Exit.then (fun a₁ w₁ => ∃ w₂, (Instr.beginRound l).run P w₁ = .ok () w₂ ∧ body.wpIn (Fence.wide.inRound l) n P (roundPost P l R) a₁ w₂) (fun _ _ _ => False)) (some l) n assign F L) :
    RoundIn Fence.wide n P l fn tmps assign body w R :=
  roundIn_of_wpIn trivial (h.run _ w hf hs)
theorem XC.rangeFunc {g : Operand} {ps : Array Tmp} {assign body : Code} {gf : FuncId} {cap : List Value} (hg : evo F g = some (.func (.func gf) #[] ⟨cap⟩)) (hk : callOk P gf = true)
    (hc : ∀ (fn : FuncId) (a : Act) (D : Nat) (w : World), w0.heap.size ≤ D → Fits N [] F a → Sys B w0 ((D + 1, .loop (recO fn a.tmps ps assign body D .ready none)) :: (D, .deferred (some [])) :: L) w →
      Calls P gf (Value.func (.yield (D + 1)) #[] #[] :: cap).toArray w fun e w3 => ∃ v, e = .returned v ∧
        ((∃ L3 w1, Sys B w1 ((D + 1, .loop (recO fn a.tmps ps assign body D .ready none)) :: L3) w3 ∧ XE N B w1 [markD D] Q .normal F ((D + 1, .loop (recO fn a.tmps ps assign body D .exhausted none)) :: L3)) ∨
         (∃ L3 w1, Sys B w1 ((D + 1, .loop (recO fn a.tmps ps assign body D .done (some .ret))) :: L3) w3 ∧ XE N B w1 [markD D] Q .ret F ((D + 1, .loop (recO fn a.tmps ps assign body D .exhausted (some .ret))) :: L3)))) :
    XC P N B w0 [] Q (.rangeFunc g ps assign body) F L := by
  refine ⟨fun a w hf hs => (wpIn_wide (n := 1)).1 (wpIn_rangeFunc (F := Fence.wide) fun fn _ => ?_)⟩
  have S1 := (hs.box (.deferred (some []))).box (.loop (recO fn a.tmps ps assign body w.heap.size .ready none))
  have hsz : (w.alloc (.deferred (some []))).heap.size = w.heap.size + 1 := by simp
  rw [hsz] at S1
  obtain ⟨W1, hW1⟩ : ∃ W1, (w.alloc (.deferred (some []))).alloc (.loop (recO fn a.tmps ps assign body w.heap.size .ready none)) = W1 := ⟨_, rfl⟩
  rw [hW1] at S1
  have hcall := hc fn a w.heap.size W1 hs.size hf S1
  refine ⟨w.heap.size + 1, [markD w.heap.size], W1, { target := .fn (.func gf) ⟨cap⟩, args := #[.func (.yield (w.heap.size + 1)) #[] #[]] }, W1, gf, (Value.func (.yield (w.heap.size + 1)) #[] #[] :: cap).toArray, W1,
    by rw [← hW1]; exact run_enterLoop_outer _ _ _ _ _, ?_, fun f' _ => trivial, ?_, fun h => (by cases h), ?_⟩
  · have : evo F g = some (.func (.func gf) ⟨[]⟩ ⟨cap⟩) := hg
    have e := hf.eval this
    simp only [resolve, rangeCall, e, Deferred.ofValue]
    simp [Act.eval]
  · have : (#[Value.func (.yield (w.heap.size + 1)) #[] #[]] ++ (⟨cap⟩ : Array Value)) = (Value.func (.yield (w.heap.size + 1)) #[] #[] :: cap).toArray := by simp
    simp only [invoke, this]
    exact callFunc_run hk _ _
  · refine callsIn_wide.2 (hcall.mono fun e w3 he => ?_)
    obtain ⟨v, rfl, hR⟩ := he
    have hf' : Fits N [markD w.heap.size] F { a with defers := [markD w.heap.size] ++ a.defers } := ⟨hf.size, by simp [hf.defers], hf.get⟩
    rcases hR with ⟨L3, w1, hS, hx⟩ | ⟨L3, w1, hS, hx⟩
    · have hl := (hS.own _ List.mem_cons_self).2
      exact ⟨none, _, run_endLoop hl (by simp), hx.run _ _ hf' (hS.setObj (i := 0) rfl rfl)⟩
    · have hl := (hS.own _ List.mem_cons_self).2
      exact ⟨some .ret, _, run_endLoop hl (by simp), wpIn_ret (hx.run _ _ hf' (hS.setObj (i := 0) rfl rfl))⟩
end
end Go.Proofs.Ytmckmlmfilmiaaa.X
/-
  A walk by lemmas (16): interfaces against nil.
-/
namespace Go.Proofs.Ytmckmlmfilmiaaa.X
open Go Go.RowKit
set_option linter.unusedVariables false
def isIf (d : Option TypeDesc) : Bool := match d with
  | some (.interface _) => true
  | _ => false
def isNilI : Value → Option Bool
  | .nilIface => some true
  | .iface _ _ => some false
  | _ => none
section
variable {P : Program} {T : TT} {N : Nat} {B : Nat} {w0 : World} {ds : List Deferred} {F : Fr} {L : Lo} {pu : Prop}
variable {dst : Option Tmp} {ty : TypeId} {p : String} {af : Array Edge} {gd : Option (Nat × Bool)}
end
theorem XI.rebase {P : Program} {N B : Nat} {w0 : World} {ds : List Deferred} {Q : Exit → Act → World → Prop} {F : Fr} {L L' : Lo} {ops : Array Oper} {rest : List Oper} {r : Option Nat} {n : Nat} (hs : List.Sublist L' L) (k : ∀ w1, Sys B w0 L w1 → XI P N B w1 ds Q r n ops rest F L') : XI P N B w0 ds Q r n ops rest F L :=
  ⟨fun a w hf h => (k w h).run a w hf (h.rebase hs)⟩
/-- no call of a value that is held in a slot. -/
def plainO (o : Oper) : Bool := match o.op with
  | .defer _ => false
  | .call c => match c.callee with
    | .value (.tmp _) => false
    | _ => true
  | _ => true
theorem XI.one1 {P : Program} {N B : Nat} {w0 : World} {ds : List Deferred} {Q : Exit → Act → World → Prop} {F : Fr} {L : Lo} {ops : Array Oper} {rest : List Oper} {r : Option Nat} {n : Nat} {o : Oper} (hd : plainO o = true) (h : XL P N B w0 ds (only (wpListIn (fen r) n P ops Q rest)) ops [o] F L) : XI P N B w0 ds Q r n ops (o :: rest) F L :=
  XI.one (by
    unfold plainO at hd
    unfold notDefer
    split at hd <;> simp_all) h
end Go.Proofs.Ytmckmlmfilmiaaa.X
/-
  Rows of the call's own that grow, and what else was made in the call: one word for all of it.
-/
namespace Go.Proofs.Ytmckmlmfilmiaaa.X
open Go Go.RowKit
set_option linter.unusedVariables false
/-- something in memory, told of some blocks alone. -/
structure Held where
  p : World → (Nat → Prop) → Prop
  keep : ∀ {w w' : World} {ok : Nat → Prop}, p w ok → (∀ k, ok k → w'.heap[k]? = w.heap[k]?) → p w' ok
  mono : ∀ {w : World} {ok ok' : Nat → Prop}, p w ok → (∀ k, ok k → ok' k) → p w ok'
/-- a kind of elements: their type, how many cells they take, which; and what they point to. -/
structure Kind (α : Type) where
  ty : TypeId
  m : Nat
  c : α → List Value
  sl : α → List Held
  len : ∀ a, (c a).length = m
/-- a slice that is read. -/
structure ListAt {α : Type} (K : Kind α) (W : World) (ok : Nat → Prop) (r : SV) (l : List α) : Prop where
  rd : ReadsP W ok K.m r.A r.n (l.flatMap K.c)
  max : r.n ≤ 9223372036854775807
  ins : ∀ a, a ∈ l → ∀ h, h ∈ K.sl a → h.p W ok
section
variable {α : Type} {K : Kind α} {w w' w0 W : World} {ok ok' : Nat → Prop} {B : Nat} {r : SV} {l : List α} {L : Lo}
theorem ListAt.keep (h : ListAt K w ok r l) (hk : ∀ k, ok k → w'.heap[k]? = w.heap[k]?) : ListAt K w' ok r l := ⟨h.rd.keep hk, h.max, fun a ha x hx => x.keep (h.ins a ha x hx) hk⟩
theorem ListAt.mono (h : ListAt K w ok r l) (hk : ∀ k, ok k → ok' k) : ListAt K w ok' r l := ⟨h.rd.mono hk, h.max, fun a ha x hx => x.mono (h.ins a ha x hx) hk⟩
theorem ListAt.sys (h : ListAt K w0 ok r l) (S : Sys B w0 L w) (hk : Keep ok w0 L) : ListAt K w (Lt w.heap.size) r l := (h.keep (hk.sys S)).mono (hk.lt S)
theorem ListAt.arg (h : ListAt K w0 (Lt B) r l) (S : Sys B w0 L w) : ListAt K w (Lt w.heap.size) r l := h.sys S (Keep.arg S)
theorem ListAt.below (h : ListAt K w (Lt B) r l) (hb : Below B w w') : ListAt K w' (Lt B) r l := h.keep fun k hk => hb.block k hk
theorem ListAt.len (h : ListAt K w ok r l) (h0 : 0 < K.m) : r.n = l.length := by
  have := h.rd.len
  rw [flat_len K.c K.m K.len] at this
  exact (Nat.eq_of_mul_eq_mul_right h0 this).symm
theorem ListAt.nil : ListAt K w ok ⟨none, 0, 0⟩ [] := ⟨ReadsP.nil, Nat.zero_le _, fun a ha => by cases ha⟩
/-- an element's cells. -/
theorem ListAt.elem {ad : Addr} {n c : Nat} (h : ListAt K w ok ⟨some ad, n, c⟩ l) {k : Nat} {a : α} (hk : l[k]? = some a) : ∀ j u, (K.c a)[j]? = some u → w.cell? ((ad.add (k * K.m)).add j) = some u := fun j u hj => by
  have hj3 : j < K.m := by have := (List.getElem?_eq_some_iff.1 hj).1; rwa [K.len] at this
  have hn := h.len (by omega)
  have hkl := (List.getElem?_eq_some_iff.1 hk).1
  obtain ⟨ad', e, _, h1⟩ := h.rd.at_ (by simp only at hn ⊢; omega)
  cases e
  have e2 := flat_at K.c K.m K.len l k j a hk hj3
  have := h1 (k * K.m + j) u (e2.trans hj)
  rw [add_add]
  exact this
/-- its block. -/
theorem ListAt.addr {A : Option Addr} {n c : Nat} (h : ListAt K w ok ⟨A, n, c⟩ l) (h0 : 0 < K.m) (hn : 0 < l.length) : ∃ ad, A = some ad ∧ ok ad.block := by
  have := h.len h0
  obtain ⟨ad, e, h1, _⟩ := h.rd.at_ (by simp only at this ⊢; omega)
  exact ⟨ad, e, h1⟩
end
theorem owns_move' {W W' : World} {v : Value} {base e size n : Nat} {xs : List Value} (h : W.ownsRow base e size v n xs) (hk : ∀ k, v.ownBlock = some k → W'.heap[k]? = W.heap[k]?) : W'.ownsRow base e size v n xs := by
  refine ⟨h.1, ?_⟩
  rcases h.2 with h1 | ⟨g, cap, cur, rfl, hb, hg, h1⟩
  · exact .inl h1
  · exact .inr ⟨g, cap, cur, rfl, hb, by rw [hk g rfl]; exact hg, h1⟩
def hList {α : Type} (K : Kind α) (r : SV) (l : List α) : Held := ⟨fun w ok => ListAt K w ok r l, ListAt.keep, ListAt.mono⟩
def hInts (q : SV) (l : List Int) : Held := ⟨fun w ok => IntsAt w ok q l, IntsAt.keep, IntsAt.mono⟩
/-- a row that grows. -/
structure RowX where
  α : Type
  K : Kind α
  v : Value
  l : List α
/-- made in the call, and none of these. -/
def Free (W : World) (b0 : Nat) (ks : List Nat) (rs : List RowX) (j : Nat) : Prop := b0 ≤ j ∧ j < W.heap.size ∧ j ∉ ks ∧ ∀ r, r ∈ rs → r.v.ownBlock ≠ some j
/-- THE ROWS rs AND WHAT ELSE WAS MADE SINCE b0 (hs); ks: blocks that are none of theirs. -/
structure Fam (W : World) (b0 : Nat) (ks : List Nat) (rs : List RowX) (hs : List Held) : Prop where
  base : b0 ≤ W.heap.size
  row : ∀ r, r ∈ rs → W.ownsRow b0 r.K.ty r.K.m r.v r.l.length (r.l.flatMap r.K.c)
  sep : ∀ r, r ∈ rs → ∀ k, r.v.ownBlock = some k → k ∉ ks
  two : rs.Pairwise fun r s => ∀ k, r.v.ownBlock = some k → s.v.ownBlock ≠ some k
  ins : ∀ r, r ∈ rs → ∀ a, a ∈ r.l → ∀ h, h ∈ r.K.sl a → h.p W (Free W b0 ks rs)
  held : ∀ h, h ∈ hs → h.p W (Free W b0 ks rs)
section
variable {W W' w w0 w1 w2 : World} {b0 B : Nat} {ks ks' : List Nat} {rs : List RowX} {hs hs' : List Held} {L : Lo}
theorem Fam.start (h : b0 ≤ W.heap.size) : Fam W b0 ks [] [] := ⟨h, fun _ h => (by cases h), fun _ h => (by cases h), .nil, fun _ h => (by cases h), fun _ h => (by cases h)⟩
theorem Fam.lt (h : Fam W b0 ks rs hs) {r : RowX} (hr : r ∈ rs) {k : Nat} (hk : r.v.ownBlock = some k) : b0 ≤ k ∧ k < W.heap.size := (h.row r hr).lt k hk
theorem Fam.nil {α : Type} (K : Kind α) (h : Fam W b0 ks rs hs) : Fam W b0 ks (⟨α, K, .slice none 0 0, []⟩ :: rs) hs := by
  have hf : ∀ j, Free W b0 ks rs j → Free W b0 ks (⟨α, K, .slice none 0 0, []⟩ :: rs) j := fun j hj => ⟨hj.1, hj.2.1, hj.2.2.1, fun r hr => by
    rcases List.mem_cons.1 hr with rfl | hr
    · simp [Value.ownBlock]
    · exact hj.2.2.2 r hr⟩
  refine ⟨h.base, fun r hr => ?_, fun r hr k hk => ?_, .cons (fun s hs k hk => by cases hk) h.two, fun r hr a ha x hx => ?_, fun x hx => x.mono (h.held x hx) hf⟩
  · rcases List.mem_cons.1 hr with rfl | hr
    · exact World.ownsRow_nil _ _ _ _
    · exact h.row r hr
  · rcases List.mem_cons.1 hr with rfl | hr
    · cases hk
    · exact h.sep r hr k hk
  · rcases List.mem_cons.1 hr with rfl | hr
    · cases ha
    · exact x.mono (h.ins r hr a ha x hx) hf
theorem Fam.hold (h : Fam W b0 ks rs hs) {x : Held} {ok : Nat → Prop} (hx : x.p W ok) (hk : ∀ j, ok j → Free W b0 ks rs j) : Fam W b0 ks rs (x :: hs) :=
  ⟨h.base, h.row, h.sep, h.two, h.ins, fun y hy => by
    rcases List.mem_cons.1 hy with rfl | hy
    · exact y.mono hx hk
    · exact h.held y hy⟩
theorem Fam.forget (h : Fam W b0 ks rs hs) (hh : ∀ x, x ∈ hs' → x ∈ hs) : Fam W b0 ks rs hs' := ⟨h.base, h.row, h.sep, h.two, h.ins, fun y hy => h.held y (hh y hy)⟩
/-- the own blocks may be others. -/
theorem Fam.add (h : Fam W b0 ks rs hs) (hk : ∀ k, k ∈ ks' → k ∈ ks ∨ W.heap.size ≤ k) : Fam W b0 ks' rs hs := by
  have hf : ∀ j, Free W b0 ks rs j → Free W b0 ks' rs j := fun j hj => ⟨hj.1, hj.2.1, fun h1 => by
    rcases hk j h1 with h2 | h2
    · exact hj.2.2.1 h2
    · have := hj.2.1; omega, hj.2.2.2⟩
  exact ⟨h.base, h.row, fun r hr k h1 h2 => by
    rcases hk k h2 with h3 | h3
    · exact h.sep r hr k h1 h3
    · have := (h.lt hr h1).2; omega, h.two, fun r hr a ha x hx => x.mono (h.ins r hr a ha x hx) hf, fun x hx => x.mono (h.held x hx) hf⟩
theorem Fam.move (h : Fam W b0 ks rs hs) (hsz : W.heap.size ≤ W'.heap.size) (ho : ∀ j, j < W.heap.size → j ∉ ks → W'.heap[j]? = W.heap[j]?) : Fam W' b0 ks rs hs := by
  have hf : ∀ j, Free W b0 ks rs j → Free W' b0 ks rs j := fun j hj => ⟨hj.1, by have := hj.2.1; omega, hj.2.2⟩
  have hk : ∀ j, Free W b0 ks rs j → W'.heap[j]? = W.heap[j]? := fun j hj => ho j hj.2.1 hj.2.2.1
  exact ⟨Nat.le_trans h.base hsz, fun r hr => owns_move' (h.row r hr) fun k h1 => ho k (h.lt hr h1).2 (h.sep r hr k h1), h.sep, h.two, fun r hr a ha x hx => x.mono (x.keep (h.ins r hr a ha x hx) hk) hf, fun x hx => x.mono (x.keep (h.held x hx) hk) hf⟩
theorem Fam.sys (h : Fam w0 b0 ks rs hs) (S : Sys B w0 L w) (hL : ∀ e, e ∈ L → e.1 ∈ ks ∨ w0.heap.size ≤ e.1) : Fam w b0 ks rs hs :=
  h.move S.size fun j hj hn => S.old j hj fun e he e1 => by
    rcases hL e he with h2 | h2
    · exact hn (e1 ▸ h2)
    · omega
theorem Fam.below (h : Fam w b0 ks rs hs) (hb : Below w.heap.size w w2) : Fam w2 b0 ks rs hs := h.move hb.size fun j hj _ => hb.block j hj
/-- what a call made. -/
theorem Fam.made (h : Fam w1 b0 ks rs hs) (hb : Below w1.heap.size w1 w2) {x : Held} (hx : x.p w2 (Btw w1.heap.size w2.heap.size)) (hk : ∀ k, k ∈ ks → k < w1.heap.size) : Fam w2 b0 ks rs (x :: hs) :=
  (h.below hb).hold hx fun j hj => ⟨Nat.le_trans h.base hj.1, hj.2, fun h1 => by have := hk j h1; have := hj.1; omega, fun r hr h1 => by have := (h.lt hr h1).2; have := hj.1; omega⟩
/-- a row grows. -/
theorem Fam.push {α : Type} {K : Kind α} {v v' : Value} {l : List α} {a : α} {i : Nat} (h : Fam W b0 ks rs hs) (hi : rs[i]? = some ⟨α, K, v, l⟩) (ha : ∀ x, x ∈ K.sl a → x ∈ hs) (hrow : W'.ownsRow b0 K.ty K.m v' (l.length + 1) (l.flatMap K.c ++ K.c a))
    (hsz : W.heap.size ≤ W'.heap.size) (ho : ∀ j, j < W.heap.size → j ∉ ks → v.ownBlock ≠ some j → W'.heap[j]? = W.heap[j]?) (hfr : ∀ k, v'.ownBlock = some k → v.ownBlock = some k ∨ (W.heap.size ≤ k ∧ k ∉ ks)) :
    Fam W' b0 ks (rs.set i ⟨α, K, v', l ++ [a]⟩) hs := by
  have hm : ∀ r, r ∈ rs.set i ⟨α, K, v', l ++ [a]⟩ → r = ⟨α, K, v', l ++ [a]⟩ ∨ (r ∈ rs ∧ ∀ k, r.v.ownBlock = some k → v.ownBlock ≠ some k) := fun r hr => by
    obtain ⟨j, hj, rfl⟩ := List.mem_iff_getElem.1 hr
    by_cases hij : i = j
    · subst hij; left; simp
    · right
      rw [List.getElem_set_ne hij]
      simp at hj
      refine ⟨List.getElem_mem _, fun k hk h2 => ?_⟩
      obtain ⟨hil, hie⟩ := List.getElem?_eq_some_iff.1 hi
      have hp := List.pairwise_iff_getElem.1 h.two
      rcases Nat.lt_or_gt_of_ne hij with h3 | h3
      · have := hp i j hil hj h3 k (by rw [hie]; exact h2)
        exact this hk
      · have := hp j i hj hil h3 k hk
        rw [hie] at this
        exact this h2
  have hri : (⟨α, K, v, l⟩ : RowX) ∈ rs := List.mem_of_getElem? hi
  have hf : ∀ j, Free W b0 ks rs j → Free W' b0 ks (rs.set i ⟨α, K, v', l ++ [a]⟩) j := fun j hj => ⟨hj.1, by have := hj.2.1; omega, hj.2.2.1, fun r hr h1 => by
    rcases hm r hr with rfl | ⟨h2, _⟩
    · rcases hfr j h1 with h3 | h3
      · exact hj.2.2.2 _ hri h3
      · have := hj.2.1; omega
    · exact hj.2.2.2 r h2 h1⟩
  have hk : ∀ j, Free W b0 ks rs j → W'.heap[j]? = W.heap[j]? := fun j hj => ho j hj.2.1 hj.2.2.1 fun h1 => hj.2.2.2 _ hri h1
  refine ⟨Nat.le_trans h.base hsz, fun r hr => ?_, fun r hr k h1 => ?_, ?_, fun r hr b hb x hx => ?_, fun x hx => x.mono (x.keep (h.held x hx) hk) hf⟩
  · rcases hm r hr with rfl | ⟨h2, h3⟩
    · simpa using hrow
    · exact owns_move' (h.row r h2) fun k h4 => ho k (h.lt h2 h4).2 (h.sep r h2 k h4) (h3 k h4)
  · rcases hm r hr with rfl | ⟨h2, h3⟩
    · rcases hfr k h1 with h4 | h4
      · exact h.sep _ hri k h4
      · exact h4.2
    · exact h.sep r h2 k h1
  · rw [List.pairwise_iff_getElem]
    have hp := List.pairwise_iff_getElem.1 h.two
    obtain ⟨hil, hie⟩ := List.getElem?_eq_some_iff.1 hi
    intro p q hpl hql hpq k hk1 hk2
    simp at hpl hql
    by_cases h1 : i = p
    · subst h1
      have h2 : i ≠ q := by omega
      rw [List.getElem_set_ne h2] at hk2
      simp at hk1
      rcases hfr k hk1 with h4 | h4
      · exact hp i q hpl hql hpq k (by rw [hie]; exact h4) hk2
      · have := (h.lt (List.getElem_mem hql) hk2).2; omega
    · by_cases h2 : i = q
      · subst h2
        rw [List.getElem_set_ne h1] at hk1
        simp at hk2
        rcases hfr k hk2 with h4 | h4
        · have := hp p i hpl hql hpq k hk1
          rw [hie] at this
          exact this h4
        · have := (h.lt (List.getElem_mem hpl) hk1).2; omega
      · rw [List.getElem_set_ne h1] at hk1
        rw [List.getElem_set_ne h2] at hk2
        exact hp p q hpl hql hpq k hk1 hk2
  · rcases hm r hr with rfl | ⟨h2, h3⟩
    · rcases List.mem_append.1 hb with h4 | h4
      · exact x.mono (x.keep (h.ins _ hri b h4 x hx) hk) hf
      · have h5 : b = a := List.mem_singleton.1 h4
        have h6 : x ∈ K.sl b := hx
        rw [h5] at h6
        exact x.mono (x.keep (h.held x (ha x h6)) hk) hf
    · exact x.mono (x.keep (h.ins r h2 b hb x hx) hk) hf
/-- a row is read. -/
theorem Fam.list {α : Type} {K : Kind α} {v : Value} {l : List α} (h : Fam W b0 ks rs hs) (hr : (⟨α, K, v, l⟩ : RowX) ∈ rs) : ∃ r : SV, v = svV r ∧ ListAt K W (Btw b0 W.heap.size) r l := by
  have h1 := h.row _ hr
  obtain ⟨r, rfl, hrn⟩ := owns_sv h1
  obtain ⟨a1, a2, _, a4⟩ := ReadsP.own h1
  refine ⟨r, rfl, by rw [a2]; exact a1, by simp only [maxLen] at a4 hrn; omega, fun a ha x hx => x.mono (h.ins _ hr a ha x hx) fun j hj => ⟨hj.1, hj.2.1⟩⟩
theorem Fam.get {x : Held} (h : Fam W b0 ks rs hs) (hx : x ∈ hs) : x.p W (Btw b0 W.heap.size) := x.mono (h.held x hx) fun j hj => ⟨hj.1, hj.2.1⟩
end
section
variable {P : Program} {T : TT} {N : Nat} {B : Nat} {w0 : World} {ds : List Deferred} {Q : Exit → Act → World → Prop} {F : Fr} {L : Lo} {ops : Array Oper} {rest : List Oper} {ty : TypeId} {p : String} {af : Array Edge}
/-- append(row, one element). -/
theorem XL.push {α : Type} {K : Kind α} {d : Nat} {t : TypeId} {x y : Operand} {v : Value} {l : List α} {a : α} {c bytes b0 : Nat} {A : Addr} {ks : List Nat} {rs : List RowX} {hs : List Held} {wE : World} (i : Nat) (he : elemOk P t K.ty K.m bytes = true) (h0 : 0 < K.m)
    (hx : evo F x = some v) (hy : evo F y = some (.slice (some A) 1 c)) (hd : Nat.blt d N = true) (hF : Fam w0 b0 ks rs hs) (hi : rs[i]? = some ⟨α, K, v, l⟩) (hks : ∀ k, k ∈ ks → k < w0.heap.size) (hbl : Below B wE w0) (hB : B ≤ b0) (h1 : (K.c a).all Value.oneCell' = true) (h63 : l.length + 1 ≤ 10000000) (hb : bytes ≤ 10000000) (ha : ∀ x, x ∈ K.sl a → x ∈ hs)
    (k : ∀ w' v', Fam w' b0 (L.map (·.1) ++ ks) (rs.set i ⟨α, K, v', l ++ [a]⟩) hs → Below B wE w' → (∀ k, k ∈ L.map (·.1) ++ ks → k < w'.heap.size) → XL P N B w' ds Q ops rest ((d, v') :: F) L)
    (hL : ∀ e, e ∈ L → e.1 ∈ ks ∨ w0.heap.size ≤ e.1 := by (intro e he; repeat (first | (cases he; done) | (rcases List.mem_cons.1 he with rfl | he; · first | (right; assumption) | (left; simp <;> fail)))) <;> fail) (hnews : ∀ w, Sys B w0 L w → ∀ j u, (K.c a)[j]? = some u → w.cell? (A.add j) = some u := by (intro w S j u hj; first | (rw [add_off, Nat.zero_add, S.cell List.mem_cons_self j]; exact hj) | (rw [add_off, Nat.zero_add, S.cell (List.mem_cons_of_mem _ List.mem_cons_self) j]; exact hj) | (rw [add_off, Nat.zero_add, S.cell (List.mem_cons_of_mem _ (List.mem_cons_of_mem _ List.mem_cons_self)) j]; exact hj))) :
    XL P N B w0 ds Q ops ({ dst := some d, op := .call { callee := .builtin .append, args := #[x, y], argTypes := #[t, t] }, type := ty, pos := p, after := af, guard := none } :: rest) F L := by
  have hri : (⟨α, K, v, l⟩ : RowX) ∈ rs := List.mem_of_getElem? hi
  have hk2 : ∀ k, k ∈ L.map (·.1) ++ ks → k ∈ ks ∨ w0.heap.size ≤ k := fun k hk => by
    rcases List.mem_append.1 hk with h | h
    · obtain ⟨e, he, rfl⟩ := List.mem_map.1 h
      exact hL e he
    · exact .inl h
  have hk3 : ∀ w, Sys B w0 L w → ∀ k, k ∈ L.map (·.1) ++ ks → k < w.heap.size := fun w S k hk => by
    rcases List.mem_append.1 hk with h | h
    · obtain ⟨e, he, rfl⟩ := List.mem_map.1 h
      exact S.lt he
    · exact Nat.lt_of_lt_of_le (hks k h) S.size
  refine XL.append2 (v := v) (m := 1) (n := l.length) (size := K.m) (bytes := bytes) (base := b0) (A := A) (xs := l.flatMap K.c) (news := K.c a) (L' := L) he h0 hx hy hd (hF.row _ hri) (fun k hk e he e1 => ?_) (by rw [K.len]; omega) hnews h1 (by unfold maxLen; omega)
    (Nat.le_trans (Nat.mul_le_mul h63 hb) (by decide)) hF.base (List.Sublist.refl _) (fun w v' w' S ho hg _ hfr => ?_)
  · rcases hL e he with h | h
    · exact hF.sep _ hri k hk (e1 ▸ h)
    · have := (hF.lt hri hk).2; omega
  · have hsz := hg.size
    have hS := S.size
    refine k w' v' ?_ (hbl.trans (grown_below S hg fun k hk => Nat.le_trans hB (hF.lt hri hk).1)) fun q hq => Nat.lt_of_lt_of_le (hk3 w S q hq) hsz
    refine (hF.add (ks' := L.map (·.1) ++ ks) hk2).push hi ha ho (Nat.le_trans hS hsz) (fun j hj hn hv => ?_) (fun k hk => ?_)
    · exact grown_old S hg hj (fun e he e1 => hn (List.mem_append_left _ (List.mem_map.2 ⟨e, he, e1⟩))) fun e1 => hv e1.symm
    · rcases hfr k hk with h | h
      · exact .inl h
      · exact .inr ⟨Nat.le_trans hS h, fun h2 => by have := hk3 w S k h2; omega⟩
/-- what a call made: its value, and new things in memory. -/
def Made (w : World) (R : Value → List Held → Prop) (e : Ending) (w' : World) : Prop := ∃ v new, e = .returned v ∧ R v new ∧ (∀ x, x ∈ new → x.p w' (Btw w.heap.size w'.heap.size)) ∧ Below w.heap.size w w'
theorem Fam.call {w0 w1 w2 : World} {b0 : Nat} {ks : List Nat} {rs : List RowX} {hs new : List Held} (hF : Fam w0 b0 ks rs hs) (S : Sys B w0 L w1) (hb : Below w1.heap.size w1 w2) (hL : ∀ e, e ∈ L → e.1 ∈ ks ∨ w0.heap.size ≤ e.1) (hks : ∀ k, k ∈ ks → k < w0.heap.size)
    (hx : ∀ x, x ∈ new → x.p w2 (Btw w1.heap.size w2.heap.size)) : Fam w2 b0 (L.map (·.1) ++ ks) rs (new ++ hs) ∧ ∀ k, k ∈ L.map (·.1) ++ ks → k < w2.heap.size := by
  have hk3 : ∀ k, k ∈ L.map (·.1) ++ ks → k < w1.heap.size := fun k hk => by
    rcases List.mem_append.1 hk with h | h
    · obtain ⟨e, he, rfl⟩ := List.mem_map.1 h
      exact S.lt he
    · exact Nat.lt_of_lt_of_le (hks k h) S.size
  have h1 : Fam w0 b0 (L.map (·.1) ++ ks) rs hs := hF.add fun k hk => by
    rcases List.mem_append.1 hk with h | h
    · obtain ⟨e, he, rfl⟩ := List.mem_map.1 h
      exact hL e he
    · exact .inl h
  have h2 : Fam w1 b0 (L.map (·.1) ++ ks) rs hs := h1.sys S fun e he => .inl (List.mem_append_left _ (List.mem_map.2 ⟨e, he, rfl⟩))
  refine ⟨?_, fun k hk => Nat.lt_of_lt_of_le (hk3 k hk) hb.size⟩
  clear hL hks h1
  induction new with
  | nil => exact h2.below hb
  | cons x new ih =>
    have := ih fun y hy => hx y (List.mem_cons_of_mem _ hy)
    exact this.hold (hx x List.mem_cons_self) fun j hj => ⟨Nat.le_trans h2.base hj.1, hj.2, fun h3 => by have := hk3 j h3; have := hj.1; omega, fun r hr h3 => by have := (h2.lt hr h3).2; have := hj.1; omega⟩
theorem XL.at_call {N : Nat} {ds : List Deferred} {F : Fr} {d : Nat} (f : FuncId) {args : Array Operand} {ats : Array TypeId} (k : XL P N B w0 ds Q ops ({ dst := some d, op := .call { callee := .value (.func f), args := args, argTypes := ats }, type := ty, pos := p, after := af, guard := none } :: rest) F L) :
    XL P N B w0 ds Q ops ({ dst := some d, op := .call { callee := .value (.func f), args := args, argTypes := ats }, type := ty, pos := p, after := af, guard := none } :: rest) F L := k
/-- a call that makes new things; the world behind it is the new base. -/
theorem XL.callF {f : FuncId} {d : Nat} {args : Array Operand} {vs : List Value} {ats : Array TypeId} {b0 : Nat} {ks : List Nat} {rs : List RowX} {hs : List Held} {wE : World} (R : Value → List Held → Prop) (h : callOk P f = true)
    (ha : evos F args.toList = some vs) (hd : Nat.blt d N = true) (hF : Fam w0 b0 ks rs hs) (hks : ∀ k, k ∈ ks → k < w0.heap.size) (hbl : Below B wE w0)
    (hc : ∀ w, Sys B w0 L w → Fam w b0 (L.map (·.1) ++ ks) rs hs → Below B wE w → Calls P f vs.toArray w (Made w R))
    (k : ∀ w' v new, R v new → Fam w' b0 (L.map (·.1) ++ ks) rs (new ++ hs) → Below B wE w' → (∀ k, k ∈ L.map (·.1) ++ ks → k < w'.heap.size) → XL P N B w' ds Q ops rest ((d, v) :: F) L)
    (hL : ∀ e, e ∈ L → e.1 ∈ ks ∨ w0.heap.size ≤ e.1 := by (intro e he; repeat (first | (cases he; done) | (rcases List.mem_cons.1 he with rfl | he; · first | (right; assumption) | (left; simp <;> fail)))) <;> fail) :
    XL P N B w0 ds Q ops ({ dst := some d, op := .call { callee := .value (.func f), args := args, argTypes := ats }, type := ty, pos := p, after := af, guard := none } :: rest) F L := by
  refine XL.call (fst := []) (cap := []) (vs := vs) h rfl ha hd (List.Sublist.refl _) (fun w v w' => ∃ new, R v new ∧ (∀ x, x ∈ new → x.p w' (Btw w.heap.size w'.heap.size)) ∧ Below w.heap.size w w') (fun w S => ?_) (fun w v w' S hR hb S' => ?_)
  · have h1 := hF.call S (Below.refl _ _) hL hks (new := []) fun _ h => by cases h
    simp only [List.nil_append, List.append_nil] at h1 ⊢
    exact (hc w S h1.1 (hbl.trans S.toBelow)).mono fun e w' ⟨v, new, e1, e2, e3, e4⟩ => ⟨v, e1, ⟨new, e2, e3, e4⟩, e4⟩
  · obtain ⟨new, e2, e3, e4⟩ := hR
    have h1 := hF.call S hb hL hks e3
    exact k w' v new e2 h1.1 (hbl.trans S'.toBelow) h1.2
/-- a cut's end; the state may be told by the world. -/
theorem XE.leafW {N : Nat} {ds : List Deferred} {F : Fr} {σ : Type} {G0 : Fr} {G : σ → Fr} {M : σ → Lo} {W : σ → World} {pre : σ → Prop} (h : ∀ w, Sys B w0 L w → ∃ s, pre s ∧ Sub (G s ++ G0) F ∧ Sys B (W s) (M s) w) :
    XE N B w0 ds (cutQ N B ds Q G0 G M W pre) .normal F L := ⟨fun a w hf hs => by
  obtain ⟨s, hp, hG, hS⟩ := h w hs
  exact ⟨s, hp, hG.fits hf, hS⟩⟩
end
theorem Held.lt {x : Held} {w : World} {b0 : Nat} (h : x.p w (Btw b0 w.heap.size)) : x.p w (Lt w.heap.size) := x.mono h fun k hk => hk.2
end Go.Proofs.Ytmckmlmfilmiaaa.X
/-
  Rows that take whole lists; rows that are built or made; a slice from a place on.
-/
namespace Go.Proofs.Ytmckmlmfilmiaaa.X
open Go Go.RowKit
set_option linter.unusedVariables false
section
variable {W W' w w0 w1 w2 : World} {b0 B : Nat} {ks ks' : List Nat} {rs : List RowX} {hs hs' : List Held} {L : Lo}
/-- a row takes a list. -/
theorem Fam.pushL {α : Type} {K : Kind α} {v v' : Value} {l l2 : List α} {i : Nat} (h : Fam W b0 ks rs hs) (hi : rs[i]? = some ⟨α, K, v, l⟩) (ha : ∀ a, a ∈ l2 → ∀ x, x ∈ K.sl a → x.p W (Free W b0 ks rs)) (hrow : W'.ownsRow b0 K.ty K.m v' (l.length + l2.length) (l.flatMap K.c ++ l2.flatMap K.c))
    (hsz : W.heap.size ≤ W'.heap.size) (ho : ∀ j, j < W.heap.size → j ∉ ks → v.ownBlock ≠ some j → W'.heap[j]? = W.heap[j]?) (hfr : ∀ k, v'.ownBlock = some k → v.ownBlock = some k ∨ (W.heap.size ≤ k ∧ k ∉ ks)) :
    Fam W' b0 ks (rs.set i ⟨α, K, v', l ++ l2⟩) hs := by
  have hm : ∀ r, r ∈ rs.set i ⟨α, K, v', l ++ l2⟩ → r = ⟨α, K, v', l ++ l2⟩ ∨ (r ∈ rs ∧ ∀ k, r.v.ownBlock = some k → v.ownBlock ≠ some k) := fun r hr => by
    obtain ⟨j, hj, rfl⟩ := List.mem_iff_getElem.1 hr
    by_cases hij : i = j
    · subst hij; left; simp
    · right
      rw [List.getElem_set_ne hij]
      simp at hj
      refine ⟨List.getElem_mem _, fun k hk h2 => ?_⟩
      obtain ⟨hil, hie⟩ := List.getElem?_eq_some_iff.1 hi
      have hp := List.pairwise_iff_getElem.1 h.two
      rcases Nat.lt_or_gt_of_ne hij with h3 | h3
      · have := hp i j hil hj h3 k (by rw [hie]; exact h2)
        exact this hk
      · have := hp j i hj hil h3 k hk
        rw [hie] at this
        exact this h2
  have hri : (⟨α, K, v, l⟩ : RowX) ∈ rs := List.mem_of_getElem? hi
  have hf : ∀ j, Free W b0 ks rs j → Free W' b0 ks (rs.set i ⟨α, K, v', l ++ l2⟩) j := fun j hj => ⟨hj.1, by have := hj.2.1; omega, hj.2.2.1, fun r hr h1 => by
    rcases hm r hr with rfl | ⟨h2, _⟩
    · rcases hfr j h1 with h3 | h3
      · exact hj.2.2.2 _ hri h3
      · have := hj.2.1; omega
    · exact hj.2.2.2 r h2 h1⟩
  have hk : ∀ j, Free W b0 ks rs j → W'.heap[j]? = W.heap[j]? := fun j hj => ho j hj.2.1 hj.2.2.1 fun h1 => hj.2.2.2 _ hri h1
  refine ⟨Nat.le_trans h.base hsz, fun r hr => ?_, fun r hr k h1 => ?_, ?_, fun r hr b hb x hx => ?_, fun x hx => x.mono (x.keep (h.held x hx) hk) hf⟩
  · rcases hm r hr with rfl | ⟨h2, h3⟩
    · simpa using hrow
    · exact owns_move' (h.row r h2) fun k h4 => ho k (h.lt h2 h4).2 (h.sep r h2 k h4) (h3 k h4)
  · rcases hm r hr with rfl | ⟨h2, h3⟩
    · rcases hfr k h1 with h4 | h4
      · exact h.sep _ hri k h4
      · exact h4.2
    · exact h.sep r h2 k h1
  · rw [List.pairwise_iff_getElem]
    have hp := List.pairwise_iff_getElem.1 h.two
    obtain ⟨hil, hie⟩ := List.getElem?_eq_some_iff.1 hi
    intro p q hpl hql hpq k hk1 hk2
    simp at hpl hql
    by_cases h1 : i = p
    · subst h1
      have h2 : i ≠ q := by omega
      rw [List.getElem_set_ne h2] at hk2
      simp at hk1
      rcases hfr k hk1 with h4 | h4
      · exact hp i q hpl hql hpq k (by rw [hie]; exact h4) hk2
      · have := (h.lt (List.getElem_mem hql) hk2).2; omega
    · by_cases h2 : i = q
      · subst h2
        rw [List.getElem_set_ne h1] at hk1
        simp at hk2
        rcases hfr k hk2 with h4 | h4
        · have := hp p i hpl hql hpq k hk1
          rw [hie] at this
          exact this h4
        · have := (h.lt (List.getElem_mem hpl) hk1).2; omega
      · rw [List.getElem_set_ne h1] at hk1
        rw [List.getElem_set_ne h2] at hk2
        exact hp p q hpl hql hpq k hk1 hk2
  · rcases hm r hr with rfl | ⟨h2, h3⟩
    · rcases List.mem_append.1 hb with h4 | h4
      · exact x.mono (x.keep (h.ins _ hri b h4 x hx) hk) hf
      · exact x.mono (x.keep (ha b h4 x hx) hk) hf
    · exact x.mono (x.keep (h.ins r h2 b hb x hx) hk) hf
/-- a new row. -/
theorem Fam.fresh {α : Type} {K : Kind α} {v : Value} {l : List α} (h : Fam W b0 ks rs hs) (hsz : W.heap.size ≤ W'.heap.size) (ho : ∀ j, j < W.heap.size → j ∉ ks → W'.heap[j]? = W.heap[j]?) (hrow : W'.ownsRow b0 K.ty K.m v l.length (l.flatMap K.c))
    (hv : ∀ k, v.ownBlock = some k → W.heap.size ≤ k ∧ k ∉ ks) (ha : ∀ a, a ∈ l → ∀ x, x ∈ K.sl a → x.p W (Free W b0 ks rs)) : Fam W' b0 ks (⟨α, K, v, l⟩ :: rs) hs := by
  have h1 := h.move hsz ho
  have hf : ∀ j, Free W b0 ks rs j → Free W' b0 ks (⟨α, K, v, l⟩ :: rs) j := fun j hj => ⟨hj.1, by have := hj.2.1; omega, hj.2.2.1, fun r hr h2 => by
    rcases List.mem_cons.1 hr with rfl | hr
    · have := (hv j h2).1; have := hj.2.1; omega
    · exact hj.2.2.2 r hr h2⟩
  have hk : ∀ j, Free W b0 ks rs j → W'.heap[j]? = W.heap[j]? := fun j hj => ho j hj.2.1 hj.2.2.1
  refine ⟨h1.base, fun r hr => ?_, fun r hr k h2 => ?_, .cons (fun r hr k h2 h3 => ?_) h.two, fun r hr a hb x hx => ?_, fun x hx => x.mono (x.keep (h.held x hx) hk) hf⟩
  · rcases List.mem_cons.1 hr with rfl | hr
    · exact hrow
    · exact h1.row r hr
  · rcases List.mem_cons.1 hr with rfl | hr
    · exact (hv k h2).2
    · exact h.sep r hr k h2
  · have := (hv k h2).1; have := (h.lt hr h3).2; omega
  · rcases List.mem_cons.1 hr with rfl | hr
    · exact x.mono (x.keep (ha a hb x hx) hk) hf
    · exact x.mono (x.keep (h.ins r hr a hb x hx) hk) hf
end
section
variable {P : Program} {T : TT} {N : Nat} {B : Nat} {w0 : World} {ds : List Deferred} {Q : Exit → Act → World → Prop} {F : Fr} {L : Lo} {pu : Prop} {ops : Array Oper} {rest : List Oper} {ty : TypeId} {p : String} {af : Array Edge}
variable {dst : Option Tmp} {gd : Option (Nat × Bool)}
theorem append_none_run {w : World} {base t e size bytes n c : Nat} {v : Value} {xs : List Value} (he : elemOk P t e size bytes = true) (hown : w.ownsRow base e size v n xs) : (Builtin.append_ #[t, t] ty #[v, .slice none 0 c]).run P w = .ok v w := by
  obtain ⟨hu, i, z, hi, hz, e1, e2, e3⟩ := elemOk_spec he
  rcases hown.2 with ⟨rfl, rfl⟩ | ⟨g, cap, cur, rfl, hb, hg, hc, hm, h⟩
  · simp [Builtin.append_, run_underlying hu, sizeOf_run hi, Builtin.lenOf, Builtin.firstCells]
  · have : ¬ cap < n := by omega
    simp [Builtin.append_, run_underlying hu, sizeOf_run hi, Builtin.lenOf, Builtin.firstCells, storeCells, hc, this]
/-- append(row, a whole list). -/
theorem XL.pushL {α : Type} {K : Kind α} {d : Nat} {t : TypeId} {x y : Operand} {v : Value} {l l2 : List α} {r2 : SV} {bytes b0 : Nat} {ks : List Nat} {rs : List RowX} {hs : List Held} {wE : World} (i : Nat) (he : elemOk P t K.ty K.m bytes = true) (h0 : 0 < K.m)
    (hx : evo F x = some v) (hy : evo F y = some (.slice r2.A r2.n r2.c)) (hd : Nat.blt d N = true) (hF : Fam w0 b0 ks rs hs) (hi : rs[i]? = some ⟨α, K, v, l⟩) (hks : ∀ k, k ∈ ks → k < w0.heap.size) (hbl : Below B wE w0) (hB : B ≤ b0)
    (hr : ∀ w, Sys B w0 L w → ListAt K w (Lt w.heap.size) r2 l2) (ha : ∀ a, a ∈ l2 → ∀ x, x ∈ K.sl a → x.p w0 (Free w0 b0 ks rs)) (h1 : ∀ a : α, (K.c a).all Value.oneCell' = true) (h63 : l.length + l2.length ≤ 10000000) (hb : bytes ≤ 10000000)
    (k : ∀ w' v', Fam w' b0 (L.map (·.1) ++ ks) (rs.set i ⟨α, K, v', l ++ l2⟩) hs → Below B wE w' → (∀ k, k ∈ L.map (·.1) ++ ks → k < w'.heap.size) → XL P N B w' ds Q ops rest ((d, v') :: F) L)
    (hL : ∀ e, e ∈ L → e.1 ∈ ks ∨ w0.heap.size ≤ e.1 := by (intro e he; repeat (first | (cases he; done) | (rcases List.mem_cons.1 he with rfl | he; · first | (right; assumption) | (left; simp <;> fail)))) <;> fail) :
    XL P N B w0 ds Q ops ({ dst := some d, op := .call { callee := .builtin .append, args := #[x, y], argTypes := #[t, t] }, type := ty, pos := p, after := af, guard := none } :: rest) F L := by
  obtain ⟨A, m, c⟩ := r2
  have hri : (⟨α, K, v, l⟩ : RowX) ∈ rs := List.mem_of_getElem? hi
  have hk2 : ∀ k, k ∈ L.map (·.1) ++ ks → k ∈ ks ∨ w0.heap.size ≤ k := fun k hk => by
    rcases List.mem_append.1 hk with h | h
    · obtain ⟨e, he, rfl⟩ := List.mem_map.1 h
      exact hL e he
    · exact .inl h
  have hk3 : ∀ w, Sys B w0 L w → ∀ k, k ∈ L.map (·.1) ++ ks → k < w.heap.size := fun w S k hk => by
    rcases List.mem_append.1 hk with h | h
    · obtain ⟨e, he, rfl⟩ := List.mem_map.1 h
      exact S.lt he
    · exact Nat.lt_of_lt_of_le (hks k h) S.size
  have hsepL : ∀ k, v.ownBlock = some k → ∀ e, e ∈ L → e.1 ≠ k := fun k hk e he e1 => by
    rcases hL e he with h | h
    · exact hF.sep _ hri k hk (e1 ▸ h)
    · have := (hF.lt hri hk).2; omega
  cases A with
  | none =>
    refine ⟨fun a w hf S => ?_⟩
    refine wpList_plain rfl fun Kk hK => ?_
    unfold Oper.wp
    have hl := hr w S
    have hm := hl.len h0
    simp only at hm
    have hm0 : m = 0 := by
      rcases Nat.eq_zero_or_pos m with h | h
      · exact h
      · obtain ⟨ad, e, _⟩ := hl.rd.at_ (by simpa using h)
        cases e
    subst hm0
    have hl2 : l2 = [] := List.length_eq_zero_iff.1 hm.symm
    subst hl2
    have hrun := append_none_run (ty := ty) (c := c) he (owns_sys (hF.row _ hri) S hsepL)
    have : (execOp a.eval { dst := some d, op := .call { callee := .builtin .append, args := #[x, y], argTypes := #[t, t] }, type := ty, pos := p, after := af, guard := none }).run P w = .ok (.value v) w := by
      have hm : (#[x, y] : Array Operand).map a.eval = #[v, .slice none 0 c] := by simp [hf.eval hx, hf.eval hy]
      simp only [execOp, resolve, Sem.run_bind, Sem.run_pure, Result.andThen_ok, invoke, builtin, hm, hrun]
    rw [this]
    refine hK _ _ ((k w v ?_ (hbl.trans S.toBelow) (hk3 w S)).run _ _ (hf.put hd) (S.rebase (List.Sublist.refl _)))
    have h2 := (hF.add (ks' := L.map (·.1) ++ ks) hk2).sys S fun e he => .inl (List.mem_append_left _ (List.mem_map.2 ⟨e, he, rfl⟩))
    obtain ⟨hil, hie⟩ := List.getElem?_eq_some_iff.1 hi
    have h3 : rs.set i ⟨α, K, v, l ++ []⟩ = rs := by
      rw [List.append_nil, ← hie]
      exact List.set_getElem_self hil
    rw [h3]
    exact h2
  | some A =>
    by_cases hex : ∃ w, Sys B w0 L w
    · obtain ⟨wx, Sx⟩ := hex
      have hm := (hr wx Sx).len h0
      simp only at hm
      subst hm
      refine XL.append2 (v := v) (m := l2.length) (n := l.length) (size := K.m) (bytes := bytes) (base := b0) (A := A) (xs := l.flatMap K.c) (news := l2.flatMap K.c) (L' := L) he h0 hx hy hd (hF.row _ hri) hsepL (by rw [flat_len K.c K.m K.len])
        (fun w S j u hj => ?_) ?_ (by unfold maxLen; omega) (Nat.le_trans (Nat.mul_le_mul h63 hb) (by decide)) hF.base (List.Sublist.refl _) (fun w v' w' S ho hg _ hfr => ?_)
      · have h2 := hr w S
        have hjl := (List.getElem?_eq_some_iff.1 hj).1
        rw [flat_len K.c K.m K.len] at hjl
        have hpos : 0 < l2.length := by
          rcases Nat.eq_zero_or_pos l2.length with h | h
          · rw [h] at hjl; omega
          · exact h
        obtain ⟨ad, e, _, h3⟩ := h2.rd.at_ hpos
        cases e
        exact h3 j u hj
      · rw [List.all_eq_true]
        intro u hu
        obtain ⟨a, ha', hu'⟩ := List.mem_flatMap.1 hu
        exact List.all_eq_true.1 (h1 a) u hu'
      · have hsz := hg.size
        have hS := S.size
        refine k w' v' ?_ (hbl.trans (grown_below S hg fun k hk => Nat.le_trans hB (hF.lt hri hk).1)) fun q hq => Nat.lt_of_lt_of_le (hk3 w S q hq) hsz
        have hfa : ∀ j, Free w0 b0 ks rs j → Free w0 b0 (L.map (·.1) ++ ks) rs j := fun j hj => ⟨hj.1, hj.2.1, fun h => by
          rcases hk2 j h with h4 | h4
          · exact hj.2.2.1 h4
          · have := hj.2.1; omega, hj.2.2.2⟩
        refine (hF.add (ks' := L.map (·.1) ++ ks) hk2).pushL hi (fun a h4 x hx => x.mono (ha a h4 x hx) hfa) ho (Nat.le_trans hS hsz) (fun j hj hn hv => ?_) (fun k hk => ?_)
        · exact grown_old S hg hj (fun e he e1 => hn (List.mem_append_left _ (List.mem_map.2 ⟨e, he, e1⟩))) fun e1 => hv e1.symm
        · rcases hfr k hk with h | h
          · exact .inl h
          · exact .inr ⟨Nat.le_trans hS h, fun h2 => by have := hk3 w S k h2; omega⟩
    · exact ⟨fun a w hf S => absurd ⟨w, S⟩ hex⟩
theorem XL.weak1 {t : Nat} {u : Value} (h : XL P N B w0 ds Q ops rest F L) : XL P N B w0 ds Q ops rest ((1000000 + t, u) :: F) L :=
  ⟨fun a w hf hs => h.run a w ⟨hf.size, hf.defers, fun t' v ht hv => hf.get t' v ht (by
    unfold lk
    have : Nat.beq (1000000 + t) t' = false := by
      cases hb : Nat.beq (1000000 + t) t' with
      | false => rfl
      | true => have := Nat.eq_of_beq_eq_true hb; omega
    rw [this]
    exact hv)⟩ hs⟩
/-- a slice literal is a new row. -/
theorem XL.newRow (hT : TOK P T) {α : Type} {K : Kind α} {l : List α} {d : Nat} {t e : TypeId} {n size b0 : Nat} {ps : List (Nat × Operand)} {z : Value} {zs cs : List Value} {ks : List Nat} {rs : List RowX} {hs : List Held} {wE : World}
    (hs' : lkG T.sl t = some (e, size)) (hz : lkG T.zero e = some z) (hzs : cellsO z = some zs) (hsz : Nat.beq zs.length size = true) (h0 : Nat.blt 0 size = true) (hbig : Nat.ble (n * size) 16777216 = true) {zl : List Value} (hzl : zerosO zs n = some zl) (hc : fillS F size zl ps = some cs) (hd : Nat.blt d N = true)
    (hK : K.ty = e ∧ K.m = size) (hcs : cs = l.flatMap K.c) (hn : l.length = n) (hF : Fam w0 b0 ks rs hs) (hks : ∀ k, k ∈ ks → k < w0.heap.size) (hbl : Below B wE w0) (hb0 : b0 ≤ w0.heap.size) (ha : ∀ a, a ∈ l → ∀ x, x ∈ K.sl a → x.p w0 (Free w0 b0 ks rs))
    (k : ∀ w' g, Fam w' b0 (L.map (·.1) ++ ks) (⟨α, K, .slice (some ⟨g, 0, none⟩) n n, l⟩ :: rs) hs → Below B wE w' → (∀ k, k ∈ L.map (·.1) ++ ks → k < w'.heap.size) → XL P N B w' ds Q ops rest ((d, .slice (some ⟨g, 0, none⟩) n n) :: F) L)
    (hL : ∀ e, e ∈ L → e.1 ∈ ks ∨ w0.heap.size ≤ e.1 := by (intro e he; repeat (first | (cases he; done) | (rcases List.mem_cons.1 he with rfl | he; · first | (right; assumption) | (left; simp <;> fail)))) <;> fail) :
    XL P N B w0 ds Q ops ({ dst := some d, op := .buildSlice t n ps.toArray, type := ty, pos := p, after := af, guard := none } :: rest) F L := by
  refine XL.buildSlice hT hs' hz hzs hsz h0 hbig hzl hc hd fun g hg => ?_
  refine XL.rebase (List.sublist_cons_self _ _) fun w1 S => ?_
  have hk2 : ∀ k, k ∈ L.map (·.1) ++ ks → k ∈ ks ∨ w0.heap.size ≤ k := fun k hk => by
    rcases List.mem_append.1 hk with h | h
    · obtain ⟨e, he, rfl⟩ := List.mem_map.1 h
      exact hL e he
    · exact .inl h
  have hk3 : ∀ k, k ∈ L.map (·.1) ++ ks → k < w1.heap.size := fun k hk => by
    rcases List.mem_append.1 hk with h | h
    · obtain ⟨e, he, rfl⟩ := List.mem_map.1 h
      exact S.lt (List.mem_cons_of_mem _ he)
    · exact Nat.lt_of_lt_of_le (hks k h) S.size
  have hgL : g ∉ L.map (·.1) := by have := S.nd; simp only [List.map_cons, List.nodup_cons] at this; exact this.1
  have hfa : ∀ j, Free w0 b0 ks rs j → Free w0 b0 (L.map (·.1) ++ ks) rs j := fun j hj => ⟨hj.1, hj.2.1, fun h => by
    rcases hk2 j h with h4 | h4
    · exact hj.2.2.1 h4
    · have := hj.2.1; omega, hj.2.2.2⟩
  obtain ⟨hK1, hK2⟩ := hK
  have hrow : w1.ownsRow b0 K.ty K.m (.slice (some ⟨g, 0, none⟩) n n) l.length (l.flatMap K.c) := by
    have h5 := (S.own (g, _) List.mem_cons_self).2
    have h6 : (l.flatMap K.c).length = n * K.m := by rw [flat_len K.c K.m K.len, hn]
    have hsz' : 0 < K.m := by rw [hK2]; exact Nat.le_of_ble_eq_true h0
    have hbig' : n * K.m ≤ 16777216 := by rw [hK2]; exact Nat.le_of_ble_eq_true hbig
    have hnm : n ≤ n * K.m := Nat.le_mul_of_pos_right n hsz'
    refine ⟨by rw [h6, hn], .inr ⟨g, n, ⟨l.flatMap K.c⟩, by rw [hn], Nat.le_trans hb0 hg, ?_, by omega, by unfold maxLen; omega, by simpa using h6, ?_⟩⟩
    · rw [hK1, ← hcs]; exact h5
    · rw [hn, ← h6]
      simp only [List.take_length]
  refine XL.weak1 (k w1 g ((hF.add (ks' := L.map (·.1) ++ ks) hk2).fresh S.size (fun j hj hn' => ?_) hrow (fun q hq => ?_) fun a h4 x hx => x.mono (ha a h4 x hx) hfa) (hbl.trans S.toBelow) hk3)
  · exact S.old j hj fun e he e1 => by
      rcases List.mem_cons.1 he with rfl | he
      · simp only at e1; omega
      · exact hn' (List.mem_append_left _ (List.mem_map.2 ⟨e, he, e1⟩))
  · simp only [Value.ownBlock, Option.some.injEq] at hq
    subst hq
    refine ⟨hg, fun h7 => ?_⟩
    rcases List.mem_append.1 h7 with h8 | h8
    · exact hgL h8
    · have := hks _ h8; omega
end
end Go.Proofs.Ytmckmlmfilmiaaa.X
/-
  A walk by lemmas (J): in a region that draws its order, reckonings too may be taken first, not only copies and addresses.
-/
namespace Go.Proofs.Ytmckmlmfilmiaaa.X
open Go Go.RowKit
set_option linter.unusedVariables false
section
variable {P : Program} {N : Nat} {B : Nat} {wS w0 : World} {ds : List Deferred} {Q : Exit → Act → World → Prop} {F : Fr} {L Ls : Lo} {ops : Array Oper} {rem rem' : List (Nat × Oper)}
/-- operations of slots alone, reckonings among them. -/
def reckOp (o : Oper) : Bool := match o.guard with
  | some _ => false
  | none => match o.op with
    | .move _ | .assign _ | .extract .. | .makeInterface .. | .build .. | .fieldAddr .. | .indexAddr .. | .binOp .. | .convert .. => true
    | .call c => match c.callee with
      | .builtin .min => true
      | .builtin .max => true
      | _ => false
    | _ => false
/-- the first of these that may come up. -/
def firstR (rem : List (Nat × Oper)) : List (Nat × Oper) → Option (Nat × Oper × List (Nat × Oper))
  | [] => none
  | (i, o) :: r => match reckOp o with
    | true => match readyB rem o with
      | true => match dropO rem i with
        | some rem' => some (i, o, rem')
        | none => none
      | false => firstR rem r
    | false => firstR rem r
theorem firstR_spec : ∀ {l : List (Nat × Oper)} {i : Nat} {o : Oper}, firstR rem l = some (i, o, rem') → (i, o) ∈ l ∧ readyB rem o = true ∧ dropO rem i = some rem' := by
  intro l
  induction l with
  | nil => intro i o h; cases h
  | cons e r ih =>
    intro i o h
    obtain ⟨j, p⟩ := e
    simp only [firstR] at h
    split at h
    · split at h
      · rename_i hr
        split at h
        · rename_i r2 hd
          simp only [Option.some.injEq, Prod.mk.injEq] at h
          obtain ⟨rfl, rfl, rfl⟩ := h
          exact ⟨List.mem_cons_self, hr, hd⟩
        · cases h
      · obtain ⟨h1, h2⟩ := ih h; exact ⟨List.mem_cons_of_mem _ h1, h2⟩
    · obtain ⟨h1, h2⟩ := ih h; exact ⟨List.mem_cons_of_mem _ h1, h2⟩
theorem XR.take2 {i : Nat} {o : Oper} (h1 : firstR rem rem = some (i, o, rem')) (hl : loneB ops rem i o = true) (h : Fw P N B wS ds False (fun F' => XR P N B wS w0 ds Q Ls ops rem' F' L) ops Ls [o] F) :
    XR P N B wS w0 ds Q Ls ops rem F L := by
  obtain ⟨hm, hr, hd⟩ := firstR_spec h1
  unfold loneB at hl
  simp only [Bool.and_eq_true] at hl
  obtain ⟨⟨hsel, hein⟩, hap⟩ := hl
  obtain ⟨v, hok, F', hal, hk⟩ := h.run
  refine ⟨fun D fuel a w hD hlen hf hs hS => ?_⟩
  have hrd : i ∈ Region.ready .any ops D := hD.mem_ready hm hr fun e he hb => by
    unfold edgesIn at hein
    have := List.all_eq_true.1 hein _ hm
    have := List.all_eq_true.1 this e (by simpa using he)
    simp only [hb, Bool.not_true, Bool.false_or] at this
    exact Nat.le_of_ble_eq_true this
  obtain ⟨n, rfl, hn⟩ := ready_count hrd hlen
  have hD' := hD.set hm hd
  refine wpAnyH_first (hD.at_ _ hm) (Region.noSelect_spec hsel) (fun c a w q => q.elim) n D a w (fun j oj hj hne hun hno => ?_) hrd (hok.yieldsIf hf) hS ?_
  · have hjs : j < ops.size := (Array.getElem?_eq_some_iff.1 hj).1
    have hon : on D j = false := by
      unfold on
      have hlt' : j < D.size := by rw [hD.size]; exact hjs
      rw [Array.getD_eq_getD_getElem?, Array.getElem?_eq_getElem hlt'] at hun ⊢
      exact hun
    obtain ⟨o', ho'⟩ := inRem_iff.1 ((hD.left j hjs).1 hon)
    have := hD.at_ _ ho'
    rw [hj] at this
    obtain rfl := Option.some.inj this
    have h2 := List.all_eq_true.1 hap _ ho'
    simp only [Bool.or_eq_true] at h2
    rcases h2 with (h2 | h2) | h2
    · exact absurd (Nat.eq_of_beq_eq_true h2) hne
    · obtain ⟨e, he, hb⟩ := Array.any_eq_true'.1 h2
      simp only [Bool.and_eq_true, beq_iff_eq] at hb
      exact absurd hb.2 (hno e he hb.1)
    · exact h2
  · exact hk.run _ n _ w hD' hn (hal.fits (hf.putF hok.1)) hs hS
theorem YO {i : Nat} {o : Oper} (h1 : firstR rem rem = some (i, o, rem') := by first | exact rfl | fail) (hl : loneB ops rem i o = true := by first | kernel_rfl | fail) : Step (Fw P N B wS ds False (fun F' => XR P N B wS w0 ds Q Ls ops rem' F' L) ops Ls [o] F) (XR P N B wS w0 ds Q Ls ops rem F L) := ⟨XR.take2 h1 hl⟩
theorem SRJ {q : Prop} (k : q) (st : Step q (XR P N B wS w0 ds Q Ls ops rem F L) := by first | exact YJ | exact YK | exact YO | exact YL | fail) : XR P N B wS w0 ds Q Ls ops rem F L := st.run k
end
end Go.Proofs.Ytmckmlmfilmiaaa.X
/-
  A walk by lemmas (K): bools compared, bits, scopes and labels, type assertions, slices of bools that are made, maps with struct keys.
-/
namespace Go.Proofs.Ytmckmlmfilmiaaa.X
open Go
set_option linter.unusedVariables false
section
variable {P : Program} {T : TT} {N : Nat} {B : Nat} {w0 : World} {ds : List Deferred} {Q : Exit → Act → World → Prop} {F : Fr} {L : Lo} {pu : Prop} {ops : Array Oper} {rest : List Oper}
variable {dst : Option Tmp} {ty : TypeId} {p : String} {af : Array Edge} {gd : Option (Nat × Bool)}
theorem eqGuard_bool {op : BinOp} {t : TypeId} {x y : Operand} {a b : Bool} (w : World) : (eqGuard op t x y (.bool a) (.bool b)).run P w = .ok () w := by
  unfold eqGuard
  cases op <;> simp
theorem Ev.eqlB {x y : Operand} {t u : TypeId} {a b : Bool} (ht : P.underlying t = some .bool) (hx : evo F x = some (.bool a)) (hy : evo F y = some (.bool b)) :
    Ev P N B w0 ds pu F L ⟨dst, .binOp .eql t x y u, ty, p, af, gd⟩ (.bool (a == b)) :=
  .of_run fun c w hf hw => by
    have h1 := run_equal_bool (P := P) w t a b ht
    simp [execOp, hf.eval hx, hf.eval hy, Sem.run_bind, eqGuard_bool, binOp, h1] <;> (cases a <;> cases b <;> rfl)
theorem Ev.neqB {x y : Operand} {t u : TypeId} {a b : Bool} (ht : P.underlying t = some .bool) (hx : evo F x = some (.bool a)) (hy : evo F y = some (.bool b)) :
    Ev P N B w0 ds pu F L ⟨dst, .binOp .neq t x y u, ty, p, af, gd⟩ (.bool (a != b)) :=
  .of_run fun c w hf hw => by
    have h1 := run_equal_bool (P := P) w t a b ht
    simp [execOp, hf.eval hx, hf.eval hy, Sem.run_bind, eqGuard_bool, binOp, h1] <;> (cases a <;> cases b <;> rfl)
/-! ### bits -/
theorem Ev.shrN {x y : Operand} {t u : TypeId} {j : IntKind} {m n : Nat} (hx : evo F x = some (.int .i64 (m : Nat))) (hy : evo F y = some (.int j (n : Nat))) (hn : n ≤ 64) :
    Ev P N B w0 ds pu F L ⟨dst, .binOp .shr t x y u, ty, p, af, gd⟩ (.int .i64 ((m >>> n : Nat) : Int)) := by
  refine Ev.shr hx hy (by omega) ?_
  have h1 : Nat.min (n : Int).toNat IntKind.i64.bits = n := by
    show Min.min n 64 = n
    omega
  rw [h1, Nat.shiftRight_eq_div_pow, Int.fdiv_eq_ediv_of_nonneg _ (by exact Int.le_of_lt (Int.pow_pos (by decide)))]
  rw [Int.natCast_ediv, Int.natCast_pow]
  rfl
theorem eqGuard_int {op : BinOp} {t : TypeId} {x y : Operand} {k j : IntKind} {a b : Int} (w : World) (h : op = .and ∨ op = .or ∨ op = .shl) : (eqGuard op t x y (.int k a) (.int j b)).run P w = .ok () w := by
  unfold eqGuard
  rcases h with rfl | rfl | rfl <;> simp
theorem Ev.and1 {x : Operand} {t u : TypeId} {m : Nat} (hx : evo F x = some (.int .i64 (m : Nat))) (hm : m < 4611686018427387904) :
    Ev P N B w0 ds pu F L ⟨dst, .binOp .and t x (.const (.int .i64 1)) u, ty, p, af, gd⟩ (.int .i64 ((m % 2 : Nat) : Int)) :=
  .of_run fun c w hf hw => by
    have h1 : (BitVec.ofInt 64 (m : Int) &&& BitVec.ofInt 64 1).toNat = m % 2 := by
      rw [BitVec.toNat_and]
      have a1 : (BitVec.ofInt 64 (m : Int)).toNat = m := by
        rw [BitVec.toNat_ofInt, Int.emod_eq_of_lt (by omega) (by omega)]; simp
      rw [a1, show (BitVec.ofInt 64 1).toNat = 1 by decide, Nat.and_one_is_mod]
    have h2 : IntKind.i64.wrap ((m % 2 : Nat) : Int) = ((m % 2 : Nat) : Int) := wrap_in (by unfold i64in; omega)
    have h3 : (Op.intBits .and .i64 (m : Int) 1).run P w = .ok (.int .i64 ((m % 2 : Nat) : Int)) w := by
      show (pure (.int .i64 (IntKind.i64.wrap ((BitVec.ofInt 64 (m : Int) &&& BitVec.ofInt 64 1).toNat : Int))) : Sem Value).run P w = _
      rw [h1, h2]; simp
    simp only [execOp, hf.eval hx, hf.eval (x := .const (.int .i64 1)) rfl, Sem.run_bind, eqGuard_int w (.inl rfl), Result.andThen_ok, binOp, ne_eq, not_true_eq_false, if_false, h3, Sem.run_pure]
theorem Ev.shl1 {y : Operand} {t u : TypeId} {j : IntKind} {n : Nat} (hy : evo F y = some (.int j (n : Nat))) (hn : n ≤ 60) :
    Ev P N B w0 ds pu F L ⟨dst, .binOp .shl t (.const (.int .i64 1)) y u, ty, p, af, gd⟩ (.int .i64 ((2 ^ n : Nat) : Int)) :=
  .of_run fun c w hf hw => by
    have h4 : (2 : Nat) ^ n ≤ 2 ^ 60 := Nat.pow_le_pow_right (by decide) hn
    have h2 : IntKind.i64.wrap ((2 ^ n : Nat) : Int) = ((2 ^ n : Nat) : Int) := by
      generalize (2 : Nat) ^ n = q at h4
      exact wrap_in (by unfold i64in; omega)
    have h3 : (Op.shift .shl .i64 1 j (n : Int)).run P w = .ok (.int .i64 ((2 ^ n : Nat) : Int)) w := by
      unfold Op.shift
      rw [if_neg (by omega)]
      show (pure (.int .i64 (IntKind.i64.wrap (1 * 2 ^ (Min.min (n : Int).toNat 64)))) : Sem Value).run P w = _
      rw [Int.toNat_natCast, show Min.min n 64 = n by omega, Int.one_mul, show ((2 : Int) ^ n) = ((2 ^ n : Nat) : Int) by rw [Int.natCast_pow]; rfl, h2]
      simp
    simp only [execOp, hf.eval hy, hf.eval (x := .const (.int .i64 1)) rfl, Sem.run_bind, eqGuard_int w (.inr (.inr rfl)), Result.andThen_ok, binOp, ne_eq, not_true_eq_false, if_false, h3, Sem.run_pure]
theorem Ev.orN {x y : Operand} {t u : TypeId} {a b : Nat} (hx : evo F x = some (.int .i64 (a : Nat))) (hy : evo F y = some (.int .i64 (b : Nat))) (ha : a < 4611686018427387904) (hb : b < 4611686018427387904) :
    Ev P N B w0 ds pu F L ⟨dst, .binOp .or t x y u, ty, p, af, gd⟩ (.int .i64 ((a ||| b : Nat) : Int)) :=
  .of_run fun c w hf hw => by
    have hlt : a ||| b < 2 ^ 62 := Nat.or_lt_two_pow (by simpa using ha) (by simpa using hb)
    have e1 : ∀ m : Nat, m < 4611686018427387904 → (BitVec.ofInt 64 (m : Int)).toNat = m := fun m hm => by
      rw [BitVec.toNat_ofInt, Int.emod_eq_of_lt (by omega) (by omega)]; simp
    have h1 : (BitVec.ofInt 64 (a : Int) ||| BitVec.ofInt 64 (b : Int)).toNat = a ||| b := by
      rw [BitVec.toNat_or, e1 a ha, e1 b hb]
    have h2 : IntKind.i64.wrap ((a ||| b : Nat) : Int) = ((a ||| b : Nat) : Int) := wrap_in (by unfold i64in; omega)
    have h3 : (Op.intBits .or .i64 (a : Int) (b : Int)).run P w = .ok (.int .i64 ((a ||| b : Nat) : Int)) w := by
      show (pure (.int .i64 (IntKind.i64.wrap ((BitVec.ofInt 64 (a : Int) ||| BitVec.ofInt 64 (b : Int)).toNat : Int))) : Sem Value).run P w = _
      rw [h1, h2]; simp
    simp only [execOp, hf.eval hx, hf.eval hy, Sem.run_bind, eqGuard_int w (.inr (.inl rfl)), Result.andThen_ok, binOp, ne_eq, not_true_eq_false, if_false, h3, Sem.run_pure]
/-! ### scopes and labels -/
theorem XC.scope {c : Code} (h : XC P N B w0 ds (Exit.noGoto Q) c F L) : XC P N B w0 ds Q (.scope c) F L := ⟨fun a w hf hw => wp_scope_straight (h.run a w hf hw)⟩
theorem XC.label {l : Nat} (h : XE N B w0 ds Q .normal F L) : XC P N B w0 ds Q (.label l) F L := ⟨fun a w hf hw => wp_label (h.run a w hf hw)⟩
theorem XE.noGoto_ret (h : XE N B w0 ds Q .ret F L) : XE N B w0 ds (Exit.noGoto Q) .ret F L := ⟨fun a w hf hw => h.run a w hf hw⟩
/-! ### type assertions -/
theorem Ev.assertOk {x : Operand} {t u : TypeId} {s : Nat} {v z : Value} (hx : evo F x = some (.iface s v)) (hu : conB (P.underlying u) = true) (hT : TOK P T) (hz : lkG T.zero u = some z) (r : Value) (hr : r = if s = u then .tuple ⟨[v, .bool true]⟩ else .tuple ⟨[z, .bool false]⟩) :
    Ev P N B w0 ds pu F L ⟨dst, .typeAssert x t u true, ty, p, af, gd⟩ r :=
  .of_run fun c w hf hw => by
    subst hr
    have hzr := zero_run hT hz w
    cases h : P.underlying u with
    | none => rw [h] at hu; cases hu
    | some d =>
      rw [h] at hu
      by_cases e : s = u
      · subst e
        cases d <;> first | (simp [execOp, Instr.typeAssert, hf.eval hx, run_underlying h]; done) | cases hu
      · cases d <;> first | (simp [execOp, Instr.typeAssert, hf.eval hx, run_underlying h, e, hzr]; done) | cases hu
/-! ### make([]bool, n) -/
def bools (l : List Bool) : List Value := l.map .bool
theorem bools_len (l : List Bool) : (bools l).length = l.length := by simp [bools]
theorem XL.makeBools {d : Nat} {t e : TypeId} {x y : Operand} {n : Nat} (he : elemOk P t e 1 1 = true) (hz : (P.info? e).bind (·.zero) = some (.bool false)) (hx : evo F x = some (.int .i64 (n : Nat))) (hy : evo F y = some (.int .i64 (n : Nat))) (hd : Nat.blt d N = true) (hn : n ≤ 1000000)
    (k : ∀ g, w0.heap.size ≤ g → XL P N B w0 ds Q ops rest ((1000000 + d, .slice none L.length 0) :: (d, .slice (some ⟨g, 0, none⟩) n n) :: F) ((g, cel e (bools (List.replicate n false))) :: L)) :
    XL P N B w0 ds Q ops ({ dst := some d, op := .makeSlice t x y, type := ty, pos := p, after := af, guard := none } :: rest) F L := by
  refine ⟨fun a w hf hw => ?_⟩
  refine wpList_plain rfl fun Kk hK => ?_
  unfold Oper.wp
  obtain ⟨hu, i, z, hi, hz', e1, e2, e3⟩ := elemOk_spec he
  rw [hi] at hz
  simp only [Option.bind_some] at hz
  have hz2 : z = .bool false := by rw [hz'] at hz; exact Option.some.inj hz
  subst hz2
  have hrun := run_makeSlice (P := P) w t e i (.bool false) hu hi hz' .i64 .i64 (n : Int) (n : Int) (by omega) (Int.le_refl _) (by rw [e1]; simp; omega) (by rw [e2]; omega) (by omega)
  have hmc : madeCells (Value.bool false).cells ((n : Int).toNat * i.size) = ⟨bools (List.replicate n false)⟩ := by
    rw [e1]
    apply Array.ext
    · simp [madeCells, bools]
    · intro j h1 h2
      simp [madeCells, bools, Value.cells, Nat.mod_one]
  rw [hmc] at hrun
  simp only [Int.toNat_natCast] at hrun
  have : (execOp a.eval { dst := some d, op := .makeSlice t x y, type := ty, pos := p, after := af, guard := none }).run P w = .ok (.value (.slice (some ⟨w.heap.size, 0, none⟩) n n)) (w.alloc (cel e (bools (List.replicate n false)))) := by
    simp [execOp, hf.eval hx, hf.eval hy, hrun]
  rw [this]
  exact hK _ _ ((k w.heap.size hw.size).run _ _ ((hf.put hd).hint d _) (hw.box _))
end
end Go.Proofs.Ytmckmlmfilmiaaa.X
/-
  A walk by lemmas (L): small words that many walks share.
-/
namespace Go.Proofs.Ytmckmlmfilmiaaa.X
open Go Go.RowKit
set_option linter.unusedVariables false
def idxL {α : Type} (l : List α) (P : α → Bool) : Int := match l.findIdx? P with
  | some i => ((i : Nat) : Int)
  | none => -1
theorem idxL_any {α : Type} (l : List α) (P : α → Bool) : decide (0 ≤ idxL l P) = l.any P := by
  unfold idxL
  cases h : l.findIdx? P with
  | none =>
    rw [List.findIdx?_eq_none_iff] at h
    have : l.any P = false := List.any_eq_false.2 fun x hx => by simp [h x hx]
    rw [this]; rfl
  | some i =>
    obtain ⟨hi, h1, _⟩ := List.findIdx?_eq_some_iff_getElem.1 h
    have : l.any P = true := List.any_eq_true.2 ⟨_, List.getElem_mem hi, h1⟩
    rw [this]
    simp
theorem Sys.keyLt {B : Nat} {w0 w : World} {L : Lo} (S : Sys B w0 L w) : ∀ j, j ∈ L.map (·.1) → j < w.heap.size := fun j hj => by
  obtain ⟨e, he, rfl⟩ := List.mem_map.1 hj
  exact S.lt he
theorem Sys.join {B : Nat} {w0 w w' : World} {L L2 L3 : Lo} (S : Sys B w0 L w) (S' : Sys w.heap.size w L2 w') (hs : List.Sublist L3 L) : Sys B w (L2 ++ L3) w' := by
  have hlt : ∀ e, e ∈ L3 → e.1 < w.heap.size := fun e he => S.lt (hs.subset he)
  refine ⟨S'.os, S'.tape, S'.output, S'.size, Nat.le_trans S.base S.size, fun k hk hn => S'.old k hk fun e he => hn e (List.mem_append_left _ he), fun e he => ?_, ?_⟩
  · rcases List.mem_append.1 he with h | h
    · exact ⟨Nat.le_trans (Nat.le_trans S.base S.size) (S'.own e h).1, (S'.own e h).2⟩
    · refine ⟨(S.own e (hs.subset h)).1, ?_⟩
      rw [S'.old e.1 (hlt e h) fun e' he' e1 => by have := (S'.own e' he').1; have := hlt e h; omega]
      exact (S.own e (hs.subset h)).2
  · rw [List.map_append]
    refine List.nodup_append.2 ⟨S'.nd, S.nd.sublist (hs.map _), fun x hx y hy e => ?_⟩
    obtain ⟨e1, he1, rfl⟩ := List.mem_map.1 hx
    obtain ⟨e2, he2, rfl⟩ := List.mem_map.1 hy
    have := (S'.own e1 he1).1
    have := hlt e2 he2
    omega
theorem Sys.ofBelow {w w1 : World} (h : Below w.heap.size w w1) : Sys w.heap.size w [] w1 := ⟨h.os, h.tape, h.output, h.size, Nat.le_refl _, fun k hk _ => h.block k hk, (fun e he => (by cases he)), List.nodup_nil⟩
theorem Free.far {W : World} {b0 : Nat} {ks : List Nat} {rs : List RowX} {L : Lo} {ad : Addr} {j : Nat} (h : Free W b0 ks rs ad.block) (hs : ∀ e, e ∈ L → e.1 ∈ ks ∨ W.heap.size ≤ e.1) : ∀ e, e ∈ L → e.1 ≠ (ad.add j).block := fun e he e1 => by
  rw [add_block] at e1
  rcases hs e he with h1 | h1
  · exact h.2.2.1 (e1 ▸ h1)
  · have := h.2.1; omega
theorem Free.far2 {W : World} {b0 : Nat} {ks : List Nat} {rs : List RowX} {L : Lo} {ad : Addr} {i j : Nat} (h : Free W b0 ks rs ad.block) (hs : ∀ e, e ∈ L → e.1 ∈ ks ∨ W.heap.size ≤ e.1) : ∀ e, e ∈ L → e.1 ≠ ((ad.add i).add j).block := fun e he e1 => by
  rw [add_block, add_block] at e1
  rcases hs e he with h1 | h1
  · exact h.2.2.1 (e1 ▸ h1)
  · have := h.2.1; omega
theorem Fam.cap {W : World} {b0 : Nat} {ks : List Nat} {rs : List RowX} {hs : List Held} {α : Type} {K : Kind α} {r : SV} {l : List α} (h : Fam W b0 ks rs hs) (hr : (⟨α, K, svV r, l⟩ : RowX) ∈ rs) (h0 : 0 < l.length) : l.length ≤ r.c := (ReadsP.own (h.row _ hr)).2.2.1 h0
theorem Free.tail {W : World} {b0 : Nat} {ks : List Nat} {x : RowX} {rs : List RowX} {j : Nat} (h : Free W b0 ks (x :: rs) j) : Free W b0 ks rs j := ⟨h.1, h.2.1, h.2.2.1, fun r hr => h.2.2.2 r (.tail _ hr)⟩
/-- a row that grows no more is held. -/
theorem Fam.freeze {W : World} {b0 : Nat} {ks : List Nat} {rs : List RowX} {hs : List Held} {α : Type} {K : Kind α} {r : SV} {l : List α} (h : Fam W b0 ks (⟨α, K, svV r, l⟩ :: rs) hs) : Fam W b0 ks rs (hList K r l :: hs) := by
  refine ⟨h.base, fun x hx => h.row x (.tail _ hx), fun x hx => h.sep x (.tail _ hx), (List.pairwise_cons.1 h.two).2, fun x hx a ha y hy => y.mono (h.ins x (.tail _ hx) a ha y hy) fun j hj => hj.tail, fun y hy => ?_⟩
  rcases List.mem_cons.1 hy with rfl | hy
  · obtain ⟨A, n, c⟩ := r
    have h1 := h.row _ (.head _)
    obtain ⟨a1, a2, a3, a4⟩ := ReadsP.own h1
    simp only at a2 a4
    subst a2
    refine ⟨⟨a1.1, fun h0 => ?_⟩, by simp only [maxLen] at a4; exact a4, fun a ha x hx => x.mono (h.ins _ (.head _) a ha x hx) fun j hj => hj.tail⟩
    obtain ⟨ad, rfl, hb, hc⟩ := a1.2 h0
    exact ⟨ad, rfl, ⟨hb.1, hb.2, h.sep _ (.head _) _ rfl, fun x hx e => (List.pairwise_cons.1 h.two).1 x hx _ rfl e⟩, hc⟩
  · exact y.mono (h.held y hy) fun j hj => hj.tail
theorem Fam.sv {W : World} {b0 : Nat} {ks : List Nat} {rs : List RowX} {hs : List Held} {α : Type} {K : Kind α} {v : Value} {l : List α} (h : Fam W b0 ks rs hs) (hr : (⟨α, K, v, l⟩ : RowX) ∈ rs) : ∃ r : SV, v = svV r ∧ r.n = l.length := owns_sv (h.row _ hr)
theorem ListAt.take {α : Type} {K : Kind α} {w : World} {ok : Nat → Prop} {A : Option Addr} {n c : Nat} {l : List α} (h : ListAt K w ok ⟨A, n, c⟩ l) {k : Nat} (hk : k ≤ l.length) (h0 : 0 < K.m) : ListAt K w ok ⟨A, k, c⟩ (l.take k) := by
  have hn := h.len h0
  simp only at hn
  subst hn
  have e : (l.take k).flatMap K.c = (l.flatMap K.c).take (k * K.m) := by
    have h1 : l.flatMap K.c = (l.take k).flatMap K.c ++ (l.drop k).flatMap K.c := by rw [← List.flatMap_append, List.take_append_drop]
    have h2 : ((l.take k).flatMap K.c).length = k * K.m := by rw [flat_len K.c K.m K.len, List.length_take, Nat.min_eq_left hk]
    conv => rhs; rw [h1, ← h2]
    exact List.take_left.symm
  refine ⟨?_, by have := h.max; simp only at this ⊢; omega, fun a ha => h.ins a (List.mem_of_mem_take ha)⟩
  obtain ⟨h1, h2⟩ := h.rd
  refine ⟨by rw [flat_len K.c K.m K.len, List.length_take, Nat.min_eq_left hk], fun h3 => ?_⟩
  obtain ⟨ad, e1, e2, e3⟩ := h2 (by simp only at h3 ⊢; omega)
  refine ⟨ad, e1, e2, fun j u hj => ?_⟩
  rw [e, List.getElem?_take] at hj
  split at hj
  · exact e3 j u hj
  · cases hj
section
variable {α : Type} {C : α → List Value} {m : Nat} (hC : ∀ a, (C a).length = m)
include hC
end
section
variable {P : Program} {T : TT} {N B : Nat} {w0 : World} {ds : List Deferred} {Q : Exit → Act → World → Prop} {F : Fr} {L : Lo} {ops : Array Oper} {rest : List Oper} {ty : TypeId} {p : String} {af : Array Edge}
theorem Ev.load_at_agg {pu : Prop} {dst : Option Tmp} {gd : Option (Nat × Bool)} (hT : TOK P T) (i : Nat) {t : TypeId} {x : Operand} {g o j n : Nat} {tg : TypeId} {cs vs : List Value} (hx : evo F x = some (.pointer (some ((⟨g, o, none⟩ : Addr).add j)))) (hL : L[i]? = some (g, cel tg cs)) (h1 : lkG T.agg t = some n) (hlen : vs.length = n)
    (hv : ∀ k u, vs[k]? = some u → cs[o + j + k]? = some u) : Ev P N B w0 ds pu F L ⟨dst, .load t x, ty, p, af, gd⟩ (.agg vs.toArray) :=
  .of_run fun a w hf hw => by
    have hc : ∀ k u, vs[k]? = some u → w.cell? (((⟨g, o, none⟩ : Addr).add j).add k) = some u := fun k u hk => by
      rw [add_off, add_off, hw.cell (List.mem_of_getElem? hL)]
      exact hv k u hk
    simp [execOp, Instr.loadAt, Instr.sureAddr, hf.eval hx, run_loadVar_agg (tab_ok hT.agg h1) hlen hc]
/-- a block that is known becomes one more of the own ones. -/
theorem XC.grab {c : Code} {g : Nat} {o : Obj} (hg : w0.heap[g]? = some o) (hB : B ≤ g) (hn : ∀ e, e ∈ L → e.1 ≠ g) (k : ∀ w1, Sys B w0 L w1 → XC P N B w1 ds Q c F ((g, o) :: L)) : XC P N B w0 ds Q c F L :=
  ⟨fun a w hf h => (k w h).run a w hf (Sys.start (Nat.le_trans h.base h.size) (fun e he => by
    rcases List.mem_cons.1 he with rfl | he
    · exact ⟨hB, (h.old g (Array.getElem?_eq_some_iff.1 hg).1 hn).trans hg⟩
    · exact h.own e he) (by
    rw [List.map_cons, List.nodup_cons]
    exact ⟨fun hm => by obtain ⟨e, he, e1⟩ := List.mem_map.1 hm; exact hn e he e1, h.nd⟩))⟩
end
end Go.Proofs.Ytmckmlmfilmiaaa.X
/-
  A walk by lemmas (M): maps whose keys are structs.
-/
namespace Go.Proofs.Ytmckmlmfilmiaaa.X
open Go Go.RowKit
set_option linter.unusedVariables false
theorem Fam.atEnd {w w0 : World} {B b0 : Nat} {ks : List Nat} {rs : List RowX} {hs : List Held} {L : Lo} (hF : Fam w0 b0 ks rs hs) (S : Sys B w0 L w) (hL : ∀ e, e ∈ L → e.1 ∈ ks ∨ w0.heap.size ≤ e.1) : Fam w b0 (L.map (·.1) ++ ks) rs hs :=
  (hF.add (fun k hk => by
    rcases List.mem_append.1 hk with h | h
    · obtain ⟨e, he, rfl⟩ := List.mem_map.1 h
      exact hL e he
    · exact .inl h)).sys S fun e he => .inl (List.mem_append_left _ (List.mem_map.2 ⟨e, he, rfl⟩))
theorem ReadsP.block {w : World} {g lo n size : Nat} {ty : TypeId} {cs : List Value} (h : w.heap[g]? = some (cel ty cs)) (hg : lo ≤ g) (hl : cs.length = n * size) : ReadsP w (Btw lo w.heap.size) size (some ⟨g, 0, none⟩) n cs :=
  ⟨hl, fun _ => ⟨_, rfl, ⟨hg, (Array.getElem?_eq_some_iff.1 h).1⟩, fun j u hj => by rw [add_off]; simpa [World.cell?, h] using hj⟩⟩
/-- the entries of a map's block. -/
def entO (kvs : List (Value × Value)) : List MapEntry := kvs.zipIdx.map fun x => ({ key := x.1.1, val := x.1.2, born := x.2 } : MapEntry)
theorem entO_at {kvs : List (Value × Value)} {j : Nat} {e : MapEntry} (h : (entO kvs)[j]? = some e) : kvs[j]? = some (e.key, e.val) := by
  unfold entO at h
  rw [List.getElem?_map, List.getElem?_zipIdx] at h
  cases hk : kvs[j]? with
  | none => rw [hk] at h; cases h
  | some x => rw [hk] at h; simp only [Option.map_some, Option.some.injEq] at h; subst h; rfl
theorem entO_mem {kvs : List (Value × Value)} {e : MapEntry} (h : e ∈ entO kvs) : (e.key, e.val) ∈ kvs := by
  obtain ⟨j, hj, rfl⟩ := List.mem_iff_getElem.1 h
  exact List.mem_of_getElem? (entO_at (List.getElem?_eq_getElem hj))
theorem entO_of {kvs : List (Value × Value)} {x : Value × Value} (h : x ∈ kvs) : ∃ e, e ∈ entO kvs ∧ e.key = x.1 ∧ e.val = x.2 := by
  obtain ⟨j, hj, rfl⟩ := List.mem_iff_getElem.1 h
  refine ⟨{ key := kvs[j].1, val := kvs[j].2, born := j }, List.mem_of_getElem? (i := j) ?_, rfl, rfl⟩
  unfold entO
  rw [List.getElem?_map, List.getElem?_zipIdx, List.getElem?_eq_getElem hj]
  simp
/-- all keys can be looked for, and no two are equal. -/
structure KeysOk (P : Program) (kt : TypeId) (kvs : List (Value × Value)) : Prop where
  key : ∀ e, e ∈ kvs → ∃ l, keyOf P kt e.1 = some l
  one : ∀ a b c, (a, b) ∈ kvs → (a, c) ∈ kvs → b = c
theorem KeysOk.nil {P : Program} {kt : TypeId} : KeysOk P kt [] := ⟨fun _ h => (by cases h), fun _ _ _ h => (by cases h)⟩
theorem KeysOk.push {P : Program} {kt : TypeId} {kvs : List (Value × Value)} {k v : Value} (h : KeysOk P kt kvs) (hk : ∃ l, keyOf P kt k = some l) (hn : ∀ e, e ∈ kvs → e.1 ≠ k) : KeysOk P kt (kvs ++ [(k, v)]) := by
  refine ⟨fun e he => ?_, fun a b c h1 h2 => ?_⟩
  · rcases List.mem_append.1 he with h1 | h1
    · exact h.key e h1
    · rw [List.mem_singleton.1 h1]; exact hk
  · rcases List.mem_append.1 h1 with h1 | h1 <;> rcases List.mem_append.1 h2 with h2 | h2
    · exact h.one a b c h1 h2
    · rw [List.mem_singleton, Prod.mk.injEq] at h2; exact absurd h2.1 (hn _ h1)
    · rw [List.mem_singleton, Prod.mk.injEq] at h1; exact absurd h1.1 (hn _ h2)
    · rw [List.mem_singleton, Prod.mk.injEq] at h1 h2; rw [h1.2, h2.2]
def arrB (d : Option TypeDesc) : Option (Nat × TypeId) := match d with
  | some (.array n e) => some (n, e)
  | _ => none
section
variable {P : Program} {T : TT} {N : Nat} {B : Nat} {w0 : World} {ds : List Deferred} {Q : Exit → Act → World → Prop} {F : Fr} {L : Lo} {pu : Prop}
variable {dst : Option Tmp} {ty : TypeId} {p : String} {af : Array Edge} {gd : Option (Nat × Bool)}
theorem findK {kt : TypeId} (K : WideMaps.KeyLaw P kt) {kvs : List (Value × Value)} (hk : KeysOk P kt kvs) {k : Value} (h : ∃ l, keyOf P kt k = some l) (w : World) :
    ((Instr.findKey kt k (entO kvs)).run P w = .ok none w ∧ ∀ e, e ∈ kvs → e.1 ≠ k) ∨ ∃ j v, (Instr.findKey kt k (entO kvs)).run P w = .ok (some (j, v)) w ∧ (k, v) ∈ kvs := by
  obtain ⟨l, hl⟩ := h
  rcases K.find w hl (entO kvs) (fun e he => hk.key _ (entO_mem he)) with ⟨h1, h2⟩ | ⟨j, e, h1, h2, h3⟩
  · refine .inl ⟨h1, fun x hx => ?_⟩
    obtain ⟨e, he, e1, _⟩ := entO_of hx
    rw [← e1]
    exact h2 e he
  · refine .inr ⟨j, e.val, h1, ?_⟩
    rw [← h3]
    exact List.mem_of_getElem? (entO_at h2)
/-- a key that is not there. -/
theorem Ev.lookupNo (hT : TOK P T) (i : Nat) {t kt et : TypeId} {x y : Operand} {z k : Value} (kvs : List (Value × Value)) {r : Nat} (K : WideMaps.KeyLaw P kt) (hx : evo F x = some (.map (some r))) (hy : evo F y = some k) (hL : L[i]? = some (r, mapO kvs))
    (ht : P.underlying t = some (.map kt et)) (hz : lkG T.zero et = some z) (hk : KeysOk P kt kvs) (h : ∃ l, keyOf P kt k = some l) (hn : ∀ e, e ∈ kvs → e.1 ≠ k) :
    Ev P N B w0 ds pu F L ⟨dst, .lookup t x y true, ty, p, af, gd⟩ (.tuple ⟨[z, .bool false]⟩) :=
  .of_run fun a w hf hw => by
    have h2 := getObj_run (P := P) (show w.heap[r]? = some (.map (entO kvs).toArray kvs.length) from hw.obj hL)
    obtain ⟨l, hl⟩ := h
    have hc := fun em => K.check w em hl
    rcases findK K hk ⟨l, hl⟩ w with ⟨h1, _⟩ | ⟨j, v, _, h3⟩
    · simp [execOp, hf.eval hx, hf.eval hy, Instr.lookup, run_underlying ht, h2, hc, h1, zero_run hT hz]
    · exact absurd rfl (hn _ h3)
/-- a key that is there. -/
theorem Ev.lookupYes (i : Nat) {t kt et : TypeId} {x y : Operand} {k v : Value} (kvs : List (Value × Value)) {r : Nat} (K : WideMaps.KeyLaw P kt) (hx : evo F x = some (.map (some r))) (hy : evo F y = some k) (hL : L[i]? = some (r, mapO kvs))
    (ht : P.underlying t = some (.map kt et)) (hk : KeysOk P kt kvs) (h : ∃ l, keyOf P kt k = some l) (hv : (k, v) ∈ kvs) :
    Ev P N B w0 ds pu F L ⟨dst, .lookup t x y true, ty, p, af, gd⟩ (.tuple ⟨[v, .bool true]⟩) :=
  .of_run fun a w hf hw => by
    have h2 := getObj_run (P := P) (show w.heap[r]? = some (.map (entO kvs).toArray kvs.length) from hw.obj hL)
    obtain ⟨l, hl⟩ := h
    have hc := fun em => K.check w em hl
    rcases findK K hk ⟨l, hl⟩ w with ⟨_, h3⟩ | ⟨j, v2, h1, h3⟩
    · exact absurd rfl (h3 _ hv)
    · have := hk.one _ _ _ h3 hv
      subst this
      simp [execOp, hf.eval hx, hf.eval hy, Instr.lookup, run_underlying ht, h2, hc, h1]
/-- a key that is not there yet is set. -/
theorem XL.updateK (i : Nat) {ops : Array Oper} {rest : List Oper} {t kt et : TypeId} {x y u : Operand} (kvs : List (Value × Value)) {r : Nat} {k v : Value} {L' : Lo} (K : WideMaps.KeyLaw P kt) (hx : evo F x = some (.map (some r))) (hy : evo F y = some k)
    (hu : evo F u = some v) (hL : L[i]? = some (r, mapO kvs)) (ht : P.underlying t = some (.map kt et)) (hk : KeysOk P kt kvs) (h : ∃ l, keyOf P kt k = some l) (hn : ∀ e, e ∈ kvs → e.1 ≠ k) (hL' : setN L i (r, mapO (kvs ++ [(k, v)])) = some L')
    (c : XL P N B w0 ds Q ops rest F L') :
    XL P N B w0 ds Q ops ({ dst := none, op := .mapUpdate t x y u, type := ty, pos := p, after := af, guard := none } :: rest) F L := by
  refine ⟨fun a w hf hs => ?_⟩
  refine wpList_plain rfl fun Kk hK => ?_
  unfold Oper.wp
  have hh := hs.obj hL
  have h2 := getObj_run (P := P) (show w.heap[r]? = some (.map (entO kvs).toArray kvs.length) from hh)
  obtain ⟨l, hl⟩ := h
  have hc := fun em => K.check w em hl
  rcases findK K hk ⟨l, hl⟩ w with ⟨h1, _⟩ | ⟨j, v2, _, h3⟩
  · have e1 : mapO (kvs ++ [(k, v)]) = .map ((entO kvs).toArray.push { key := k, val := v, born := kvs.length }) (kvs.length + 1) := mapO_push kvs k v
    have h3 := setObj_run (P := P) (o := mapO (kvs ++ [(k, v)])) (show w.heap[r]? = some (.map (entO kvs).toArray kvs.length) from hh)
    have : (execOp a.eval { dst := none, op := .mapUpdate t x y u, type := ty, pos := p, after := af, guard := none }).run P w = .ok .skip { w with heap := w.heap.setIfInBounds r (mapO (kvs ++ [(k, v)])) } := by
      rw [e1] at h3 ⊢
      simp only [execOp, hf.eval hx, hf.eval hy, hf.eval hu, Instr.mapUpdate, Sem.run_bind, run_underlying ht, Result.andThen_ok, h2, hc, h1, h3, Sem.run_pure]
    rw [this]
    exact hK _ _ (c.run _ _ hf (hs.setObj hL (setN_spec _ _ _ _ hL').1))
  · exact absurd rfl (hn _ h3)
/-! ### arrays -/
/-- a[:], of an array with n > 0 elements of one cell. -/
theorem Ev.sliceArr {t e : TypeId} {x : Operand} {ad : Addr} {m : Nat} {sz : Nat} (hx : evo F x = some (.pointer (some ad))) (ht : arrB (P.underlying t) = some (m, e)) (he : (P.info? e).map (·.size) = some sz) (h0 : 0 < m) :
    Ev P N B w0 ds pu F L ⟨dst, .slice t x none none none, ty, p, af, gd⟩ (.slice (some ad) m m) :=
  .of_run fun a w hf hw => by
    have hu : P.underlying t = some (.array m e) := by
      unfold arrB at ht
      split at ht
      · rename_i h; simp only [Option.some.injEq, Prod.mk.injEq] at ht; obtain ⟨rfl, rfl⟩ := ht; exact h
      · cases ht
    cases hi : P.info? e with
    | none => rw [hi] at he; cases he
    | some i =>
      have h1 : ad.add 0 = ad := by cases ad; rfl
      simp [execOp, hf.eval hx, Instr.sliceAt, Instr.sureAddr, run_underlying hu, Instr.sliceBounds, Instr.sliceBound, sizeOf_run hi, h1]
theorem setRow_obj {w : World} {g : Nat} {cs vs : List Value} {t : TypeId} (h : w.heap[g]? = some (cel t cs)) : w.setRow g vs.toArray = { w with heap := w.heap.setIfInBounds g (cel t vs) } := by
  unfold World.setRow
  congr 1
  obtain ⟨hlt, he⟩ := Array.getElem?_eq_some_iff.1 h
  apply Array.ext (by simp)
  intro j h1 h2
  rw [Array.getElem_modify, Array.getElem_setIfInBounds (by simpa using h2)]
  by_cases e : g = j
  · subst e
    simp [he]
  · simp [e]
/-- copy(own row, a slice that is not longer). -/
theorem XL.copyIn (i : Nat) {ops : Array Oper} {rest : List Oper} {d : Nat} {dT sT el : TypeId} {x y : Operand} {g o dLen dCap sLen sCap bytes : Nat} {A : Option Addr} {tg : TypeId} {cs vs : List Value} {L' : Lo} (he : elemOk P dT el 1 bytes = true)
    (hx : evo F x = some (.slice (some ⟨g, o, none⟩) dLen dCap)) (hy : evo F y = some (.slice A sLen sCap)) (hd : Nat.blt d N = true) (hL : L[i]? = some (g, cel tg cs)) (hrd : ∀ w, Sys B w0 L w → ReadsP w (Lt w.heap.size) 1 A sLen vs) (hle : sLen ≤ dLen) (hfit : o + sLen ≤ cs.length)
    (h1 : ∀ v, v ∈ vs → v.oneCell' = true) (hL' : setN L i (g, cel tg (cs.take o ++ vs ++ cs.drop (o + sLen))) = some L') (k : XL P N B w0 ds Q ops rest ((d, .int .i64 (sLen : Nat)) :: F) L') :
    XL P N B w0 ds Q ops ({ dst := some d, op := .call { callee := .builtin .copy, args := #[x, y], argTypes := #[dT, sT] }, type := ty, pos := p, after := af, guard := none } :: rest) F L := by
  refine ⟨fun a w hf hs => ?_⟩
  refine wpList_plain rfl fun Kk hK => ?_
  unfold Oper.wp
  obtain ⟨hu, q, z, hi, hz, e1, e2, e3⟩ := elemOk_spec he
  have hr := hrd w hs
  have hlen : sLen = vs.length := by have := hr.1; omega
  subst hlen
  have hsz : (P.info? el).map (·.size) = some 1 := by rw [hi]; simp [e1]
  have hg := hs.obj hL
  have hset := hs.setObj hL (setN_spec _ _ _ _ hL').1
  have hmn : Nat.min vs.length dLen = vs.length := Nat.min_eq_left hle
  have hrun : (Builtin.copy_ #[dT, sT] ty #[.slice (some ⟨g, o, none⟩) dLen dCap, .slice A vs.length sCap]).run P w = .ok (.int .i64 (vs.length : Nat)) { w with heap := w.heap.setIfInBounds g (cel tg (cs.take o ++ vs ++ cs.drop (o + vs.length))) } := by
    rcases Nat.eq_zero_or_pos vs.length with h0 | h0
    · have hv : vs = [] := List.length_eq_zero_iff.1 h0
      subst hv
      have h2 := run_copy_none (P := P) w dT sT ty el (some ⟨g, o, none⟩) A dLen dCap 0 sCap hu hsz (by omega)
      have h4 : cs.take o ++ [] ++ cs.drop (o + ([] : List Value).length) = cs := by simp
      have h5 : w.heap.setIfInBounds g (cel tg cs) = w.heap := by
        obtain ⟨hlt, he⟩ := Array.getElem?_eq_some_iff.1 hg
        rw [← he]
        apply Array.ext (by simp)
        intro j h1 h2
        rw [Array.getElem_setIfInBounds (by simpa using h2)]
        split
        · rename_i e; subst e; rfl
        · rfl
      rw [h4, h5]
      exact h2
    · obtain ⟨ad, rfl, _, hc⟩ := hr.at_ h0
      have h2 := run_copy_row (P := P) w dT sT ty el g o dLen dCap ad vs.length sCap cs.toArray tg vs hu hsz hg hmn.symm hc (by simpa using hfit) h1
      simp only [List.toList_toArray] at h2
      rw [setRow_obj hg] at h2
      exact h2
  have : (execOp a.eval { dst := some d, op := .call { callee := .builtin .copy, args := #[x, y], argTypes := #[dT, sT] }, type := ty, pos := p, after := af, guard := none }).run P w = .ok (.value (.int .i64 (vs.length : Nat))) { w with heap := w.heap.setIfInBounds g (cel tg (cs.take o ++ vs ++ cs.drop (o + vs.length))) } := by
    have hm : (#[x, y] : Array Operand).map a.eval = #[.slice (some ⟨g, o, none⟩) dLen dCap, .slice A vs.length sCap] := by simp [hf.eval hx, hf.eval hy]
    simp only [execOp, resolve, Sem.run_bind, Sem.run_pure, Result.andThen_ok, invoke, builtin, hm, hrun]
  rw [this]
  exact hK _ _ (k.run _ _ (hf.put hd) hset)
end
end Go.Proofs.Ytmckmlmfilmiaaa.X
/-
  A walk by lemmas (N): a function that holds a range over a function and is handed own blocks; its early returns; one loop variable.
-/
namespace Go.Proofs.Ytmckmlmfilmiaaa.X
open Go Go.RowKit
set_option linter.unusedVariables false
section
variable {P : Program} {T : TT} {N : Nat} {B : Nat} {w0 : World} {ds : List Deferred} {Q : Exit → Act → World → Prop} {F : Fr} {L L' : Lo}
theorem enterML {f : FuncId} {fn : Func} {c : Code} {vs : List Value} {w : World} {R : Ending → World → Prop} {n : Nat} (hf : P.funcs[f]? = some fn) (hb : fn.body = some c) (hN : fn.ntmps = n)
    (hn : Nat.ble vs.length n = true) (S : Sys B w L w) (h : XC P n B w [] (bodyPostM Fence.wide 0 P fn R) c (frame 0 vs) L) : Calls P f vs.toArray w R := by
  subst hN
  have hn' := Nat.le_of_ble_eq_true hn
  refine (callsIn_wide (n := 0)).1 (callsIn_of_wp_marks (F := Fence.wide) hf hb trivial ((wpIn_wide (n := 0)).2 (h.run _ w ⟨?_, rfl, fun t v _ hv => ?_⟩ S)))
  · simp; omega
  · obtain ⟨_, h2⟩ := lk_frame vs 0 t v hv
    have hlt : t < vs.length := (List.getElem?_eq_some_iff.1 h2).1
    simp only [Array.getD_eq_getD_getElem?]
    rw [Array.getElem?_append_left (by simpa using hlt)]
    simp at h2 ⊢
    rw [h2]; rfl
theorem XE.retM0 (hT : TOK P T) {fn : Func} {R : Ending → World → Prop} {rs : List ResultVar} {vs : List Value} {c : Prop} (h : fn.results = ⟨rs⟩) (hv : resO T F L rs = some (vs, c)) (hc : c)
    (hR : ∀ w, Sys B w0 L w → R (.returned (tupV vs)) w) : XE N B w0 [] (bodyPostM Fence.wide 0 P fn R) .ret F L :=
  ⟨fun a w hf hw => by
    show LeavesInM Fence.wide 0 P fn a.tmps R a.defers .returning w
    rw [hf.defers]
    exact ⟨_, by
      have h1 := resO_run hT hf hw hv hc
      have h2 : (results fn a.tmps).run P w = .ok (tupV vs) w := by
        unfold results
        rw [h, Array.mapM_eq_mapM_toList]
        simp only [Sem.run_bind, Sem.run_map]
        refine (congrArg (fun r : Result (List Value) => (r.andThen fun a w' => Result.ok a.toArray w').andThen fun a w' => Sem.run P (pure (if h : a.size = 1 then a[0] else Value.tuple a)) w') h1).trans ?_
        simp only [Result.andThen_ok, Sem.run_pure]
        cases vs with
        | nil => rfl
        | cons v vs => cases vs with
          | nil => rfl
          | cons u vs => simp [tupV]
      exact h2, hR w hw⟩⟩
/-- one of the own blocks alone; the others are new. -/
theorem Sys.only {g : Nat} {o : Obj} {w : World} (S : Sys B w0 L w) (hm : (g, o) ∈ L) (h : ∀ e, e ∈ L → e.1 ∈ [g] ∨ w0.heap.size ≤ e.1) : Sys B w0 [(g, o)] w :=
  ⟨S.os, S.tape, S.output, S.size, S.base, fun k hk hn => S.old k hk fun e he e1 => by
    rcases h e he with h1 | h1
    · exact hn _ (.head _) (by rw [← e1]; exact (List.mem_singleton.1 h1).symm)
    · omega, fun e he => by rw [List.mem_singleton.1 he]; exact S.own _ hm, by simp⟩
/-- what stands, gm aside. -/
def Ng' (gm : Nat) (w : World) : Nat → Prop := fun j => j < w.heap.size ∧ j ≠ gm
/-- what was there at w stands, gm aside. -/
structure Kp (gm : Nat) (w W : World) : Prop where
  below : Below gm w W
  old : ∀ j, Ng' gm w j → W.heap[j]? = w.heap[j]?
theorem Kp.refl {gm : Nat} {w : World} : Kp gm w w := ⟨Below.refl _ _, fun _ _ => rfl⟩
theorem Kp.mono {gm : Nat} {w W : World} (h : Kp gm w W) : ∀ k, Ng' gm w k → Ng' gm W k := fun k hk => ⟨Nat.lt_of_lt_of_le hk.1 h.below.size, hk.2⟩
theorem Kp.lt {gm : Nat} {w W : World} (h : Kp gm w W) : ∀ k, Ng' gm w k → Lt W.heap.size k := fun k hk => Nat.lt_of_lt_of_le hk.1 h.below.size
theorem Kp.sys {gm : Nat} {w W w' : World} (h : Kp gm w W) (S : Sys gm W L w') (hL : ∀ e, e ∈ L → e.1 ∈ [gm] ∨ w.heap.size ≤ e.1) : Kp gm w w' :=
  ⟨h.below.trans S.toBelow, fun j hj => by
    rw [S.old j (Nat.lt_of_lt_of_le hj.1 h.below.size) fun e he e1 => by
      rcases hL e he with h1 | h1
      · exact hj.2 (by rw [← e1]; exact List.mem_singleton.1 h1)
      · have := hj.1; omega]
    exact h.old j hj⟩
theorem Kp.made {gm : Nat} {w W w' : World} (h : Kp gm w W) (hb : Below W.heap.size W w') (hg : gm ≤ W.heap.size) : Kp gm w w' :=
  ⟨h.below.trans ⟨hb.os, hb.tape, hb.output, hb.size, fun k hk => hb.block k (by omega)⟩, fun j hj => (hb.block j (Nat.lt_of_lt_of_le hj.1 h.below.size)).trans (h.old j hj)⟩
theorem Kp.grow {gm : Nat} {w W W' : World} (h : Kp gm w W) (hB : Below gm W W') (ho : ∀ j, j < W.heap.size → (∀ e, e ∈ L → e.1 ≠ j) → W'.heap[j]? = W.heap[j]?) (hL : ∀ e, e ∈ L → e.1 ∈ [gm] ∨ w.heap.size ≤ e.1) : Kp gm w W' :=
  ⟨h.below.trans hB, fun j hj => (ho j (Nat.lt_of_lt_of_le hj.1 h.below.size) fun e he e1 => by
    rcases hL e he with h1 | h1
    · exact hj.2 (by rw [← e1]; exact List.mem_singleton.1 h1)
    · have := hj.1; omega).trans (h.old j hj)⟩
/-- the blocks below B alone. -/
def trunc (w : World) (n : Nat) : World := { w with heap := w.heap.extract 0 n }
theorem Sys.anchorT {wE W w' : World} {L' : Lo} (hB : Below B wE W) (S : Sys B W L w') (hs : ∀ e, e ∈ L' → e ∈ L) (hn : (L'.map (·.1)).Nodup) (hle : B ≤ wE.heap.size) : Sys B (trunc wE B) L' w' := by
  have hsz : (trunc wE B).heap.size = B := by simp [trunc]; omega
  refine ⟨S.os.trans hB.os, S.tape.trans hB.tape, S.output.trans hB.output, ?_, ?_, fun k hk _ => ?_, fun e he => S.own e (hs e he), hn⟩
  · rw [hsz]; exact Nat.le_trans S.base S.size
  · rw [hsz]; exact Nat.le_refl _
  · rw [hsz] at hk
    have h1 := S.toBelow.block k hk
    have h2 := hB.block k hk
    rw [h1, h2]
    simp [trunc, Array.getElem?_extract]
    omega
/-- at the call's end: nothing but gm has changed. -/
theorem Kp.end_ {gm : Nat} {w W w' : World} {o : Obj} (h : Kp gm w W) (S : Sys gm W L w') (hm : (gm, o) ∈ L) (hL : ∀ e, e ∈ L → e.1 ∈ [gm] ∨ w.heap.size ≤ e.1) (h0 : gm ≤ w.heap.size) : Sys gm w [(gm, o)] w' :=
  have h1 := h.sys S hL
  ⟨h1.below.os, h1.below.tape, h1.below.output, h1.below.size, h0, fun k hk hn => h1.old k ⟨hk, fun e => hn (gm, o) (.head _) e.symm⟩, fun e he => by rw [List.mem_singleton.1 he]; exact S.own _ hm, by simp⟩
/-- behind a call that only makes new things. -/
theorem Sys.made {w w' : World} (S : Sys B w0 L w) (hb : Below w.heap.size w w') : Sys B w' L w' :=
  ⟨rfl, rfl, rfl, Nat.le_refl _, Nat.le_trans S.base (Nat.le_trans S.size hb.size), fun _ _ _ => rfl, fun e he => ⟨(S.own e he).1, (hb.block e.1 (S.lt he)).trans (S.own e he).2⟩, S.nd⟩
/-- what another call, that may have changed gm, left: what was held is still held. -/
theorem Fam.after {w w' : World} {gm b : Nat} {o : Obj} {ks : List Nat} {hs hs' : List Held} (h : Fam w gm ks [] hs) (S : Sys b w [(gm, o)] w') (hk : gm ∈ ks) (h' : Fam w' gm ks [] hs') : Fam w' gm ks [] (hs' ++ hs) := by
  have h1 := h.sys S fun e he => .inl (by rw [List.mem_singleton.1 he]; exact hk)
  exact ⟨h1.base, h1.row, h1.sep, h1.two, h1.ins, fun x hx => by
    rcases List.mem_append.1 hx with h2 | h2
    · exact h'.held x h2
    · exact h1.held x h2⟩
end
section
variable {P : Program} {T : TT} {N : Nat} {B : Nat} {w0 : World} {ds : List Deferred} {Q : Exit → Act → World → Prop} {F : Fr} {L : Lo} {pu : Prop} {ops : Array Oper} {rest : List Oper} {ty : TypeId} {p : String} {af : Array Edge}
/-- append(row, a whole list). -/
theorem XL.pushLW {α : Type} {K : Kind α} {d : Nat} {t : TypeId} {x y : Operand} {v : Value} {l l2 : List α} {r2 : SV} {bytes b0 : Nat} {ks : List Nat} {rs : List RowX} {hs : List Held} {wE : World} (i : Nat) (he : elemOk P t K.ty K.m bytes = true) (h0 : 0 < K.m)
    (hx : evo F x = some v) (hy : evo F y = some (.slice r2.A r2.n r2.c)) (hd : Nat.blt d N = true) (hF : Fam w0 b0 ks rs hs) (hi : rs[i]? = some ⟨α, K, v, l⟩) (hks : ∀ k, k ∈ ks → k < w0.heap.size) (hbl : Below B wE w0) (hB : B ≤ b0)
    (hr : ∀ w, Sys B w0 L w → ListAt K w (Lt w.heap.size) r2 l2) (ha : ∀ a, a ∈ l2 → ∀ x, x ∈ K.sl a → x.p w0 (Free w0 b0 ks rs)) (h1 : ∀ a : α, (K.c a).all Value.oneCell' = true) (h63 : l.length + l2.length ≤ 10000000) (hb : bytes ≤ 10000000)
    (k : ∀ w' v', w0.heap.size ≤ w'.heap.size → (∀ j, j < w0.heap.size → (∀ e, e ∈ L → e.1 ≠ j) → v.ownBlock ≠ some j → w'.heap[j]? = w0.heap[j]?) → Fam w' b0 (L.map (·.1) ++ ks) (rs.set i ⟨α, K, v', l ++ l2⟩) hs → Below B wE w' → (∀ k, k ∈ L.map (·.1) ++ ks → k < w'.heap.size) → XL P N B w' ds Q ops rest ((d, v') :: F) L)
    (hL : ∀ e, e ∈ L → e.1 ∈ ks ∨ w0.heap.size ≤ e.1 := by (intro e he; repeat (first | (cases he; done) | (rcases List.mem_cons.1 he with rfl | he; · first | (right; assumption) | (left; simp <;> fail)))) <;> fail) :
    XL P N B w0 ds Q ops ({ dst := some d, op := .call { callee := .builtin .append, args := #[x, y], argTypes := #[t, t] }, type := ty, pos := p, after := af, guard := none } :: rest) F L := by
  obtain ⟨A, m, c⟩ := r2
  have hri : (⟨α, K, v, l⟩ : RowX) ∈ rs := List.mem_of_getElem? hi
  have hk2 : ∀ k, k ∈ L.map (·.1) ++ ks → k ∈ ks ∨ w0.heap.size ≤ k := fun k hk => by
    rcases List.mem_append.1 hk with h | h
    · obtain ⟨e, he, rfl⟩ := List.mem_map.1 h
      exact hL e he
    · exact .inl h
  have hk3 : ∀ w, Sys B w0 L w → ∀ k, k ∈ L.map (·.1) ++ ks → k < w.heap.size := fun w S k hk => by
    rcases List.mem_append.1 hk with h | h
    · obtain ⟨e, he, rfl⟩ := List.mem_map.1 h
      exact S.lt he
    · exact Nat.lt_of_lt_of_le (hks k h) S.size
  have hsepL : ∀ k, v.ownBlock = some k → ∀ e, e ∈ L → e.1 ≠ k := fun k hk e he e1 => by
    rcases hL e he with h | h
    · exact hF.sep _ hri k hk (e1 ▸ h)
    · have := (hF.lt hri hk).2; omega
  cases A with
  | none =>
    refine ⟨fun a w hf S => ?_⟩
    refine wpList_plain rfl fun Kk hK => ?_
    unfold Oper.wp
    have hl := hr w S
    have hm := hl.len h0
    simp only at hm
    have hm0 : m = 0 := by
      rcases Nat.eq_zero_or_pos m with h | h
      · exact h
      · obtain ⟨ad, e, _⟩ := hl.rd.at_ (by simpa using h)
        cases e
    subst hm0
    have hl2 : l2 = [] := List.length_eq_zero_iff.1 hm.symm
    subst hl2
    have hrun := append_none_run (ty := ty) (c := c) he (owns_sys (hF.row _ hri) S hsepL)
    have : (execOp a.eval { dst := some d, op := .call { callee := .builtin .append, args := #[x, y], argTypes := #[t, t] }, type := ty, pos := p, after := af, guard := none }).run P w = .ok (.value v) w := by
      have hm : (#[x, y] : Array Operand).map a.eval = #[v, .slice none 0 c] := by simp [hf.eval hx, hf.eval hy]
      simp only [execOp, resolve, Sem.run_bind, Sem.run_pure, Result.andThen_ok, invoke, builtin, hm, hrun]
    rw [this]
    refine hK _ _ ((k w v S.size (fun j h1 h2 _ => S.old j h1 h2) ?_ (hbl.trans S.toBelow) (hk3 w S)).run _ _ (hf.put hd) (S.rebase (List.Sublist.refl _)))
    have h2 := (hF.add (ks' := L.map (·.1) ++ ks) hk2).sys S fun e he => .inl (List.mem_append_left _ (List.mem_map.2 ⟨e, he, rfl⟩))
    obtain ⟨hil, hie⟩ := List.getElem?_eq_some_iff.1 hi
    have h3 : rs.set i ⟨α, K, v, l ++ []⟩ = rs := by
      rw [List.append_nil, ← hie]
      exact List.set_getElem_self hil
    rw [h3]
    exact h2
  | some A =>
    by_cases hex : ∃ w, Sys B w0 L w
    · obtain ⟨wx, Sx⟩ := hex
      have hm := (hr wx Sx).len h0
      simp only at hm
      subst hm
      refine XL.append2 (v := v) (m := l2.length) (n := l.length) (size := K.m) (bytes := bytes) (base := b0) (A := A) (xs := l.flatMap K.c) (news := l2.flatMap K.c) (L' := L) he h0 hx hy hd (hF.row _ hri) hsepL (by rw [flat_len K.c K.m K.len])
        (fun w S j u hj => ?_) ?_ (by unfold maxLen; omega) (Nat.le_trans (Nat.mul_le_mul h63 hb) (by decide)) hF.base (List.Sublist.refl _) (fun w v' w' S ho hg _ hfr => ?_)
      · have h2 := hr w S
        have hjl := (List.getElem?_eq_some_iff.1 hj).1
        rw [flat_len K.c K.m K.len] at hjl
        have hpos : 0 < l2.length := by
          rcases Nat.eq_zero_or_pos l2.length with h | h
          · rw [h] at hjl; omega
          · exact h
        obtain ⟨ad, e, _, h3⟩ := h2.rd.at_ hpos
        cases e
        exact h3 j u hj
      · rw [List.all_eq_true]
        intro u hu
        obtain ⟨a, ha', hu'⟩ := List.mem_flatMap.1 hu
        exact List.all_eq_true.1 (h1 a) u hu'
      · have hsz := hg.size
        have hS := S.size
        refine k w' v' (Nat.le_trans hS hsz) (fun j h1 h2 h3 => grown_old S hg h1 h2 fun e1 => h3 e1.symm) ?_ (hbl.trans (grown_below S hg fun k hk => Nat.le_trans hB (hF.lt hri hk).1)) fun q hq => Nat.lt_of_lt_of_le (hk3 w S q hq) hsz
        have hfa : ∀ j, Free w0 b0 ks rs j → Free w0 b0 (L.map (·.1) ++ ks) rs j := fun j hj => ⟨hj.1, hj.2.1, fun h => by
          rcases hk2 j h with h4 | h4
          · exact hj.2.2.1 h4
          · have := hj.2.1; omega, hj.2.2.2⟩
        refine (hF.add (ks' := L.map (·.1) ++ ks) hk2).pushL hi (fun a h4 x hx => x.mono (ha a h4 x hx) hfa) ho (Nat.le_trans hS hsz) (fun j hj hn hv => ?_) (fun k hk => ?_)
        · exact grown_old S hg hj (fun e he e1 => hn (List.mem_append_left _ (List.mem_map.2 ⟨e, he, e1⟩))) fun e1 => hv e1.symm
        · rcases hfr k hk with h | h
          · exact .inl h
          · exact .inr ⟨Nat.le_trans hS h, fun h2 => by have := hk3 w S k h2; omega⟩
    · exact ⟨fun a w hf S => absurd ⟨w, S⟩ hex⟩
/-- a slice literal is a new row. -/
theorem XL.newRowW (hT : TOK P T) {α : Type} {K : Kind α} {l : List α} {d : Nat} {t e : TypeId} {n size b0 : Nat} {ps : List (Nat × Operand)} {z : Value} {zs cs : List Value} {ks : List Nat} {rs : List RowX} {hs : List Held} {wE : World}
    (hs' : lkG T.sl t = some (e, size)) (hz : lkG T.zero e = some z) (hzs : cellsO z = some zs) (hsz : Nat.beq zs.length size = true) (h0 : Nat.blt 0 size = true) (hbig : Nat.ble (n * size) 16777216 = true) {zl : List Value} (hzl : zerosO zs n = some zl) (hc : fillS F size zl ps = some cs) (hd : Nat.blt d N = true)
    (hK : K.ty = e ∧ K.m = size) (hcs : cs = l.flatMap K.c) (hn : l.length = n) (hF : Fam w0 b0 ks rs hs) (hks : ∀ k, k ∈ ks → k < w0.heap.size) (hbl : Below B wE w0) (hb0 : b0 ≤ w0.heap.size) (ha : ∀ a, a ∈ l → ∀ x, x ∈ K.sl a → x.p w0 (Free w0 b0 ks rs))
    (k : ∀ w' g, w0.heap.size ≤ w'.heap.size → w0.heap.size ≤ g → (∀ j, j < w0.heap.size → (∀ e, e ∈ L → e.1 ≠ j) → w'.heap[j]? = w0.heap[j]?) → Fam w' b0 (L.map (·.1) ++ ks) (⟨α, K, .slice (some ⟨g, 0, none⟩) n n, l⟩ :: rs) hs → Below B wE w' → (∀ k, k ∈ L.map (·.1) ++ ks → k < w'.heap.size) → XL P N B w' ds Q ops rest ((d, .slice (some ⟨g, 0, none⟩) n n) :: F) L)
    (hL : ∀ e, e ∈ L → e.1 ∈ ks ∨ w0.heap.size ≤ e.1 := by (intro e he; repeat (first | (cases he; done) | (rcases List.mem_cons.1 he with rfl | he; · first | (right; assumption) | (left; simp <;> fail)))) <;> fail) :
    XL P N B w0 ds Q ops ({ dst := some d, op := .buildSlice t n ps.toArray, type := ty, pos := p, after := af, guard := none } :: rest) F L := by
  refine XL.buildSlice hT hs' hz hzs hsz h0 hbig hzl hc hd fun g hg => ?_
  refine XL.rebase (List.sublist_cons_self _ _) fun w1 S => ?_
  have hk2 : ∀ k, k ∈ L.map (·.1) ++ ks → k ∈ ks ∨ w0.heap.size ≤ k := fun k hk => by
    rcases List.mem_append.1 hk with h | h
    · obtain ⟨e, he, rfl⟩ := List.mem_map.1 h
      exact hL e he
    · exact .inl h
  have hk3 : ∀ k, k ∈ L.map (·.1) ++ ks → k < w1.heap.size := fun k hk => by
    rcases List.mem_append.1 hk with h | h
    · obtain ⟨e, he, rfl⟩ := List.mem_map.1 h
      exact S.lt (List.mem_cons_of_mem _ he)
    · exact Nat.lt_of_lt_of_le (hks k h) S.size
  have hgL : g ∉ L.map (·.1) := by have := S.nd; simp only [List.map_cons, List.nodup_cons] at this; exact this.1
  have hfa : ∀ j, Free w0 b0 ks rs j → Free w0 b0 (L.map (·.1) ++ ks) rs j := fun j hj => ⟨hj.1, hj.2.1, fun h => by
    rcases hk2 j h with h4 | h4
    · exact hj.2.2.1 h4
    · have := hj.2.1; omega, hj.2.2.2⟩
  obtain ⟨hK1, hK2⟩ := hK
  have hrow : w1.ownsRow b0 K.ty K.m (.slice (some ⟨g, 0, none⟩) n n) l.length (l.flatMap K.c) := by
    have h5 := (S.own (g, _) List.mem_cons_self).2
    have h6 : (l.flatMap K.c).length = n * K.m := by rw [flat_len K.c K.m K.len, hn]
    have hsz' : 0 < K.m := by rw [hK2]; exact Nat.le_of_ble_eq_true h0
    have hbig' : n * K.m ≤ 16777216 := by rw [hK2]; exact Nat.le_of_ble_eq_true hbig
    have hnm : n ≤ n * K.m := Nat.le_mul_of_pos_right n hsz'
    refine ⟨by rw [h6, hn], .inr ⟨g, n, ⟨l.flatMap K.c⟩, by rw [hn], Nat.le_trans hb0 hg, ?_, by omega, by unfold maxLen; omega, by simpa using h6, ?_⟩⟩
    · rw [hK1, ← hcs]; exact h5
    · rw [hn, ← h6]
      simp only [List.take_length]
  refine XL.weak1 (k w1 g S.size hg (fun j h1 h2 => S.old j h1 fun e he e1 => by
    rcases List.mem_cons.1 he with rfl | he
    · simp only at e1; omega
    · exact h2 e he e1) ((hF.add (ks' := L.map (·.1) ++ ks) hk2).fresh S.size (fun j hj hn' => ?_) hrow (fun q hq => ?_) fun a h4 x hx => x.mono (ha a h4 x hx) hfa) (hbl.trans S.toBelow) hk3)
  · exact S.old j hj fun e he e1 => by
      rcases List.mem_cons.1 he with rfl | he
      · simp only at e1; omega
      · exact hn' (List.mem_append_left _ (List.mem_map.2 ⟨e, he, e1⟩))
  · simp only [Value.ownBlock, Option.some.injEq] at hq
    subst hq
    refine ⟨hg, fun h7 => ?_⟩
    rcases List.mem_append.1 h7 with h8 | h8
    · exact hgL h8
    · have := hks _ h8; omega
end
section
variable {P : Program} {N B : Nat} {wS w0 : World} {ds : List Deferred} {Q : Exit → Act → World → Prop} {F : Fr} {L Ls : Lo} {ops : Array Oper} {rem : List (Nat × Oper)} {r : Option Nat} {n : Nat}
theorem XH.ofRS {l : List Oper} (wS : World) (Ls : Lo) (p q : List Nat) (hr : pickR l q = some rem)
    (hp : (pureOk l.toArray (Array.replicate l.length false) p && partB l.length p q) = true)
    (h : Fw P N B wS ds False (fun F' => XR P N B wS w0 ds Q Ls l.toArray rem F' L) l.toArray Ls (pickO l.toArray p) F) : XH P N B wS w0 ds Q Ls l.toArray (Array.replicate l.toArray.size false) F L := by
  simp only [Bool.and_eq_true] at hp
  refine XH.pure p (by simpa using hp.1) ?_
  have key : ∀ F', XR P N B wS w0 ds Q Ls l.toArray rem F' L → XH P N B wS w0 ds Q Ls l.toArray (setAll (Array.replicate l.toArray.size false) p) F' L := by
    intro F' hx
    have hset : ∀ (p : List Nat) (D : Array Bool) (i : Nat), i < D.size → on (setAll D p) i = (on D i || p.contains i) := by
      intro p
      induction p with
      | nil => intro D i _; simp [setAll]
      | cons j r ih =>
        intro D i hi
        rw [setAll, ih _ _ (by simpa using hi)]
        by_cases hj : j < D.size
        · rw [on_set hj]
          simp only [List.contains_cons]
          cases on D i <;> simp
        · have : D.setIfInBounds j true = D := Array.setIfInBounds_eq_of_size_le (by omega)
          rw [this]
          have hne : ¬ i = j := by omega
          simp [List.contains_cons, hne]
    have hsz : ∀ (p : List Nat) (D : Array Bool), (setAll D p).size = D.size := by
      intro p
      induction p with
      | nil => intro D; rfl
      | cons j r ih => intro D; rw [setAll, ih]; simp
    obtain ⟨h1, h2⟩ := pickR_spec hr
    have hpart := hp.2
    unfold partB at hpart
    simp only [Bool.and_eq_true, List.all_eq_true, List.mem_range, decide_eq_true_eq] at hpart
    obtain ⟨⟨h3, h4⟩, h5⟩ := hpart
    have hD : RemOk l.toArray (setAll (Array.replicate l.toArray.size false) p) rem := by
      refine ⟨by rw [hsz]; simp, fun e he => by simpa using h2 e he, fun i hi => ?_, by rw [h1]; exact h5⟩
      have hi' : i < l.length := by simpa using hi
      rw [hset _ _ _ (by simpa using hi')]
      have h6 : on (Array.replicate l.toArray.size false) i = false := by unfold on; simp [hi']
      rw [h6, Bool.false_or]
      have h7 := h3 i hi'
      have h8 : inRem rem i = q.contains i := by
        rw [Bool.eq_iff_iff, inRem_iff, List.contains_iff_mem, ← h1]
        simp only [List.mem_map, Prod.exists, exists_and_right, exists_eq_right]
      rw [h8]
      cases h9 : p.contains i <;> cases h10 : q.contains i <;> rw [h9, h10] at h7 <;> simp_all
    exact ⟨fun fuel a w hc hf hs hS => hx.run _ fuel a w hD hc hf hs hS⟩
  exact ⟨by
    have := h.run
    exact (show ∀ (ops : List Oper) (F : Fr) (K K' : Fr → Prop), (∀ F', K F' → K' F') → Fw0 P N B wS ds False l.toArray Ls K ops F → Fw0 P N B wS ds False l.toArray Ls K' ops F from by
      intro ops
      induction ops with
      | nil => intro F K K' hk h; exact hk _ h
      | cons o r ih => rintro F K K' hk ⟨v, h1, h2⟩; exact ⟨v, h1, ih _ _ _ hk h2⟩) _ _ _ _ (fun F' ⟨G', h1, h2⟩ => ⟨G', h1, key _ h2⟩) this⟩
/-- a region that draws its order, in a round's frame. -/
theorem wpAnyIn_of {md : Region.Mode} {K : Act → World → Prop} {Q' : Exit → Act → World → Prop} (hd : ∀ (i : Nat) (o : Oper), ops[i]? = some o → notDefer o = true) (hK : ∀ a w, K a w → Q' .normal a w) : ∀ (fuel : Nat) (listed : Array Bool) (a : Act) (w : World), wpAny P md ops (only K) fuel listed a w → wpAnyIn (fen r) n P md ops Q' fuel listed a w := by
  intro fuel
  induction fuel with
  | zero => intro listed a w h; exact ⟨h.1, hK _ _ h.2⟩
  | succ fuel ih =>
    intro listed a w h
    refine ⟨fun h0 => hK _ _ (h.1 h0), fun i hi => ?_⟩
    have h1 := h.2 i hi
    unfold wpOp at h1
    unfold wpOpIn
    split
    · rename_i ho
      rw [ho] at h1
      exact ih _ _ _ h1
    · rename_i o ho
      rw [ho] at h1
      simp only at h1
      split
      · rename_i hw
        rw [if_pos hw] at h1
        rcases h1 with h1 | ⟨_, a0, w0, q⟩
        · refine ⟨fun f _ => fen_fn r f, ?_⟩
          rw [fen_round]
          rw [Oper.semAt_eq r a.eval o (fun c e => by have := hd i o ho; simp [notDefer, e] at this)]
          refine upon_in (Q := only K) only_normal ?_
          have h2 : o.wp P a w (wpAnyIn (fen r) n P md ops Q' fuel (listed.setIfInBounds i true)) (only K) := Oper.wp_mono (fun a w h => ih _ _ _ h) h1
          exact h2
        · exact q.elim
      · rename_i hw
        rw [if_neg hw] at h1
        exact ⟨fun f _ => fen_fn r f, ih _ _ _ h1⟩
theorem XR'.drawRS {id : Nat} {l : List Oper} (wS : World) (Ls : Lo) (p q : List Nat) (hm : P.follows .mixedOrders = true) (hL : ∀ w, Sys B w0 L w → Sys B wS Ls w) (hr : pickR l q = some rem) (hnd : l.all notDefer = true)
    (hp : (pureOk l.toArray (Array.replicate l.length false) p && partB l.length p q) = true)
    (h : Fw P N B wS ds False (fun F' => XR P N B wS w0 ds (only fun a w => Q .normal a w) Ls l.toArray rem F' L) l.toArray Ls (pickO l.toArray p) F) : XR' P N B w0 ds Q r n (.region id l.toArray true) F L :=
  ⟨fun a w hf hs => by
    have h1 := (XH.ofRS (Q := only fun a w => Q .normal a w) wS Ls p q hr hp h).run l.toArray.size a { w with drawn := w.drawn + 1 } (by simp) hf hs.drew (hL _ hs.drew)
    refine wpIn_region_any hm (wpAnyIn_of (K := fun a w => Q .normal a w) (fun i o ho => ?_) (fun _ _ h => h) _ _ _ _ (wpAny_of_held _ _ _ _ h1))
    exact List.all_eq_true.1 hnd o (List.mem_of_getElem? (by simpa using ho))⟩
theorem XR'.exit {id : Nat} (h : XE N B w0 ds Q (.exit id) F L) : XR' P N B w0 ds Q r n (.exit id) F L := ⟨fun a w hf hs => wpIn_exit (h.run a w hf hs)⟩
theorem XE.onlyN (h : XE N B w0 ds Q .normal F L) : XE N B w0 ds (only fun a w => Q .normal a w) .normal F L := ⟨h.run⟩
end
end Go.Proofs.Ytmckmlmfilmiaaa.X
/-
  A call that makes new things, of which it is kept what it left as it was; a drawn region with such a call whose reads are of things made by this call's caller.
-/
namespace Go.Proofs.Ytmckmlmfilmiaaa.X
open Go Go.RowKit
set_option linter.unusedVariables false
section
variable {P : Program} {T : TT} {N : Nat} {B : Nat} {wS w0 : World} {ds : List Deferred} {Q : Exit → Act → World → Prop} {F : Fr} {L L' Ls : Lo} {ops : Array Oper} {rest : List Oper} {rem : List (Nat × Oper)} {ty : TypeId} {p : String} {af : Array Edge}
theorem XL.callFW {f : FuncId} {d : Nat} {args : Array Operand} {vs : List Value} {ats : Array TypeId} {b0 : Nat} {ks : List Nat} {rs : List RowX} {hs : List Held} {wE : World} (R : Value → List Held → Prop) (h : callOk P f = true)
    (ha : evos F args.toList = some vs) (hd : Nat.blt d N = true) (hF : Fam w0 b0 ks rs hs) (hks : ∀ k, k ∈ ks → k < w0.heap.size) (hbl : Below B wE w0)
    (hc : ∀ w, Sys B w0 L w → Fam w b0 (L.map (·.1) ++ ks) rs hs → Below B wE w → Calls P f vs.toArray w (Made w R))
    (k : ∀ w' v new, R v new → Fam w' b0 (L.map (·.1) ++ ks) rs (new ++ hs) → Below B wE w' → (∀ k, k ∈ L.map (·.1) ++ ks → k < w'.heap.size) → Sys B w0 L w' → XL P N B w' ds Q ops rest ((d, v) :: F) L)
    (hL : ∀ e, e ∈ L → e.1 ∈ ks ∨ w0.heap.size ≤ e.1 := by (intro e he; repeat (first | (cases he; done) | (rcases List.mem_cons.1 he with rfl | he; · first | (right; assumption) | (left; simp <;> fail)))) <;> fail) :
    XL P N B w0 ds Q ops ({ dst := some d, op := .call { callee := .value (.func f), args := args, argTypes := ats }, type := ty, pos := p, after := af, guard := none } :: rest) F L := by
  refine XL.call (fst := []) (cap := []) (vs := vs) h rfl ha hd (List.Sublist.refl _) (fun w v w' => ∃ new, R v new ∧ (∀ x, x ∈ new → x.p w' (Btw w.heap.size w'.heap.size)) ∧ Below w.heap.size w w') (fun w S => ?_) (fun w v w' S hR hb S' => ?_)
  · have h1 := hF.call S (Below.refl _ _) hL hks (new := []) fun _ h => by cases h
    simp only [List.nil_append, List.append_nil] at h1 ⊢
    exact (hc w S h1.1 (hbl.trans S.toBelow)).mono fun e w' ⟨v, new, e1, e2, e3, e4⟩ => ⟨v, e1, ⟨new, e2, e3, e4⟩, e4⟩
  · obtain ⟨new, e2, e3, e4⟩ := hR
    have h1 := hF.call S hb hL hks e3
    exact k w' v new e2 h1.1 (hbl.trans S'.toBelow) h1.2 S'
theorem Sys.anchor3 {W w2 w : World} {L2 : Lo} (S' : Sys B W L w2) (h : Sys B w2 L2 w) (hs : List.Sublist L L2) (hn : ∀ e, e ∈ L2 → e.1 ∈ L.map (·.1) ∨ W.heap.size ≤ e.1) : Sys B W L w :=
  ⟨h.os.trans S'.os, h.tape.trans S'.tape, h.output.trans S'.output, Nat.le_trans S'.size h.size, S'.base, fun k hk hk2 => by
    rw [h.old k (Nat.lt_of_lt_of_le hk S'.size) (fun e he e1 => by
      rcases hn e he with h1 | h1
      · obtain ⟨e', h3, h4⟩ := List.mem_map.1 h1
        exact hk2 e' h3 (by rw [h4, e1])
      · omega), S'.old k hk hk2], fun e he => ⟨(S'.own e he).1, (h.own e (hs.subset he)).2⟩, h.nd.sublist (hs.map _)⟩
theorem z5 {W w0 : World} (k : XR P N B W w0 ds Q Ls ops rem F L) (S' : Sys B W Ls w0 := by assumption) (hs : List.Sublist Ls L := by (repeat (first | exact List.Sublist.refl _ | exact List.nil_sublist _ | refine List.Sublist.cons_cons _ ?_ | refine List.Sublist.cons _ ?_)) <;> fail)
    (hn : ∀ e, e ∈ L → e.1 ∈ Ls.map (·.1) ∨ W.heap.size ≤ e.1 := by (intro e he; repeat (first | (cases he; done) | (rcases List.mem_cons.1 he with rfl | he; · first | (left; simp <;> fail) | (right; simp only; omega)))) <;> fail) :
    XE N B w0 ds (heldR P B W Q Ls ops rem) .normal F L := XE.heldR (fun _ h => Sys.anchor3 S' h hs hn) k
variable {dst : Option Tmp} {gd : Option (Nat × Bool)} {pu : Prop}
/-- a value in a block that was taken hold of. -/
theorem Ev.load_in_agg (hT : TOK P T) (i : Nat) {t : TypeId} {x : Operand} {ad : Addr} {n g : Nat} {o : Obj} (vs : List Value) (W : World) (hx : evo F x = some (.pointer (some ad))) (hL : L[i]? = some (g, o)) (h1 : lkG T.agg t = some n) (hlen : vs.length = n) (hb : ad.block = g) (hW : W.heap[g]? = some o)
    (hv : ∀ j v, vs[j]? = some v → W.cell? (ad.add j) = some v) : Ev P N B w0 ds pu F L ⟨dst, .load t x, ty, p, af, gd⟩ (.agg vs.toArray) :=
  .of_run fun a w hf hw => by
    have hg := (hw.own _ (List.mem_of_getElem? hL)).2
    simp only at hg
    have hc : ∀ j u, vs[j]? = some u → w.cell? (ad.add j) = some u := fun j u hj => by
      rw [← hv j u hj]
      unfold World.cell?
      rw [add_block, hb, hg, hW]
    simp [execOp, Instr.loadAt, Instr.sureAddr, hf.eval hx, run_loadVar_agg (tab_ok hT.agg h1) hlen hc]
theorem Sys.ungrab {w : World} {g : Nat} {o : Obj} (h : Sys B w0 ((g, o) :: L) w) (hg : w0.heap[g]? = some o) : Sys B w0 L w :=
  ⟨h.os, h.tape, h.output, h.size, h.base, fun k hk hn => by
    by_cases e : k = g
    · rw [e, hg]; exact (h.own (g, o) (.head _)).2
    · exact h.old k hk fun e' he => by
        rcases List.mem_cons.1 he with rfl | he
        · exact fun h1 => e h1.symm
        · exact hn e' he, fun e he => h.own e (.tail _ he), h.nd.sublist (List.sublist_cons_self _ _)⟩
end
end Go.Proofs.Ytmckmlmfilmiaaa.X
/-
  The plain words of layer 4: levels of volumes and volumes of levels, and that both are in order.
-/
namespace Go.Proofs.Ytmckmlmfilmiaaa.Bs
set_option linter.unusedVariables false
/-- the piece in which a level lies. -/
def lsegTo (b : Bas) (l : Int) : Nat → Nat
  | 0 => 0
  | k + 1 => if (b.row (k + 1)).level ≤ l then k + 1 else lsegTo b l k
def lseg (b : Bas) (l : Int) : Nat := lsegTo b l (b.rows.length - 2)
/-- the greatest volume whose level is at most l, as the program reckons it. -/
def volAt (b : Bas) (l : Int) : Int := (b.row (lseg b l)).vol + (l - (b.row (lseg b l)).level) * ((b.row (lseg b l + 1)).vol - (b.row (lseg b l)).vol) / ((b.row (lseg b l + 1)).level - (b.row (lseg b l)).level)
def volOf (b : Bas) (l : Int) : Int := min 1000000000 (volAt b l)
def levLo (b : Bas) (v : Int) : Int := num b v / den b v
def levHi (b : Bas) (v : Int) : Int := -((-(num b v)) / den b v)
section
variable {b : Bas} (h : RowsOk b)
include h
end
end Go.Proofs.Ytmckmlmfilmiaaa.Bs
/-
  The plain words of layer 7 (runoff): devices, tasks, what Check says, what a choice does.
-/
namespace Go.Proofs.Ytmckmlmfilmiaaa.Bs
open Go Go.Proofs.Ytmckmlmfilmiaaa.X
set_option linter.unusedVariables false
structure Slu where
  name : ByteArray
  width : Int
  move : Int
structure Pmp where
  name : ByteArray
  rate : Int
  base : Int
  lift : Int
  start : Int
inductive Dev where
  | slu (x : Slu)
  | pmp (x : Pmp)
structure RTk where
  b : Bas
  s : Sta
  outer : List Int
  river : List Int
  prices : List Int
  low : Int
  high : Int
  slu : List Slu
  pmp : List Pmp
  on : List Bool
def Dev.name : Dev → ByteArray
  | .slu x => x.name
  | .pmp x => x.name
def sluWild (x : Slu) : Bool := outB x.width 0 10000 || outB x.move 0 100000
def pmpWild (x : Pmp) : Bool := outB x.rate 0 10000000 || (outB x.base 0 100000 || (outB x.lift 0 100000 || outB x.start 0 100000))
def Dev.wild : Dev → Bool
  | .slu x => sluWild x
  | .pmp x => pmpWild x
def RTk.devs (t : RTk) : List Dev := t.slu.map .slu ++ t.pmp.map .pmp
def d0 : Dev := .slu ⟨ByteArray.empty, 0, 0⟩
def RTk.dev (t : RTk) (i : Nat) : Dev := t.devs[i]?.getD d0
def RTk.many (t : RTk) : Nat := t.slu.length + t.pmp.length
theorem RTk.devs_len (t : RTk) : t.devs.length = t.many := by simp [RTk.devs, RTk.many]
def tickErr (t : RTk) (i : Nat) : Int := if outB (at0 t.outer i) (-20000) 20000 || (outB (at0 t.river i) 0 10000000 || outB (at0 t.prices i) 0 10000) then 7 else 0
def devErr (l : List Dev) (i : Nat) : Int :=
  if nameB (l[i]?.getD d0).name = false then 6 else if ∃ k, k < i ∧ (l[k]?.getD d0).name = (l[i]?.getD d0).name then 5 else if (l[i]?.getD d0).wild = true then 7 else 0
open Classical in
noncomputable def chkT (t : RTk) : Int × Int × Int :=
  if chkE t.b ≠ 0 then (1, 0, chkE t.b) else
  if staErr t.b t.s ≠ 0 then (1, 1, staErr t.b t.s) else
  if 6 < t.outer.length then (2, 0, 3) else
  if t.river.length ≠ t.outer.length ∨ t.prices.length ≠ t.outer.length then (2, 0, 2) else
  match firstN (tickErr t) t.outer.length with
  | some i => (2, i, 7)
  | none =>
    if outB t.high (-20000) 20000 || outB t.low (t.b.row 0).level t.high then (3, 0, 7) else
    if 2 < t.slu.length ∨ 2 < t.pmp.length then (4, 0, 3) else
    match firstN (devErr t.devs) t.devs.length with
    | some i => (4, i, devErr t.devs i)
    | none => if t.on.length ≠ t.devs.length then (5, 0, 2) else (0, 0, 0)
noncomputable def rtE (t : RTk) : Int := (chkT t).2.2
/-- a device's numbers are fine. -/
def DevOk : Dev → Prop
  | .slu x => (0 ≤ x.width ∧ x.width ≤ 10000) ∧ (0 ≤ x.move ∧ x.move ≤ 100000)
  | .pmp x => (0 ≤ x.rate ∧ x.rate ≤ 10000000) ∧ (0 ≤ x.base ∧ x.base ≤ 100000) ∧ (0 ≤ x.lift ∧ x.lift ≤ 100000) ∧ (0 ≤ x.start ∧ x.start ≤ 100000)
structure RtOk (t : RTk) : Prop where
  ok : Ok t.b
  sta : StaOk t.b t.s
  n6 : t.outer.length ≤ 6
  river : t.river.length = t.outer.length
  prices : t.prices.length = t.outer.length
  out_ : ∀ i, i < t.outer.length → -20000 ≤ at0 t.outer i ∧ at0 t.outer i ≤ 20000
  riv_ : ∀ i, i < t.outer.length → 0 ≤ at0 t.river i ∧ at0 t.river i ≤ 10000000
  pri_ : ∀ i, i < t.outer.length → 0 ≤ at0 t.prices i ∧ at0 t.prices i ≤ 10000
  high : t.high ≤ 20000
  low : (t.b.row 0).level ≤ t.low ∧ t.low ≤ t.high
  s2 : t.slu.length ≤ 2
  p2 : t.pmp.length ≤ 2
  dev : ∀ d, d ∈ t.devs → DevOk d
  on : t.on.length = t.devs.length
theorem firstN_val {f : Nat → Int} {n i : Nat} (h : firstN f n = some i) : i < n ∧ f i ≠ 0 ∧ ∀ j, j < i → f j = 0 := by
  induction n with
  | zero => cases h
  | succ n ih =>
    simp only [firstN] at h
    cases hx : firstN f n with
    | some j =>
      rw [hx] at h
      cases h
      obtain ⟨a, b, c⟩ := ih hx
      exact ⟨by omega, b, c⟩
    | none =>
      rw [hx] at h
      simp only at h
      by_cases hf : f n = 0
      · rw [if_pos hf] at h; cases h
      · rw [if_neg hf] at h
        cases h
        exact ⟨by omega, hf, firstN_none_iff hx⟩
theorem dev_ok {d : Dev} (h : d.wild = false) : DevOk d := by
  cases d with
  | slu x =>
    simp only [Dev.wild, sluWild, Bool.or_eq_false_iff] at h
    exact ⟨outB_f.1 h.1, outB_f.1 h.2⟩
  | pmp x =>
    simp only [Dev.wild, pmpWild, Bool.or_eq_false_iff] at h
    exact ⟨outB_f.1 h.1, outB_f.1 h.2.1, outB_f.1 h.2.2.1, outB_f.1 h.2.2.2⟩
theorem rtOk_of {t : RTk} (h : rtE t = 0) : RtOk t := by
  unfold rtE chkT at h
  split at h
  · rename_i h1; exact absurd h h1
  rename_i h1
  split at h
  · rename_i h2; exact absurd h h2
  rename_i h2
  have hs0 : staErr t.b t.s = 0 := by simpa using h2
  obtain ⟨ho, hs⟩ := staOk_of hs0
  split at h
  · cases h
  rename_i h3
  split at h
  · cases h
  rename_i h4
  split at h
  · cases h
  rename_i h5
  split at h
  · cases h
  rename_i h6
  split at h
  · cases h
  rename_i h7
  split at h
  · rename_i i hi
    obtain ⟨_, b1, _⟩ := firstN_val hi
    exact absurd h b1
  rename_i h8
  split at h
  · cases h
  rename_i h9
  have h5' := firstN_none_iff h5
  have ht : ∀ i, i < t.outer.length → (-20000 ≤ at0 t.outer i ∧ at0 t.outer i ≤ 20000) ∧ (0 ≤ at0 t.river i ∧ at0 t.river i ≤ 10000000) ∧ (0 ≤ at0 t.prices i ∧ at0 t.prices i ≤ 10000) := fun i hi => by
    have := h5' i hi
    unfold tickErr at this
    split at this
    · cases this
    · rename_i h10
      simp only [Bool.or_eq_true, not_or, Bool.not_eq_true] at h10
      exact ⟨outB_f.1 h10.1, outB_f.1 h10.2.1, outB_f.1 h10.2.2⟩
  simp only [Bool.or_eq_true, not_or, Bool.not_eq_true] at h6
  have hl := outB_f.1 h6.2
  have hh := outB_f.1 h6.1
  have h8' := firstN_none_iff h8
  refine ⟨ho, hs, by omega, by omega, by omega, fun i hi => (ht i hi).1, fun i hi => (ht i hi).2.1, fun i hi => (ht i hi).2.2, hh.2, hl, by omega, by omega, fun d hd => ?_, by simpa using h9⟩
  obtain ⟨i, hi, rfl⟩ := List.mem_iff_getElem.1 hd
  have h10 := h8' i hi
  unfold devErr at h10
  rw [List.getElem?_eq_getElem hi] at h10
  simp only [Option.getD_some] at h10
  split at h10
  · cases h10
  · split at h10
    · cases h10
    · split at h10
      · cases h10
      · rename_i h11
        exact dev_ok (by simpa using h11)
/-! ### what a choice does -/
/-- n / d: the level inside; o: the level outside. -/
def Dev.flow (n d o : Int) : Dev → Option Int
  | .slu x => if n - o * d ≤ 0 then none else some ((x.width * (n - o * d)).tdiv d)
  | .pmp x => some x.rate
def Dev.energy (n d o : Int) (before on : Bool) : Dev → Int
  | .slu x => if before = on then 0 else x.move
  | .pmp x => if on = true then x.base + (x.lift * max 0 (-(n - o * d)) + d - 1).tdiv d + (if before = true then 0 else x.start) else 0
def bl (l : List Bool) (i : Nat) : Bool := l[i]?.getD false
/-- the first k devices: what runs off, and the energy; none: a sluice is on that must not be. -/
def useTo (n d o : Int) (ds : List Dev) (before on : List Bool) : Nat → Option (Int × Int)
  | 0 => some (0, 0)
  | k + 1 => match useTo n d o ds before on k with
    | none => none
    | some (f, e) => if bl on k = true then
        match (ds[k]?.getD d0).flow n d o with
        | none => none
        | some x => some (f + x, e + (ds[k]?.getD d0).energy n d o (bl before k) true)
      else some (f, e + (ds[k]?.getD d0).energy n d o (bl before k) false)
def RTk.use (t : RTk) (v : Int) (tick : Nat) (before on : List Bool) : Option (Int × Int) :=
  match useTo (num t.b v) (den t.b v) (at0 t.outer tick) t.devs before on t.devs.length with
  | none => none
  | some (f, e) => some (min f 10000000, e)
/-- what happens in a tick: the state after it, what was to run off, the energy, the cost. -/
structure Done where
  s : Sta
  out : Int
  energy : Int
  cost : Int
def Done.zero : Done := ⟨⟨0, []⟩, 0, 0, 0⟩
/-- the tick that a choice makes. -/
def RTk.tickOf (t : RTk) (i : Nat) (f : Int) : Tick := ⟨at0 t.outer i, at0 t.river i, f⟩
/-- the fault of a choice; what happens. -/
def RTk.doE (t : RTk) (s : Sta) (i : Nat) (before on : List Bool) : Int :=
  match t.use s.vol i before on with
  | none => 170
  | some (f, _) =>
    if stepE t.b s (t.tickOf i f) ≠ 0 then 173
    else if num t.b (outS t.b s (t.tickOf i f)).vol < t.low * den t.b (outS t.b s (t.tickOf i f)).vol then 171
    else if t.high * den t.b (outS t.b s (t.tickOf i f)).vol < num t.b (outS t.b s (t.tickOf i f)).vol then 172 else 0
def RTk.doD (t : RTk) (s : Sta) (i : Nat) (before on : List Bool) : Done :=
  if t.doE s i before on = 0 then
    match t.use s.vol i before on with
    | none => Done.zero
    | some (f, e) => ⟨outS t.b s (t.tickOf i f), f, e, e * at0 t.prices i⟩
  else Done.zero
/-! ### choices, plans -/
/-- choice number i of m devices. -/
def chc (m i : Nat) : List Bool := (List.range m).map fun j => i.testBit (m - 1 - j)
abbrev Plan := List (List Bool)
/-- a plan that was found, and its cost. -/
abbrev Fd := Option (Int × Plan)
/-- of two the cheaper one; of two alike the first. -/
def better : Fd → Fd → Fd
  | none, y => y
  | some x, none => some x
  | some x, some y => if y.1 < x.1 then some y else some x
def pick (g : Nat → Fd) : Nat → Fd
  | 0 => none
  | n + 1 => better (pick g n) (g n)
def RTk.m (t : RTk) : Nat := t.devs.length
def RTk.n (t : RTk) : Nat := t.outer.length
/-- a choice and the best rest. -/
def RTk.one (t : RTk) (more : Sta → List Bool → Fd) (s : Sta) (i : Nat) (before on : List Bool) : Fd :=
  if t.doE s i before on = 0 then
    match more (t.doD s i before on).s on with
    | none => none
    | some (c, p) => some ((t.doD s i before on).cost + c, on :: p)
  else none
/-- the first one of the cheapest rests of a plan: k ticks are left. -/
def RTk.rest (t : RTk) : Nat → Sta → List Bool → Fd
  | 0, _, _ => some (0, [])
  | k + 1, s, before => pick (fun i => t.one (t.rest k) s (t.n - (k + 1)) before (chc t.m i)) (2 ^ t.m)
/-- what happens along a plan from a tick on, up to the first fault; the fault. -/
def RTk.flw (t : RTk) : Nat → Sta → List Bool → Plan → List Done × Int
  | _, _, _, [] => ([], 0)
  | i, s, before, on :: r => if t.doE s i before on = 0 then ((t.doD s i before on) :: (t.flw (i + 1) (t.doD s i before on).s on r).1, (t.flw (i + 1) (t.doD s i before on).s on r).2) else ([], t.doE s i before on)
def costs (l : List Done) : Int := (l.map (·.cost)).foldl (· + ·) 0
def RTk.shaped (t : RTk) (p : Plan) : Bool := decide (p.length = t.n) && p.all fun on => decide (on.length = t.m)
end Go.Proofs.Ytmckmlmfilmiaaa.Bs
/-
  The plain law of layer 7 (runoff): the choices in order; the first one of the cheapest plans.
-/
namespace Go.Proofs.Ytmckmlmfilmiaaa.Bs
open Go Go.Proofs.Ytmckmlmfilmiaaa.X
set_option linter.unusedVariables false
/-! ### the choices -/
theorem chc_len (m i : Nat) : (chc m i).length = m := by simp [chc]
theorem chc_at {m i j : Nat} (h : j < m) : (chc m i)[j]? = some (i.testBit (m - 1 - j)) := by simp [chc, h]
theorem chc_0 {m r : Nat} (hr : r < 2 ^ m) : chc (m + 1) r = false :: chc m r := by
  apply List.ext_getElem?
  intro j
  cases j with
  | zero =>
    rw [chc_at (by omega)]
    simp only [List.getElem?_cons_zero, Option.some.injEq]
    exact Nat.testBit_lt_two_pow (by simpa using hr)
  | succ j =>
    simp only [List.getElem?_cons_succ]
    rcases Nat.lt_or_ge j m with h | h
    · rw [chc_at (by omega), chc_at h]
      congr 2; omega
    · rw [List.getElem?_eq_none (by rw [chc_len]; omega), List.getElem?_eq_none (by rw [chc_len]; omega)]
theorem chc_1 {m r : Nat} (hr : r < 2 ^ m) : chc (m + 1) (2 ^ m + r) = true :: chc m r := by
  apply List.ext_getElem?
  intro j
  cases j with
  | zero =>
    rw [chc_at (by omega)]
    simp only [List.getElem?_cons_zero, Option.some.injEq, Nat.add_sub_cancel, Nat.sub_zero]
    rw [Nat.testBit_two_pow_add_eq, Nat.testBit_lt_two_pow hr]; rfl
  | succ j =>
    simp only [List.getElem?_cons_succ]
    rcases Nat.lt_or_ge j m with h | h
    · rw [chc_at (by omega), chc_at h, Nat.testBit_two_pow_add_gt (by omega)]
      congr 2; omega
    · rw [List.getElem?_eq_none (by rw [chc_len]; omega), List.getElem?_eq_none (by rw [chc_len]; omega)]
/-- the first difference: off in p, on in q. -/
def Bef (p q : List Bool) : Prop := ∃ k : Nat, (∀ j : Nat, j < k → p[j]? = q[j]?) ∧ p[k]? = some false ∧ q[k]? = some true
/-! ### the first one of the cheapest -/
theorem pick_none {g : Nat → Fd} : ∀ {n : Nat}, pick g n = none → ∀ i, i < n → g i = none := by
  intro n
  induction n with
  | zero => intro _ i h; omega
  | succ n ih =>
    intro h i hi
    unfold pick at h
    cases h1 : pick g n with
    | none =>
      rw [h1] at h
      simp only [better] at h
      rcases Nat.lt_or_ge i n with h2 | h2
      · exact ih h1 i h2
      · rw [show i = n by omega]; exact h
    | some x =>
      rw [h1] at h
      cases h2 : g n with
      | none => rw [h2] at h; simp [better] at h
      | some y => rw [h2] at h; simp only [better] at h; split at h <;> cases h
theorem pick_some {g : Nat → Fd} : ∀ {n : Nat} {x : Int × Plan}, pick g n = some x → ∃ i, i < n ∧ g i = some x ∧ (∀ j y, j < n → g j = some y → x.1 ≤ y.1) ∧ (∀ j y, j < i → g j = some y → x.1 < y.1) := by
  intro n
  induction n with
  | zero => intro x h; cases h
  | succ n ih =>
    intro x h
    unfold pick at h
    cases h1 : pick g n with
    | none =>
      rw [h1] at h
      simp only [better] at h
      have h2 := pick_none h1
      refine ⟨n, by omega, h, fun j y hj hy => ?_, fun j y hj hy => ?_⟩
      · rcases Nat.lt_or_ge j n with h3 | h3
        · rw [h2 j h3] at hy; cases hy
        · rw [show j = n by omega, h] at hy; cases hy; exact Int.le_refl _
      · rw [h2 j hj] at hy; cases hy
    | some z =>
      rw [h1] at h
      obtain ⟨i, a1, a2, a3, a4⟩ := ih h1
      cases h2 : g n with
      | none =>
        rw [h2] at h
        simp only [better, Option.some.injEq] at h
        subst h
        refine ⟨i, by omega, a2, fun j y hj hy => ?_, a4⟩
        rcases Nat.lt_or_ge j n with h3 | h3
        · exact a3 j y h3 hy
        · rw [show j = n by omega, h2] at hy; cases hy
      | some y0 =>
        rw [h2] at h
        simp only [better] at h
        by_cases h3 : y0.1 < z.1
        · rw [if_pos h3] at h
          cases h
          refine ⟨n, by omega, h2, fun j y hj hy => ?_, fun j y hj hy => ?_⟩
          · rcases Nat.lt_or_ge j n with h4 | h4
            · have := a3 j y h4 hy; omega
            · rw [show j = n by omega, h2] at hy; cases hy; exact Int.le_refl _
          · have := a3 j y hj hy; omega
        · rw [if_neg h3] at h
          cases h
          refine ⟨i, by omega, a2, fun j y hj hy => ?_, a4⟩
          rcases Nat.lt_or_ge j n with h4 | h4
          · exact a3 j y h4 hy
          · rw [show j = n by omega, h2] at hy; cases hy; omega
theorem costs_go (l : List Done) : ∀ a : Int, (l.map (·.cost)).foldl (· + ·) a = a + costs l := by
  induction l with
  | nil => intro a; simp [costs]
  | cons x l ih =>
    intro a
    have h1 := ih (a + x.cost)
    have h2 := ih (0 + x.cost)
    unfold costs
    simp only [List.map_cons, List.foldl_cons] at h1 h2 ⊢
    rw [h1, h2]; omega
theorem costs_cons (x : Done) (l : List Done) : costs (x :: l) = x.cost + costs l := by
  have := costs_go l (0 + x.cost)
  unfold costs at *
  simp only [List.map_cons, List.foldl_cons] at this ⊢
  rw [this]; omega
theorem costs_nil : costs [] = 0 := rfl
theorem costs_snoc (x : Done) (l : List Done) : costs (l ++ [x]) = costs l + x.cost := by
  unfold costs
  rw [List.map_append, List.foldl_append]; rfl
section
variable {t : RTk}
/-- a plan for the last k ticks that is good: all have a choice, and no fault. -/
structure GoodP (t : RTk) (k : Nat) (s : Sta) (before : List Bool) (p : Plan) : Prop where
  len : p.length = k
  row : ∀ on, on ∈ p → on.length = t.m
  ok : (t.flw (t.n - k) s before p).2 = 0
theorem one_some {more : Sta → List Bool → Fd} {s : Sta} {i : Nat} {before on : List Bool} {x : Int × Plan} (h : t.one more s i before on = some x) : t.doE s i before on = 0 ∧ ∃ c p, more (t.doD s i before on).s on = some (c, p) ∧ x = ((t.doD s i before on).cost + c, on :: p) := by
  unfold RTk.one at h
  by_cases h0 : t.doE s i before on = 0
  · rw [if_pos h0] at h
    cases h1 : more (t.doD s i before on).s on with
    | none => rw [h1] at h; cases h
    | some y => rw [h1] at h; cases h; exact ⟨h0, _, _, rfl, rfl⟩
  · rw [if_neg h0] at h; cases h
theorem one_of {more : Sta → List Bool → Fd} {s : Sta} {i : Nat} {before on : List Bool} {c : Int} {p : Plan} (h0 : t.doE s i before on = 0) (h1 : more (t.doD s i before on).s on = some (c, p)) : t.one more s i before on = some ((t.doD s i before on).cost + c, on :: p) := by
  unfold RTk.one
  rw [if_pos h0, h1]
theorem flw_eq (i : Nat) (s : Sta) (before on : List Bool) (r : Plan) : t.flw i s before (on :: r) = if t.doE s i before on = 0 then ((t.doD s i before on) :: (t.flw (i + 1) (t.doD s i before on).s on r).1, (t.flw (i + 1) (t.doD s i before on).s on r).2) else ([], t.doE s i before on) := rfl
theorem flw_cons {i : Nat} {s : Sta} {before on : List Bool} {r : Plan} (h : (t.flw i s before (on :: r)).2 = 0) : t.doE s i before on = 0 ∧ (t.flw (i + 1) (t.doD s i before on).s on r).2 = 0 ∧ (t.flw i s before (on :: r)).1 = t.doD s i before on :: (t.flw (i + 1) (t.doD s i before on).s on r).1 := by
  rw [flw_eq] at h ⊢
  by_cases h0 : t.doE s i before on = 0
  · rw [if_pos h0] at h ⊢; exact ⟨h0, h, rfl⟩
  · rw [if_neg h0] at h; exact absurd h h0
theorem flw_cons_of {i : Nat} {s : Sta} {before on : List Bool} {r : Plan} (h0 : t.doE s i before on = 0) : t.flw i s before (on :: r) = (t.doD s i before on :: (t.flw (i + 1) (t.doD s i before on).s on r).1, (t.flw (i + 1) (t.doD s i before on).s on r).2) := by
  rw [flw_eq, if_pos h0]
/-- what rest finds is a good plan of that cost. -/
theorem rest_good : ∀ {k : Nat} {s : Sta} {before : List Bool} {c : Int} {p : Plan}, k ≤ t.n → t.rest k s before = some (c, p) → GoodP t k s before p ∧ costs (t.flw (t.n - k) s before p).1 = c := by
  intro k
  induction k with
  | zero =>
    intro s before c p _ h
    cases h
    exact ⟨GoodP.mk rfl (fun _ h => nomatch h) rfl, rfl⟩
  | succ k ih =>
    intro s before c p hk h
    unfold RTk.rest at h
    obtain ⟨i, hi, h1, _, _⟩ := pick_some h
    obtain ⟨h0, c', p', h2, e⟩ := one_some h1
    cases e
    obtain ⟨g, hc⟩ := ih (by omega) h2
    have e1 : t.n - (k + 1) + 1 = t.n - k := by omega
    refine ⟨⟨by simp [g.len], fun on hon => ?_, ?_⟩, ?_⟩
    · rcases List.mem_cons.1 hon with rfl | hon
      · exact chc_len _ _
      · exact g.row on hon
    · rw [flw_cons_of h0, e1]; exact g.ok
    · rw [flw_cons_of h0, e1, costs_cons, hc]
/-- no good plan costs less; one that costs as little is this one, or comes behind it. -/
def PBef (p q : Plan) : Prop := ∃ i : Nat, (∀ j : Nat, j < i → p[j]? = q[j]?) ∧ ∃ a b, p[i]? = some a ∧ q[i]? = some b ∧ Bef a b
/-- the first tick of what rest finds, and the rest of it. -/
theorem rest_next {k : Nat} {s : Sta} {before : List Bool} {c : Int} {p : Plan} (h : t.rest (k + 1) s before = some (c, p)) : ∃ on p', p = on :: p' ∧ t.doE s (t.n - (k + 1)) before on = 0 ∧ t.rest k (t.doD s (t.n - (k + 1)) before on).s on = some (c - (t.doD s (t.n - (k + 1)) before on).cost, p') := by
  unfold RTk.rest at h
  obtain ⟨i, hi, h1, _, _⟩ := pick_some h
  obtain ⟨h0, c', p', h2, e⟩ := one_some h1
  cases e
  exact ⟨_, p', rfl, h0, by rw [h2]; congr 2; omega⟩
end
end Go.Proofs.Ytmckmlmfilmiaaa.Bs
/-
  How a task of run-off lies in memory.
-/
namespace Go.Proofs.Ytmckmlmfilmiaaa.X
open Go Go.RowKit Go.Proofs.Ytmckmlmfilmiaaa.Bs
set_option linter.unusedVariables false
def boolK : Kind Bool := ⟨4, 1, fun b => [.bool b], fun _ => [], fun _ => rfl⟩
def sluC (x : Slu) : List Value := [.string x.name, .int .i64 x.width, .int .i64 x.move]
def pmpC (x : Pmp) : List Value := [.string x.name, .int .i64 x.rate, .int .i64 x.base, .int .i64 x.lift, .int .i64 x.start]
def sluK : Kind Slu := ⟨144, 3, sluC, fun _ => [], fun _ => rfl⟩
def pmpK : Kind Pmp := ⟨42, 5, pmpC, fun _ => [], fun _ => rfl⟩
def _root_.Go.Proofs.Ytmckmlmfilmiaaa.Bs.Dev.ty : Dev → Nat
  | .slu _ => 156
  | .pmp _ => 157
def _root_.Go.Proofs.Ytmckmlmfilmiaaa.Bs.Dev.c : Dev → List Value
  | .slu x => sluC x
  | .pmp x => pmpC x
def devV (d : Dev) : Value := .iface d.ty (.agg ⟨d.c⟩)
def devK : Kind Dev := ⟨107, 1, fun d => [devV d], fun _ => [], fun _ => rfl⟩
structure RTV where
  p : BV
  q : SV
  o : SV
  r : SV
  c : SV
  su : SV
  pu : SV
  on : SV
def RTV.n (v : RTV) : List Value := [.slice v.o.A v.o.n v.o.c, .slice v.r.A v.r.n v.r.c, .slice v.c.A v.c.n v.c.c]
def tskC (v : RTV) (t : RTk) : List Value :=
  [.slice v.p.A v.p.n v.p.c, .int .i64 t.b.leak, .int .i64 t.b.crest, .int .i64 t.b.over, .slice v.p.A2 v.p.n2 v.p.c2, .int .i64 t.s.vol, .slice v.q.A v.q.n v.q.c, .slice v.o.A v.o.n v.o.c, .slice v.r.A v.r.n v.r.c, .slice v.c.A v.c.n v.c.c, .int .i64 t.low, .int .i64 t.high, .slice v.su.A v.su.n v.su.c, .slice v.pu.A v.pu.n v.pu.c, .slice v.on.A v.on.n v.on.c]
def tskV (v : RTV) (t : RTk) : Value := .agg ⟨tskC v t⟩
structure TskAt (w : World) (B : Nat) (v : RTV) (t : RTk) : Prop where
  bas : BasAt w B v.p t.b
  fil : IntsAt w (Lt B) v.q t.s.fil
  outer : IntsAt w (Lt B) v.o t.outer
  river : IntsAt w (Lt B) v.r t.river
  prices : IntsAt w (Lt B) v.c t.prices
  slu : ListAt sluK w (Lt B) v.su t.slu
  pmp : ListAt pmpK w (Lt B) v.pu t.pmp
  on : ListAt boolK w (Lt B) v.on t.on
  names : ∀ d, d ∈ t.devs → d.name.size ≤ 9223372036854775807
section
variable {w w' w0 : World} {B B' : Nat} {v : RTV} {t : RTk} {L : Lo}
theorem TskAt.below (h : TskAt w B v t) (hb : Below B w w') : TskAt w' B v t :=
  ⟨h.bas.below hb, h.fil.keep fun k hk => hb.block k hk, h.outer.keep fun k hk => hb.block k hk, h.river.keep fun k hk => hb.block k hk, h.prices.keep fun k hk => hb.block k hk, h.slu.below hb, h.pmp.below hb, h.on.below hb, h.names⟩
theorem TskAt.more (h : TskAt w B v t) (hB : B ≤ B') : TskAt w B' v t :=
  ⟨h.bas.more hB, h.fil.mono fun k hk => Nat.lt_of_lt_of_le hk hB, h.outer.mono fun k hk => Nat.lt_of_lt_of_le hk hB, h.river.mono fun k hk => Nat.lt_of_lt_of_le hk hB, h.prices.mono fun k hk => Nat.lt_of_lt_of_le hk hB, h.slu.mono fun k hk => Nat.lt_of_lt_of_le hk hB, h.pmp.mono fun k hk => Nat.lt_of_lt_of_le hk hB, h.on.mono fun k hk => Nat.lt_of_lt_of_le hk hB, h.names⟩
theorem TskAt.sys (h : TskAt w0 B v t) (S : Sys B w0 L w) : TskAt w w.heap.size v t := (h.below S.toBelow).more (Nat.le_trans S.base S.size)
end
end Go.Proofs.Ytmckmlmfilmiaaa.X
/-
  The walks of the devices' methods (runoff).
-/
namespace Go.Proofs.Ytmckmlmfilmiaaa.X
open Go Go.RowKit Go.Proofs.Ytmckmlmfilmiaaa.Bs
set_option linter.unusedVariables false
/-- a level inside, n / d, and one outside. -/
structure HeadOk (n d o : Int) : Prop where
  hd : 1 ≤ d ∧ d ≤ 1000000000
  hn : -20000000000000 ≤ n ∧ n ≤ 60000000000000
  hlo : -20000 * d ≤ n
  ho : -20000 ≤ o ∧ o ≤ 20000
section
variable {n d o : Int} (h : HeadOk n d o)
include h
theorem HeadOk.od : -20000000000000 ≤ o * d ∧ o * d ≤ 20000000000000 ∧ o * d ≤ 20000 * d := by
  have h1 := mul_bd (X := 20000) (Y := 1000000000) (x := o) (y := d) h.ho (by have := h.hd; omega)
  have h2 : o * d ≤ 20000 * d := Int.mul_le_mul_of_nonneg_right h.ho.2 (by have := h.hd; omega)
  omega
theorem HeadOk.ins : -40000000000000 ≤ n - o * d ∧ n - o * d ≤ 80000000000000 ∧ -(n - o * d) ≤ 40000 * d := by
  have h1 := h.od
  have h2 := h.hn
  have h3 := h.hlo
  omega
end
def headC (n d o : Int) : List Value := [.int .i64 n, .int .i64 d, .int .i64 o]
theorem rnout_any (n lo hi : Int) (w : World) :
    Calls Try.prog 42 #[.int .i64 n, .int .i64 lo, .int .i64 hi] w fun e w' => e = .returned (.bool (outB n lo hi)) ∧ Below w.heap.size w w' := by
  refine enter Try.func42 rfl Try.ntmps42 rfl ?_; simp only [frame, Nat.zero_add, Nat.reduceAdd]
  repeat (first | (refine M0 ?_; first | refine SL ?_ | refine SB fun _ _ => ?_) | (refine M1 ?_; first | refine SC ?_ | refine SD ?_) | (refine M2 ?_; refine SE ?_) | (refine M3 ?_; first | refine SG ?_ | refine SF ?_) | (refine M4 ?_; refine SR ?_) | (refine M5 ?_; first | exact M7 | refine YM ?_ | refine YN ?_ ?_))
  refine XL.split _ _ rfl (fun h => ?_) (fun h => ?_) <;> rw [h]
  · repeat (first | (refine M0 ?_; first | refine SL ?_ | refine SB fun _ _ => ?_) | (refine M1 ?_; first | refine SC ?_ | refine SD ?_) | (refine M2 ?_; refine SE ?_) | (refine M3 ?_; first | refine SG ?_ | refine SF ?_) | (refine M4 ?_; refine SR ?_) | (refine M5 ?_; first | exact M7 | refine YM ?_ | refine YN ?_ ?_))
    refine XE.retg tok Try.results42 rfl (by simp only [and_self, and_true]) (fun w' S => ?_)
    exact ⟨by unfold outB; rw [h]; rfl, S.toBelow⟩
  · repeat (first | (refine M0 ?_; first | refine SL ?_ | refine SB fun _ _ => ?_) | (refine M1 ?_; first | refine SC ?_ | refine SD ?_) | (refine M2 ?_; refine SE ?_) | (refine M3 ?_; first | refine SG ?_ | refine SF ?_) | (refine M4 ?_; refine SR ?_) | (refine M5 ?_; first | exact M7 | refine YM ?_ | refine YN ?_ ?_))
    refine XE.retg tok Try.results42 rfl (by simp only [and_self, and_true]) (fun w' S => ?_)
    exact ⟨by unfold outB; rw [h]; rfl, S.toBelow⟩
theorem inside_any {n d o : Int} (h : HeadOk n d o) (w : World) :
    Calls Try.prog 153 #[.agg ⟨headC n d o⟩] w fun e w' => e = .returned (.int .i64 (n - o * d)) ∧ Below w.heap.size w w' := by
  have h1 := h.od
  have h2 := h.ins
  simp only [headC]
  refine enter Try.func153 rfl Try.ntmps153 rfl ?_; simp only [frame, Nat.zero_add, Nat.reduceAdd]
  repeat (first | (refine M0 ?_; first | refine SL ?_ | refine SB fun _ _ => ?_) | (refine M1 ?_; first | refine SC ?_ | refine SD ?_) | (refine M2 ?_; refine SE ?_) | (refine M3 ?_; first | refine SG ?_ | refine SF ?_) | (refine M4 ?_; refine SR ?_) | (refine M5 ?_; first | exact M7 | refine YM ?_ | refine YN ?_ ?_))
  refine XE.retg tok Try.results153 rfl (by simp only [and_self, and_true]) (fun w' S => ?_)
  exact ⟨rfl, S.toBelow⟩
theorem sname_any (x : Slu) (w : World) :
    Calls Try.prog 151 #[.agg ⟨sluC x⟩] w fun e w' => e = .returned (.string x.name) ∧ Below w.heap.size w w' := by
  simp only [sluC]
  refine enter Try.func151 rfl Try.ntmps151 rfl ?_; simp only [frame, Nat.zero_add, Nat.reduceAdd]
  repeat (first | (refine M0 ?_; first | refine SL ?_ | refine SB fun _ _ => ?_) | (refine M1 ?_; first | refine SC ?_ | refine SD ?_) | (refine M2 ?_; refine SE ?_) | (refine M3 ?_; first | refine SG ?_ | refine SF ?_) | (refine M4 ?_; refine SR ?_) | (refine M5 ?_; first | exact M7 | refine YM ?_ | refine YN ?_ ?_))
  refine XE.retg tok Try.results151 rfl (by simp only [and_self, and_true]) (fun w' S => ?_)
  exact ⟨rfl, S.toBelow⟩
theorem pname_any (x : Pmp) (w : World) :
    Calls Try.prog 156 #[.agg ⟨pmpC x⟩] w fun e w' => e = .returned (.string x.name) ∧ Below w.heap.size w w' := by
  simp only [pmpC]
  refine enter Try.func156 rfl Try.ntmps156 rfl ?_; simp only [frame, Nat.zero_add, Nat.reduceAdd]
  repeat (first | (refine M0 ?_; first | refine SL ?_ | refine SB fun _ _ => ?_) | (refine M1 ?_; first | refine SC ?_ | refine SD ?_) | (refine M2 ?_; refine SE ?_) | (refine M3 ?_; first | refine SG ?_ | refine SF ?_) | (refine M4 ?_; refine SR ?_) | (refine M5 ?_; first | exact M7 | refine YM ?_ | refine YN ?_ ?_))
  refine XE.retg tok Try.results156 rfl (by simp only [and_self, and_true]) (fun w' S => ?_)
  exact ⟨rfl, S.toBelow⟩
theorem outP {n lo hi : Int} {b : Bool} (e : outB n lo hi = b) (w : World) :
    Calls Try.prog 42 #[.int .i64 n, .int .i64 lo, .int .i64 hi] w fun e w' => e = .returned (.bool b) ∧ Below w.heap.size w w' := by
  subst e; exact rnout_any n lo hi w
theorem swild_any (x : Slu) (w : World) :
    Calls Try.prog 152 #[.agg ⟨sluC x⟩] w fun e w' => e = .returned (.bool (sluWild x)) ∧ Below w.heap.size w w' := by
  simp only [sluC]
  refine enter Try.func152 rfl Try.ntmps152 rfl ?_; simp only [frame, Nat.zero_add, Nat.reduceAdd]
  cases e0 : outB x.width 0 10000 with
  | true =>
    repeat (first | (refine M0 ?_; first | refine SL ?_ | refine SB fun _ _ => ?_ | refine Y4 (Ev.call (f := 42) (vs := [.int .i64 x.width, .int .i64 0, .int .i64 10000]) (ck rfl) rfl (fun w S => outP e0 w)) ?_) | (refine M1 ?_; first | refine SC ?_ | refine SD ?_) | (refine M2 ?_; refine SE ?_) | (refine M3 ?_; first | refine SG ?_ | refine SF ?_ | refine YF (Ev.call (f := 42) (vs := [.int .i64 x.width, .int .i64 0, .int .i64 10000]) (ck rfl) rfl (fun w S => outP e0 w)) ?_) | (refine M4 ?_; refine SR ?_) | (refine M5 ?_; first | exact M7 | refine YM ?_ | refine YN ?_ ?_))
    refine XE.retg tok Try.results152 rfl (by simp only [and_self, and_true]) (fun w' S => ?_)
    exact ⟨by rw [show sluWild x = true by simp only [sluWild, e0, Bool.true_or]]; rfl, S.toBelow⟩
  | false =>
    repeat (first | (refine M0 ?_; first | refine SL ?_ | refine SB fun _ _ => ?_ | refine Y4 (Ev.call (f := 42) (vs := [.int .i64 x.width, .int .i64 0, .int .i64 10000]) (ck rfl) rfl (fun w S => outP e0 w)) ?_ | refine Y4 (Ev.call (f := 42) (vs := [.int .i64 x.move, .int .i64 0, .int .i64 100000]) (ck rfl) rfl (fun w S => rnout_any _ _ _ w)) ?_) | (refine M1 ?_; first | refine SC ?_ | refine SD ?_) | (refine M2 ?_; refine SE ?_) | (refine M3 ?_; first | refine SG ?_ | refine SF ?_ | refine YF (Ev.call (f := 42) (vs := [.int .i64 x.width, .int .i64 0, .int .i64 10000]) (ck rfl) rfl (fun w S => outP e0 w)) ?_ | refine YF (Ev.call (f := 42) (vs := [.int .i64 x.move, .int .i64 0, .int .i64 100000]) (ck rfl) rfl (fun w S => rnout_any _ _ _ w)) ?_) | (refine M4 ?_; refine SR ?_) | (refine M5 ?_; first | exact M7 | refine YM ?_ | refine YN ?_ ?_))
    refine XE.retg tok Try.results152 rfl (by simp only [and_self, and_true]) (fun w' S => ?_)
    exact ⟨by rw [show sluWild x = outB x.move 0 100000 by simp only [sluWild, e0, Bool.false_or]]; rfl, S.toBelow⟩
theorem pwild_any (x : Pmp) (w : World) :
    Calls Try.prog 157 #[.agg ⟨pmpC x⟩] w fun e w' => e = .returned (.bool (pmpWild x)) ∧ Below w.heap.size w w' := by
  simp only [pmpC]
  refine enter Try.func157 rfl Try.ntmps157 rfl ?_; simp only [frame, Nat.zero_add, Nat.reduceAdd]
  cases e0 : outB x.rate 0 10000000 with
  | true =>
    repeat (first | (refine M0 ?_; first | refine SL ?_ | refine SB fun _ _ => ?_ | refine Y4 (Ev.call (f := 42) (vs := [.int .i64 x.rate, .int .i64 0, .int .i64 10000000]) (ck rfl) rfl (fun w S => outP e0 w)) ?_) | (refine M1 ?_; first | refine SC ?_ | refine SD ?_) | (refine M2 ?_; refine SE ?_) | (refine M3 ?_; first | refine SG ?_ | refine SF ?_ | refine YF (Ev.call (f := 42) (vs := [.int .i64 x.rate, .int .i64 0, .int .i64 10000000]) (ck rfl) rfl (fun w S => outP e0 w)) ?_) | (refine M4 ?_; refine SR ?_) | (refine M5 ?_; first | exact M7 | refine YM ?_ | refine YN ?_ ?_))
    refine XE.retg tok Try.results157 rfl (by simp only [and_self, and_true]) (fun w' S => ?_)
    exact ⟨by rw [show pmpWild x = true by simp only [pmpWild, e0, Bool.true_or]]; rfl, S.toBelow⟩
  | false =>
  cases e1 : outB x.base 0 100000 with
  | true =>
    repeat (first | (refine M0 ?_; first | refine SL ?_ | refine SB fun _ _ => ?_ | refine Y4 (Ev.call (f := 42) (vs := [.int .i64 x.rate, .int .i64 0, .int .i64 10000000]) (ck rfl) rfl (fun w S => outP e0 w)) ?_ | refine Y4 (Ev.call (f := 42) (vs := [.int .i64 x.base, .int .i64 0, .int .i64 100000]) (ck rfl) rfl (fun w S => outP e1 w)) ?_) | (refine M1 ?_; first | refine SC ?_ | refine SD ?_) | (refine M2 ?_; refine SE ?_) | (refine M3 ?_; first | refine SG ?_ | refine SF ?_ | refine YF (Ev.call (f := 42) (vs := [.int .i64 x.rate, .int .i64 0, .int .i64 10000000]) (ck rfl) rfl (fun w S => outP e0 w)) ?_ | refine YF (Ev.call (f := 42) (vs := [.int .i64 x.base, .int .i64 0, .int .i64 100000]) (ck rfl) rfl (fun w S => outP e1 w)) ?_) | (refine M4 ?_; refine SR ?_) | (refine M5 ?_; first | exact M7 | refine YM ?_ | refine YN ?_ ?_))
    refine XE.retg tok Try.results157 rfl (by simp only [and_self, and_true]) (fun w' S => ?_)
    exact ⟨by rw [show pmpWild x = true by simp only [pmpWild, e0, e1, Bool.true_or, Bool.false_or]]; rfl, S.toBelow⟩
  | false =>
  cases e2 : outB x.lift 0 100000 with
  | true =>
    repeat (first | (refine M0 ?_; first | refine SL ?_ | refine SB fun _ _ => ?_ | refine Y4 (Ev.call (f := 42) (vs := [.int .i64 x.rate, .int .i64 0, .int .i64 10000000]) (ck rfl) rfl (fun w S => outP e0 w)) ?_ | refine Y4 (Ev.call (f := 42) (vs := [.int .i64 x.base, .int .i64 0, .int .i64 100000]) (ck rfl) rfl (fun w S => outP e1 w)) ?_ | refine Y4 (Ev.call (f := 42) (vs := [.int .i64 x.lift, .int .i64 0, .int .i64 100000]) (ck rfl) rfl (fun w S => outP e2 w)) ?_) | (refine M1 ?_; first | refine SC ?_ | refine SD ?_) | (refine M2 ?_; refine SE ?_) | (refine M3 ?_; first | refine SG ?_ | refine SF ?_ | refine YF (Ev.call (f := 42) (vs := [.int .i64 x.rate, .int .i64 0, .int .i64 10000000]) (ck rfl) rfl (fun w S => outP e0 w)) ?_ | refine YF (Ev.call (f := 42) (vs := [.int .i64 x.base, .int .i64 0, .int .i64 100000]) (ck rfl) rfl (fun w S => outP e1 w)) ?_ | refine YF (Ev.call (f := 42) (vs := [.int .i64 x.lift, .int .i64 0, .int .i64 100000]) (ck rfl) rfl (fun w S => outP e2 w)) ?_) | (refine M4 ?_; refine SR ?_) | (refine M5 ?_; first | exact M7 | refine YM ?_ | refine YN ?_ ?_))
    refine XE.retg tok Try.results157 rfl (by simp only [and_self, and_true]) (fun w' S => ?_)
    exact ⟨by rw [show pmpWild x = true by simp only [pmpWild, e0, e1, e2, Bool.true_or, Bool.false_or]]; rfl, S.toBelow⟩
  | false =>
    repeat (first | (refine M0 ?_; first | refine SL ?_ | refine SB fun _ _ => ?_ | refine Y4 (Ev.call (f := 42) (vs := [.int .i64 x.rate, .int .i64 0, .int .i64 10000000]) (ck rfl) rfl (fun w S => outP e0 w)) ?_ | refine Y4 (Ev.call (f := 42) (vs := [.int .i64 x.base, .int .i64 0, .int .i64 100000]) (ck rfl) rfl (fun w S => outP e1 w)) ?_ | refine Y4 (Ev.call (f := 42) (vs := [.int .i64 x.lift, .int .i64 0, .int .i64 100000]) (ck rfl) rfl (fun w S => outP e2 w)) ?_ | refine Y4 (Ev.call (f := 42) (vs := [.int .i64 x.start, .int .i64 0, .int .i64 100000]) (ck rfl) rfl (fun w S => rnout_any _ _ _ w)) ?_) | (refine M1 ?_; first | refine SC ?_ | refine SD ?_) | (refine M2 ?_; refine SE ?_) | (refine M3 ?_; first | refine SG ?_ | refine SF ?_ | refine YF (Ev.call (f := 42) (vs := [.int .i64 x.rate, .int .i64 0, .int .i64 10000000]) (ck rfl) rfl (fun w S => outP e0 w)) ?_ | refine YF (Ev.call (f := 42) (vs := [.int .i64 x.base, .int .i64 0, .int .i64 100000]) (ck rfl) rfl (fun w S => outP e1 w)) ?_ | refine YF (Ev.call (f := 42) (vs := [.int .i64 x.lift, .int .i64 0, .int .i64 100000]) (ck rfl) rfl (fun w S => outP e2 w)) ?_ | refine YF (Ev.call (f := 42) (vs := [.int .i64 x.start, .int .i64 0, .int .i64 100000]) (ck rfl) rfl (fun w S => rnout_any _ _ _ w)) ?_) | (refine M4 ?_; refine SR ?_) | (refine M5 ?_; first | exact M7 | refine YM ?_ | refine YN ?_ ?_))
    refine XE.retg tok Try.results157 rfl (by simp only [and_self, and_true]) (fun w' S => ?_)
    exact ⟨by rw [show pmpWild x = outB x.start 0 100000 by simp only [pmpWild, e0, e1, e2, Bool.false_or]]; rfl, S.toBelow⟩
/-- what flow answers. -/
def flowV : Option Int → Value
  | none => .tuple ⟨[.int .i64 0, .bool false]⟩
  | some f => .tuple ⟨[.int .i64 f, .bool true]⟩
theorem tdiv_sml {a b : Int} (hb : 1 ≤ b) (ha : 0 ≤ a) : 0 ≤ a.tdiv b ∧ a.tdiv b ≤ a := by
  have h1 := tdiv_bd (a := a) hb
  have h2 := Int.tdiv_nonneg ha (by omega : 0 ≤ b)
  omega
theorem sflow_any {x : Slu} {n d o : Int} (h : HeadOk n d o) (hx : DevOk (.slu x)) (w : World) :
    Calls Try.prog 150 #[.agg ⟨sluC x⟩, .agg ⟨headC n d o⟩] w fun e w' => e = .returned (flowV ((Dev.slu x).flow n d o)) ∧ Below w.heap.size w w' := by
  have h2 := h.ins
  have hd := h.hd
  simp only [sluC, headC]
  refine enter Try.func150 rfl Try.ntmps150 rfl ?_; simp only [frame, Nat.zero_add, Nat.reduceAdd]
  repeat (first | (refine M0 ?_; first | refine SL ?_ | refine SB fun _ _ => ?_ | refine Y4 (Ev.call (f := 153) (ck rfl) rfl (fun w S => inside_any h w)) ?_) | (refine M1 ?_; first | refine SC ?_ | refine SD ?_) | (refine M2 ?_; refine SE ?_) | (refine M3 ?_; first | refine SG ?_ | refine SF ?_ | refine YF (Ev.call (f := 153) (ck rfl) rfl (fun w S => inside_any h w)) ?_) | (refine M4 ?_; refine SR ?_) | (refine M5 ?_; first | exact M7 | refine YM ?_ | refine YN ?_ ?_))
  refine XC.cond _ rfl (fun h1 => ?_) (fun h1 => ?_)
  · repeat (first | (refine M0 ?_; first | refine SL ?_ | refine SB fun _ _ => ?_) | (refine M1 ?_; first | refine SC ?_ | refine SD ?_) | (refine M2 ?_; refine SE ?_) | (refine M3 ?_; first | refine SG ?_ | refine SF ?_) | (refine M4 ?_; refine SR ?_) | (refine M5 ?_; first | exact M7 | refine YM ?_ | refine YN ?_ ?_))
    refine XE.retg tok Try.results150 rfl (by simp only [and_self, and_true]) (fun w' S => ?_)
    exact ⟨by rw [show (Dev.slu x).flow n d o = none by simp only [Dev.flow]; rw [if_pos (of_decide_eq_true h1)]]; rfl, S.toBelow⟩
  · have h3 : ¬ n - o * d ≤ 0 := of_decide_eq_false h1
    have h4 := mul_bd (X := 10000) (Y := 80000000000000) (x := x.width) (y := n - o * d) (by have := hx.1; omega) (by omega)
    have h5 : 0 ≤ x.width * (n - o * d) := Int.mul_nonneg hx.1.1 (by omega)
    have h6 := tdiv_sml hd.1 h5
    repeat (first | (refine M0 ?_; first | refine SL ?_ | refine SB fun _ _ => ?_ | refine Y4 (Ev.call (f := 153) (ck rfl) rfl (fun w S => inside_any h w)) ?_) | (refine M1 ?_; first | refine SC ?_ | refine SD ?_) | (refine M2 ?_; refine SE ?_) | (refine M3 ?_; first | refine SG ?_ | refine SF ?_ | refine YF (Ev.call (f := 153) (ck rfl) rfl (fun w S => inside_any h w)) ?_) | (refine M4 ?_; refine SR ?_) | (refine M5 ?_; first | exact M7 | refine YM ?_ | refine YN ?_ ?_))
    refine XE.retg tok Try.results150 rfl (by simp only [and_self, and_true]) (fun w' S => ?_)
    exact ⟨by rw [show (Dev.slu x).flow n d o = some ((x.width * (n - o * d)).tdiv d) by simp only [Dev.flow]; rw [if_neg h3]]; rfl, S.toBelow⟩
theorem pflow_any {x : Pmp} {n d o : Int} (w : World) :
    Calls Try.prog 155 #[.agg ⟨pmpC x⟩, .agg ⟨headC n d o⟩] w fun e w' => e = .returned (flowV ((Dev.pmp x).flow n d o)) ∧ Below w.heap.size w w' := by
  simp only [pmpC, headC]
  refine enter Try.func155 rfl Try.ntmps155 rfl ?_; simp only [frame, Nat.zero_add, Nat.reduceAdd]
  repeat (first | (refine M0 ?_; first | refine SL ?_ | refine SB fun _ _ => ?_) | (refine M1 ?_; first | refine SC ?_ | refine SD ?_) | (refine M2 ?_; refine SE ?_) | (refine M3 ?_; first | refine SG ?_ | refine SF ?_) | (refine M4 ?_; refine SR ?_) | (refine M5 ?_; first | exact M7 | refine YM ?_ | refine YN ?_ ?_))
  refine XE.retg tok Try.results155 rfl (by simp only [and_self, and_true]) (fun w' S => ?_)
  exact ⟨rfl, S.toBelow⟩
theorem senergy_any {x : Slu} {n d o : Int} {before on : Bool} (w : World) :
    Calls Try.prog 149 #[.agg ⟨sluC x⟩, .agg ⟨headC n d o⟩, .bool before, .bool on] w fun e w' => e = .returned (.int .i64 ((Dev.slu x).energy n d o before on)) ∧ Below w.heap.size w w' := by
  simp only [sluC, headC]
  refine enter Try.func149 rfl Try.ntmps149 rfl ?_; simp only [frame, Nat.zero_add, Nat.reduceAdd]
  repeat (first | (refine M0 ?_; first | refine SL ?_ | refine SB fun _ _ => ?_ | refine Y4 (Ev.eqlB Try.underlying4 rfl rfl) ?_) | (refine M1 ?_; first | refine SC ?_ | refine SD ?_) | (refine M2 ?_; refine SE ?_) | (refine M3 ?_; first | refine SG ?_ | refine SF ?_ | refine YF (Ev.eqlB Try.underlying4 rfl rfl) ?_) | (refine M4 ?_; refine SR ?_) | (refine M5 ?_; first | exact M7 | refine YM ?_ | refine YN ?_ ?_))
  refine XC.cond _ rfl (fun h1 => ?_) (fun h1 => ?_)
  · repeat (first | (refine M0 ?_; first | refine SL ?_ | refine SB fun _ _ => ?_) | (refine M1 ?_; first | refine SC ?_ | refine SD ?_) | (refine M2 ?_; refine SE ?_) | (refine M3 ?_; first | refine SG ?_ | refine SF ?_) | (refine M4 ?_; refine SR ?_) | (refine M5 ?_; first | exact M7 | refine YM ?_ | refine YN ?_ ?_))
    refine XE.retg tok Try.results149 rfl (by simp only [and_self, and_true]) (fun w' S => ?_)
    exact ⟨by simp only [Dev.energy]; rw [if_pos (by simpa using h1)]; rfl, S.toBelow⟩
  · repeat (first | (refine M0 ?_; first | refine SL ?_ | refine SB fun _ _ => ?_) | (refine M1 ?_; first | refine SC ?_ | refine SD ?_) | (refine M2 ?_; refine SE ?_) | (refine M3 ?_; first | refine SG ?_ | refine SF ?_) | (refine M4 ?_; refine SR ?_) | (refine M5 ?_; first | exact M7 | refine YM ?_ | refine YN ?_ ?_))
    refine XE.retg tok Try.results149 rfl (by simp only [and_self, and_true]) (fun w' S => ?_)
    exact ⟨by simp only [Dev.energy]; rw [if_neg (by simpa using h1)]; rfl, S.toBelow⟩
/-- what the lift takes. -/
theorem lift_bd {x l d : Int} (hd : 1 ≤ d ∧ d ≤ 1000000000) (hl : 0 ≤ l ∧ l ≤ 100000) (hx : 0 ≤ x ∧ x ≤ 40000000000000 ∧ x ≤ 40000 * d) : (0 ≤ l * x ∧ l * x ≤ 4000000000000000000) ∧ 0 ≤ (l * x + d - 1).tdiv d ∧ (l * x + d - 1).tdiv d ≤ 4000000001 := by
  have h1 := mul_bd (X := 100000) (Y := 40000000000000) (x := l) (y := x) (by omega) (by omega)
  have h2 : 0 ≤ l * x := Int.mul_nonneg hl.1 hx.1
  have h3 : l * x ≤ 100000 * (40000 * d) := Int.le_trans (Int.mul_le_mul_of_nonneg_right hl.2 hx.1) (Int.mul_le_mul_of_nonneg_left hx.2.2 (by omega))
  have h4 : 0 ≤ (l * x + d - 1).tdiv d := Int.tdiv_nonneg (by omega) (by omega)
  refine ⟨by omega, h4, ?_⟩
  have h5 := (tdiv_mul (a := l * x + d - 1) hd.1).2.2.1 (by omega)
  have h6 : (l * x + d - 1).tdiv d * d ≤ 4000000001 * d := by omega
  exact Int.le_of_mul_le_mul_right h6 (by omega)
theorem penergy_any {x : Pmp} {n d o : Int} {before on : Bool} (h : HeadOk n d o) (hx : DevOk (.pmp x)) (w : World) :
    Calls Try.prog 154 #[.agg ⟨pmpC x⟩, .agg ⟨headC n d o⟩, .bool before, .bool on] w fun e w' => e = .returned (.int .i64 ((Dev.pmp x).energy n d o before on)) ∧ Below w.heap.size w w' := by
  have h2 := h.ins
  have hd := h.hd
  obtain ⟨_, x1, x2, x3⟩ := hx
  have h3 := lift_bd (x := max 0 (-(n - o * d))) (l := x.lift) hd x2 (by omega)
  simp only [pmpC, headC]
  refine enter Try.func154 rfl Try.ntmps154 rfl ?_; simp only [frame, Nat.zero_add, Nat.reduceAdd]
  cases on
  · repeat (first | (refine M0 ?_; first | refine SL ?_ | refine SB fun _ _ => ?_) | (refine M1 ?_; first | refine SC ?_ | refine SD ?_) | (refine M2 ?_; refine SE ?_) | (refine M3 ?_; first | refine SG ?_ | refine SF ?_) | (refine M4 ?_; refine SR ?_) | (refine M5 ?_; first | exact M7 | refine YM ?_ | refine YN ?_ ?_))
    refine XE.retg tok Try.results154 rfl (by simp only [and_self, and_true]) (fun w' S => ?_)
    exact ⟨rfl, S.toBelow⟩
  cases before
  all_goals
    repeat (first | (refine M0 ?_; first | refine SL ?_ | refine SB fun _ _ => ?_ | refine Y4 (Ev.call (f := 153) (ck rfl) rfl (fun w S => inside_any h w)) ?_) | (refine M1 ?_; first | refine SC ?_ | refine SD ?_) | (refine M2 ?_; refine SE ?_) | (refine M3 ?_; first | refine SG ?_ | refine SF ?_ | refine YF (Ev.call (f := 153) (ck rfl) rfl (fun w S => inside_any h w)) ?_) | (refine M4 ?_; refine SR ?_) | (refine M5 ?_; first | exact M7 | refine YM ?_ | refine YN ?_ ?_))
    refine XE.retg tok Try.results154 rfl (by simp only [and_self, and_true]) (fun w' S => ?_)
    exact ⟨by first | rfl | (simp only [Dev.energy, if_true, Bool.false_eq_true, if_false, Int.add_zero]; rfl), S.toBelow⟩
/-! ### a device, whichever it is -/
theorem dev_name (x : Dev) : ∃ f, methO Try.prog x.ty "barrage/runoff.name" = some f ∧ callOk Try.prog f = true ∧ ∀ w, Calls Try.prog f (Value.agg ⟨x.c⟩ :: []).toArray w fun e w' => e = .returned (.string x.name) ∧ Below w.heap.size w w' := by
  cases x with
  | slu x => exact ⟨151, by kernel_rfl, ck rfl, fun w => sname_any x w⟩
  | pmp x => exact ⟨156, by kernel_rfl, ck rfl, fun w => pname_any x w⟩
theorem dev_wild (x : Dev) : ∃ f, methO Try.prog x.ty "barrage/runoff.wild" = some f ∧ callOk Try.prog f = true ∧ ∀ w, Calls Try.prog f (Value.agg ⟨x.c⟩ :: []).toArray w fun e w' => e = .returned (.bool x.wild) ∧ Below w.heap.size w w' := by
  cases x with
  | slu x => exact ⟨152, by kernel_rfl, ck rfl, fun w => swild_any x w⟩
  | pmp x => exact ⟨157, by kernel_rfl, ck rfl, fun w => pwild_any x w⟩
theorem dev_flow {x : Dev} {n d o : Int} (h : HeadOk n d o) (hx : DevOk x) : ∃ f, methO Try.prog x.ty "barrage/runoff.flow" = some f ∧ callOk Try.prog f = true ∧ ∀ w, Calls Try.prog f (Value.agg ⟨x.c⟩ :: [.agg ⟨headC n d o⟩]).toArray w fun e w' => e = .returned (flowV (x.flow n d o)) ∧ Below w.heap.size w w' := by
  cases x with
  | slu x => exact ⟨150, by kernel_rfl, ck rfl, fun w => sflow_any h hx w⟩
  | pmp x => exact ⟨155, by kernel_rfl, ck rfl, fun w => pflow_any w⟩
theorem dev_energy {x : Dev} {n d o : Int} (before on : Bool) (h : HeadOk n d o) (hx : DevOk x) : ∃ f, methO Try.prog x.ty "barrage/runoff.energy" = some f ∧ callOk Try.prog f = true ∧ ∀ w, Calls Try.prog f (Value.agg ⟨x.c⟩ :: [.agg ⟨headC n d o⟩, .bool before, .bool on]).toArray w fun e w' => e = .returned (.int .i64 (x.energy n d o before on)) ∧ Below w.heap.size w w' := by
  cases x with
  | slu x => exact ⟨149, by kernel_rfl, ck rfl, fun w => senergy_any w⟩
  | pmp x => exact ⟨154, by kernel_rfl, ck rfl, fun w => penergy_any h hx w⟩
/-- bounds. -/
theorem flow_bd {x : Dev} {n d o f : Int} (h : HeadOk n d o) (hx : DevOk x) (e : x.flow n d o = some f) : 0 ≤ f ∧ f ≤ 800000000000000000 := by
  cases x with
  | slu x =>
    simp only [Dev.flow] at e
    split at e
    · cases e
    · rename_i h3
      cases e
      have h2 := h.ins
      have h4 := mul_bd (X := 10000) (Y := 80000000000000) (x := x.width) (y := n - o * d) (by have := hx.1; omega) (by omega)
      have h5 : 0 ≤ x.width * (n - o * d) := Int.mul_nonneg hx.1.1 (by omega)
      have h6 := tdiv_sml h.hd.1 h5
      omega
  | pmp x => simp only [Dev.flow, Option.some.injEq] at e; have := hx.1; omega
theorem energy_bd {x : Dev} {n d o : Int} (before on : Bool) (h : HeadOk n d o) (hx : DevOk x) : 0 ≤ x.energy n d o before on ∧ x.energy n d o before on ≤ 5000000000 := by
  have h2 := h.ins
  have hd := h.hd
  cases x with
  | slu x => have := hx.2; simp only [Dev.energy]; split <;> omega
  | pmp x =>
    obtain ⟨_, x1, x2, x3⟩ := hx
    have h3 := lift_bd (x := max 0 (-(n - o * d))) (l := x.lift) h.hd x2 (by omega)
    simp only [Dev.energy]
    split
    · split <;> omega
    · omega
end Go.Proofs.Ytmckmlmfilmiaaa.X
/-
  The walks of devices, kinds and Check's closure (runoff).
-/
namespace Go.Proofs.Ytmckmlmfilmiaaa.X
open Go Go.RowKit Go.Proofs.Ytmckmlmfilmiaaa.Bs
set_option linter.unusedVariables false
theorem dev_el : elemOk Try.prog 102 devK.ty devK.m 16 = true := by kernel_rfl
theorem slu_con : conB (Try.prog.underlying 156) = true := by kernel_rfl
theorem pmp_con : conB (Try.prog.underlying 157) = true := by kernel_rfl
def DevsV (ds : List Dev) (v : Value) (new : List Held) : Prop := ∃ r : SV, v = svV r ∧ new = [hList devK r ds] ∧ (0 < ds.length → ds.length ≤ r.c)
theorem take_map_succ {α β : Type} (f : α → β) {l : List α} {k : Nat} (h : k < l.length) : (l.take (k + 1)).map f = (l.take k).map f ++ [f l[k]] := by
  rw [List.take_add_one, List.getElem?_eq_getElem h, List.map_append]; rfl
set_option maxHeartbeats 8000000 in
theorem devices_made {v : RTV} {t : RTk} {w : World} (ht : TskAt w w.heap.size v t) (hn : t.slu.length + t.pmp.length ≤ 5000000) :
    Calls Try.prog 43 #[tskV v t] w (Made w (DevsV t.devs)) := by
  obtain ⟨p, q, o, r, c, ⟨As, ns, cs⟩, ⟨Ap, np, cp⟩, on⟩ := v
  have hls := ht.slu.len (by decide)
  have hlp := ht.pmp.len (by decide)
  simp only at hls hlp
  subst hls hlp
  have hsl := ht.slu
  have hpl := ht.pmp
  simp only at hsl hpl
  simp only [tskV, tskC]
  refine enter Try.func43 rfl Try.ntmps43 rfl ?_; simp only [frame, Nat.zero_add, Nat.reduceAdd]
  repeat (first | (refine M0 ?_; first | refine SL ?_ | refine SB fun _ _ => ?_) | (refine M1 ?_; first | refine SC ?_ | refine SD ?_) | (refine M2 ?_; refine SE ?_) | (refine M3 ?_; first | refine SG ?_ | refine SF ?_) | (refine M4 ?_; refine SR ?_) | (refine M5 ?_; first | exact M7 | refine YM ?_ | refine YN ?_ ?_))
  rename_i g1 hg1
  refine XC.rebase (List.Sublist.refl _) (fun W0 S0 => ?_)
  have hl1 : ∀ (l : List Dev), l.length ≤ 5000000 → l.length + 1 ≤ 10000000 := fun l h => by omega
  have ha1 : ∀ (d : Dev) x, x ∈ devK.sl d → x ∈ ([] : List Held) := fun d x hx => hx
  refine XC.loopk [1, 8, 9] rfl (fun s : Nat × World × Value => [(10, .int .i64 (s.1 : Nat)), (2, s.2.2)]) (fun s => [(g1, _)]) (fun s => s.2.1)
    (fun s => s.1 ≤ t.slu.length ∧ Fam s.2.1 w.heap.size [g1] [⟨Dev, devK, s.2.2, (t.slu.take s.1).map Dev.slu⟩] [] ∧ Below w.heap.size w s.2.1 ∧ g1 < s.2.1.heap.size)
    (fun s => t.slu.length - s.1) (0, W0, .slice none 0 0) ⟨Nat.zero_le _, (Fam.start (ks := [g1]) S0.size).nil devK, S0.toBelow, S0.keyLt g1 (by simp)⟩ ZZSUB (fun _ h => h) ?_
  · rintro ⟨k, W, v⟩ ⟨hk, hF, hBW, hgW⟩
    simp only at hk hF hBW hgW
    dsimp only [List.cons_append, List.nil_append]
    repeat (first | (refine M0 ?_; first | refine SL ?_ | refine SB fun _ _ => ?_) | (refine M1 ?_; first | refine SC ?_ | refine SD ?_) | (refine M2 ?_; refine SE ?_) | (refine M3 ?_; first | refine SG ?_ | refine SF ?_) | (refine M4 ?_; refine SR ?_) | (refine M5 ?_; first | exact M7 | refine YM ?_ | refine YN ?_ ?_))
    refine XC.cond _ rfl (fun h1 => ?_) (fun h1 => ?_)
    · have hkn : k < t.slu.length := by simpa using h1
      obtain ⟨ad, rfl, hlt⟩ := hsl.addr (by decide) (by omega)
      obtain ⟨x, hx⟩ : ∃ x, x = t.slu[k] := ⟨_, rfl⟩
      have hcell : ∀ j u, (sluC x)[j]? = some u → W.cell? ((ad.add (k * 3)).add j) = some u := by rw [hx]; exact (hsl.below hBW).elem (List.getElem?_eq_getElem hkn)
      have hks : ∀ j, j ∈ [g1] → j < W.heap.size := fun j hj => by rw [List.mem_singleton.1 hj]; exact hgW
      simp only [sluC] at hcell
      repeat (first | (refine M0 ?_; first | refine SL ?_ | refine SB fun _ _ => ?_ | refine Y4 (Ev.load_old_agg tok _ rfl rfl rfl (add_lt hlt) hcell) ?_ | refine Y4 (Ev.makeI slu_con rfl) ?_ | refine XL.buildSlice tok rfl rfl rfl rfl rfl rfl rfl rfl rfl (fun _ _ => ?_)) | (refine M1 ?_; first | refine SC ?_ | refine SD ?_) | (refine M2 ?_; refine SE ?_) | (refine M3 ?_; first | refine SG ?_ | refine SF ?_ | refine YF (Ev.load_old_agg tok _ rfl rfl rfl (add_lt hlt) hcell) ?_ | refine YF (Ev.makeI slu_con rfl) ?_) | (refine M4 ?_; refine SR ?_) | (refine M5 ?_; first | exact M7 | refine YM ?_ | refine YN ?_ ?_))
      refine XL.push (K := devK) (a := Dev.slu x) (wE := w) 0 dev_el (by decide) rfl rfl rfl hF rfl hks hBW (Nat.le_refl _) rfl (hl1 _ (by rw [List.length_map, List.length_take]; omega)) (by decide) (ha1 _) (fun W1 u1 hF1 hB1 hk1 => ?_)
      repeat (first | (refine M0 ?_; first | refine SL ?_ | refine SB fun _ _ => ?_) | (refine M1 ?_; first | refine SC ?_ | refine SD ?_) | (refine M2 ?_; refine SE ?_) | (refine M3 ?_; first | refine SG ?_ | refine SF ?_) | (refine M4 ?_; refine SR ?_) | (refine M5 ?_; first | exact M7 | refine YM ?_ | refine YN ?_ ?_))
      refine XE.roundW (s := (k, W, v)) (fun w6 S6 => ⟨(k + 1, w6, u1), ⟨hkn, ?_, hB1.trans S6.toBelow, S6.keyLt g1 (by simp)⟩, by simp only; omega, ZZSUB, S6.rebase ZZSL⟩)
      simp only [take_map_succ Dev.slu hkn, ← hx]
      exact Fam.add (Fam.sys hF1 S6 ZZHL) ZZHK
    · have hkn : k = t.slu.length := by have : ¬ (k < t.slu.length) := by simpa using h1
                                        omega
      subst hkn
      rw [List.take_length] at hF
      repeat (first | (refine M0 ?_; first | refine SL ?_ | refine SB fun _ _ => ?_) | (refine M1 ?_; first | refine SC ?_ | refine SD ?_) | (refine M2 ?_; refine SE ?_) | (refine M3 ?_; first | refine SG ?_ | refine SF ?_) | (refine M4 ?_; refine SR ?_) | (refine M5 ?_; first | exact M7 | refine YM ?_ | refine YN ?_ ?_))
      refine XC.rebase (List.Sublist.refl _) (fun W2 S2 => ?_)
      refine XC.loopk [21, 22] rfl (fun s : Nat × World × Value => [(23, .int .i64 (s.1 : Nat)), (2, s.2.2)]) (fun s => [(g1, _)]) (fun s => s.2.1)
        (fun s => s.1 ≤ t.pmp.length ∧ Fam s.2.1 w.heap.size [g1] [⟨Dev, devK, s.2.2, t.slu.map Dev.slu ++ (t.pmp.take s.1).map Dev.pmp⟩] [] ∧ Below w.heap.size w s.2.1 ∧ g1 < s.2.1.heap.size)
        (fun s => t.pmp.length - s.1) (0, W2, v) ⟨Nat.zero_le _, by simpa using hF.sys S2 ZZHL, hBW.trans S2.toBelow, S2.keyLt g1 (by simp)⟩ ZZSUB (fun _ h => h) ?_
      rintro ⟨k, W, v⟩ ⟨hk, hF, hBW, hgW⟩
      simp only at hk hF hBW hgW
      dsimp only [List.cons_append, List.nil_append]
      repeat (first | (refine M0 ?_; first | refine SL ?_ | refine SB fun _ _ => ?_) | (refine M1 ?_; first | refine SC ?_ | refine SD ?_) | (refine M2 ?_; refine SE ?_) | (refine M3 ?_; first | refine SG ?_ | refine SF ?_) | (refine M4 ?_; refine SR ?_) | (refine M5 ?_; first | exact M7 | refine YM ?_ | refine YN ?_ ?_))
      refine XC.cond _ rfl (fun h1 => ?_) (fun h1 => ?_)
      · have hkn : k < t.pmp.length := by simpa using h1
        obtain ⟨ad, rfl, hlt⟩ := hpl.addr (by decide) (by omega)
        obtain ⟨x, hx⟩ : ∃ x, x = t.pmp[k] := ⟨_, rfl⟩
        have hcell : ∀ j u, (pmpC x)[j]? = some u → W.cell? ((ad.add (k * 5)).add j) = some u := by rw [hx]; exact (hpl.below hBW).elem (List.getElem?_eq_getElem hkn)
        have hks : ∀ j, j ∈ [g1] → j < W.heap.size := fun j hj => by rw [List.mem_singleton.1 hj]; exact hgW
        simp only [pmpC] at hcell
        repeat (first | (refine M0 ?_; first | refine SL ?_ | refine SB fun _ _ => ?_ | refine Y4 (Ev.load_old_agg tok _ rfl rfl rfl (add_lt hlt) hcell) ?_ | refine Y4 (Ev.makeI pmp_con rfl) ?_ | refine XL.buildSlice tok rfl rfl rfl rfl rfl rfl rfl rfl rfl (fun _ _ => ?_)) | (refine M1 ?_; first | refine SC ?_ | refine SD ?_) | (refine M2 ?_; refine SE ?_) | (refine M3 ?_; first | refine SG ?_ | refine SF ?_ | refine YF (Ev.load_old_agg tok _ rfl rfl rfl (add_lt hlt) hcell) ?_ | refine YF (Ev.makeI pmp_con rfl) ?_) | (refine M4 ?_; refine SR ?_) | (refine M5 ?_; first | exact M7 | refine YM ?_ | refine YN ?_ ?_))
        refine XL.push (K := devK) (a := Dev.pmp x) (wE := w) 0 dev_el (by decide) rfl rfl rfl hF rfl hks hBW (Nat.le_refl _) rfl (hl1 _ (by rw [List.length_append, List.length_map, List.length_map, List.length_take]; omega)) (by decide) (ha1 _) (fun W1 u1 hF1 hB1 hk1 => ?_)
        repeat (first | (refine M0 ?_; first | refine SL ?_ | refine SB fun _ _ => ?_) | (refine M1 ?_; first | refine SC ?_ | refine SD ?_) | (refine M2 ?_; refine SE ?_) | (refine M3 ?_; first | refine SG ?_ | refine SF ?_) | (refine M4 ?_; refine SR ?_) | (refine M5 ?_; first | exact M7 | refine YM ?_ | refine YN ?_ ?_))
        refine XE.roundW (s := (k, W, v)) (fun w6 S6 => ⟨(k + 1, w6, u1), ⟨hkn, ?_, hB1.trans S6.toBelow, S6.keyLt g1 (by simp)⟩, by simp only; omega, ZZSUB, S6.rebase ZZSL⟩)
        simp only [take_map_succ Dev.pmp hkn, ← hx, ← List.append_assoc]
        exact Fam.add (Fam.sys hF1 S6 ZZHL) ZZHK
      · have hkn : k = t.pmp.length := by have : ¬ (k < t.pmp.length) := by simpa using h1
                                          omega
        subst hkn
        rw [List.take_length] at hF
        repeat (first | (refine M0 ?_; first | refine SL ?_ | refine SB fun _ _ => ?_) | (refine M1 ?_; first | refine SC ?_ | refine SD ?_) | (refine M2 ?_; refine SE ?_) | (refine M3 ?_; first | refine SG ?_ | refine SF ?_) | (refine M4 ?_; refine SR ?_) | (refine M5 ?_; first | exact M7 | refine YM ?_ | refine YN ?_ ?_))
        refine XE.retg tok Try.results43 rfl (by simp only [and_self, and_true]) (fun w' S => ?_)
        have hF6 := hF.sys S ZZHL
        obtain ⟨r1, rfl, h5⟩ := hF6.list (.head _)
        exact ⟨_, _, rfl, ⟨r1, rfl, rfl, fun h0 => hF6.cap (r := r1) (.head _) h0⟩, fun x hx => by rw [List.mem_singleton.1 hx]; exact h5, hBW.trans S.toBelow⟩
/-! ### kinds -/
def isS : Dev → Bool
  | .slu _ => true
  | .pmp _ => false
def isP (d : Dev) : Bool := !isS d
theorem countP_succ (f : Dev → Bool) {l : List Dev} {k : Nat} (h : k < l.length) : (l.take (k + 1)).countP f = (l.take k).countP f + (if f l[k] = true then 1 else 0) := by
  rw [List.take_add_one, List.getElem?_eq_getElem h, List.countP_append]
  congr 1
  simp [List.countP_cons]
theorem count_devs (t : RTk) : t.devs.countP isS = t.slu.length ∧ t.devs.countP isP = t.pmp.length := by
  unfold RTk.devs
  rw [List.countP_append, List.countP_append, List.countP_map, List.countP_map, List.countP_map, List.countP_map]
  have e1 : t.slu.countP (isS ∘ Dev.slu) = t.slu.length := List.countP_eq_length.2 fun _ _ => rfl
  have e2 : t.pmp.countP (isS ∘ Dev.pmp) = 0 := List.countP_eq_zero.2 fun _ _ => by simp [isS]
  have e3 : t.slu.countP (isP ∘ Dev.slu) = 0 := List.countP_eq_zero.2 fun _ _ => by simp [isP, isS]
  have e4 : t.pmp.countP (isP ∘ Dev.pmp) = t.pmp.length := List.countP_eq_length.2 fun _ _ => rfl
  omega
set_option maxHeartbeats 4000000 in
theorem kinds_any {r : SV} {ds : List Dev} {w : World} (hr : ListAt devK w (Lt w.heap.size) r ds) (hn : ds.length ≤ 10000000) :
    Calls Try.prog 44 #[svV r] w fun e w' => e = .returned (.tuple ⟨[.int .i64 (ds.countP isS : Nat), .int .i64 (ds.countP isP : Nat)]⟩) ∧ Below w.heap.size w w' := by
  obtain ⟨A, n, c⟩ := r
  have hln := hr.len (by decide)
  simp only at hln
  subst hln
  simp only [svV]
  refine enter Try.func44 rfl Try.ntmps44 rfl ?_; simp only [frame, Nat.zero_add, Nat.reduceAdd]
  repeat (first | (refine M0 ?_; first | refine SL ?_ | refine SB fun _ _ => ?_) | (refine M1 ?_; first | refine SC ?_ | refine SD ?_) | (refine M2 ?_; refine SE ?_) | (refine M3 ?_; first | refine SG ?_ | refine SF ?_) | (refine M4 ?_; refine SR ?_) | (refine M5 ?_; first | exact M7 | refine YM ?_ | refine YN ?_ ?_))
  refine XC.loopk [6, 7] rfl (fun k : Nat => [(2, .int .i64 ((ds.take k).countP isS : Nat)), (3, .int .i64 ((ds.take k).countP isP : Nat)), (8, .int .i64 (k : Nat))]) (fun _ => []) (fun _ => w) (fun k => k ≤ ds.length) (fun k => ds.length - k) 0 (Nat.zero_le _) ZZSUB (fun _ h => h) ?_
  intro k hk
  dsimp only [List.cons_append, List.nil_append]
  repeat (first | (refine M0 ?_; first | refine SL ?_ | refine SB fun _ _ => ?_) | (refine M1 ?_; first | refine SC ?_ | refine SD ?_) | (refine M2 ?_; refine SE ?_) | (refine M3 ?_; first | refine SG ?_ | refine SF ?_) | (refine M4 ?_; refine SR ?_) | (refine M5 ?_; first | exact M7 | refine YM ?_ | refine YN ?_ ?_))
  refine XC.cond _ rfl (fun h1 => ?_) (fun h1 => ?_)
  · have hkn : k < ds.length := by simpa using h1
    obtain ⟨ad, rfl, hlt⟩ := hr.addr (by decide) (by omega)
    have h9 := hr.elem (List.getElem?_eq_getElem hkn) 0 (devV ds[k]) rfl
    rw [add_add, Nat.add_zero] at h9
    have h9' : w.cell? (ad.add (k * 1)) = some (devV ds[k]) := h9
    have b1 := List.countP_le_length (p := isS) (l := ds.take k)
    have b2 := List.countP_le_length (p := isP) (l := ds.take k)
    have b3 : (ds.take k).length ≤ ds.length := by rw [List.length_take]; omega
    have c1 := countP_succ isS hkn
    have c2 := countP_succ isP hkn
    cases hd : ds[k] with
    | slu x =>
      rw [hd] at h9' c1 c2
      simp only [isS, isP, if_true, Bool.not_true, Bool.false_eq_true, if_false, Nat.add_zero] at c1 c2
      repeat (first | (refine M0 ?_; first | refine SL ?_ | refine SB fun _ _ => ?_ | refine Y4 (Ev.load_old tok rfl rfl (add_lt hlt) h9') ?_ | refine Y4 (Ev.assertOk (s := 156) (v := .agg ⟨sluC x⟩) rfl slu_con tok rfl (.tuple ⟨[.agg ⟨sluC x⟩, .bool true]⟩) (if_pos rfl).symm) ?_) | (refine M1 ?_; first | refine SC ?_ | refine SD ?_) | (refine M2 ?_; refine SE ?_) | (refine M3 ?_; first | refine SG ?_ | refine SF ?_ | refine YF (Ev.load_old tok rfl rfl (add_lt hlt) h9') ?_ | refine YF (Ev.assertOk (s := 156) (v := .agg ⟨sluC x⟩) rfl slu_con tok rfl (.tuple ⟨[.agg ⟨sluC x⟩, .bool true]⟩) (if_pos rfl).symm) ?_) | (refine M4 ?_; refine SR ?_) | (refine M5 ?_; first | exact M7 | refine YM ?_ | refine YN ?_ ?_))
      exact XE.round (k + 1) hkn (by omega) (by rw [c1, c2]; repeat (first | exact Sub.nil | refine Sub.cons rfl ?_)) (fun _ h => h)
    | pmp x =>
      rw [hd] at h9' c1 c2
      simp only [isS, isP, if_true, Bool.not_false, Bool.false_eq_true, if_false, Nat.add_zero] at c1 c2
      repeat (first | (refine M0 ?_; first | refine SL ?_ | refine SB fun _ _ => ?_ | refine Y4 (Ev.load_old tok rfl rfl (add_lt hlt) h9') ?_ | refine Y4 (Ev.assertOk (u := 156) (s := 157) (v := .agg ⟨pmpC x⟩) rfl slu_con tok rfl (.tuple ⟨[_, .bool false]⟩) (if_neg (by decide)).symm) ?_ | refine Y4 (Ev.assertOk (u := 157) (s := 157) (v := .agg ⟨pmpC x⟩) rfl pmp_con tok rfl (.tuple ⟨[.agg ⟨pmpC x⟩, .bool true]⟩) (if_pos rfl).symm) ?_) | (refine M1 ?_; first | refine SC ?_ | refine SD ?_) | (refine M2 ?_; refine SE ?_) | (refine M3 ?_; first | refine SG ?_ | refine SF ?_ | refine YF (Ev.load_old tok rfl rfl (add_lt hlt) h9') ?_ | refine YF (Ev.assertOk (u := 156) (s := 157) (v := .agg ⟨pmpC x⟩) rfl slu_con tok rfl (.tuple ⟨[_, .bool false]⟩) (if_neg (by decide)).symm) ?_ | refine YF (Ev.assertOk (u := 157) (s := 157) (v := .agg ⟨pmpC x⟩) rfl pmp_con tok rfl (.tuple ⟨[.agg ⟨pmpC x⟩, .bool true]⟩) (if_pos rfl).symm) ?_) | (refine M4 ?_; refine SR ?_) | (refine M5 ?_; first | exact M7 | refine YM ?_ | refine YN ?_ ?_))
      exact XE.round (k + 1) hkn (by omega) (by rw [c1, c2]; repeat (first | exact Sub.nil | refine Sub.cons rfl ?_)) (fun _ h => h)
  · have hkn : k = ds.length := by have : ¬ (k < ds.length) := by simpa using h1
                                   omega
    subst hkn
    rw [List.take_length]
    repeat (first | (refine M0 ?_; first | refine SL ?_ | refine SB fun _ _ => ?_) | (refine M1 ?_; first | refine SC ?_ | refine SD ?_) | (refine M2 ?_; refine SE ?_) | (refine M3 ?_; first | refine SG ?_ | refine SF ?_) | (refine M4 ?_; refine SR ?_) | (refine M5 ?_; first | exact M7 | refine YM ?_ | refine YN ?_ ?_))
    refine XE.retg tok Try.results44 rfl (by simp only [and_self, and_true]) (fun w' S => ?_)
    exact ⟨rfl, S.toBelow⟩
/-! ### is it there already -/
set_option maxHeartbeats 4000000 in
theorem rncheck1_any {g : Nat} {c d : Dev} {w : World} (h : w.heap[g]? = some (cel 107 [devV d])) :
    Calls Try.prog 47 #[devV c, .pointer (some ⟨g, 0, none⟩)] w fun e w' => e = .returned (.bool (decide (c.name = d.name))) ∧ Below w.heap.size w w' := by
  have hl := (Array.getElem?_eq_some_iff.1 h).1
  have d0 : w.cell? ⟨g, 0, none⟩ = some (devV d) := by simp [World.cell?, h]
  obtain ⟨f1, m1, k1, c1⟩ := dev_name c
  obtain ⟨f2, m2, k2, c2⟩ := dev_name d
  refine enter Try.func47 rfl Try.ntmps47 rfl ?_; simp only [frame, Nat.zero_add, Nat.reduceAdd]
  repeat (first | (refine M0 ?_; first | refine SL ?_ | refine SB fun _ _ => ?_ | refine Y4 (Ev.load_old tok rfl rfl hl d0) ?_ | refine Y4 (Ev.invoke (t := c.ty) (v := .agg ⟨c.c⟩) m1 k1 rfl rfl (fun w S => c1 w)) ?_ | refine Y4 (Ev.invoke (t := d.ty) (v := .agg ⟨d.c⟩) m2 k2 rfl rfl (fun w S => c2 w)) ?_ | refine Y4 (Ev.eql_str rfl rfl) ?_) | (refine M1 ?_; first | refine SC ?_ | refine SD ?_) | (refine M2 ?_; refine SE ?_) | (refine M3 ?_; first | refine SG ?_ | refine SF ?_ | refine YF (Ev.load_old tok rfl rfl hl d0) ?_ | refine YF (Ev.invoke (t := c.ty) (v := .agg ⟨c.c⟩) m1 k1 rfl rfl (fun w S => c1 w)) ?_ | refine YF (Ev.invoke (t := d.ty) (v := .agg ⟨d.c⟩) m2 k2 rfl rfl (fun w S => c2 w)) ?_ | refine YF (Ev.eql_str rfl rfl) ?_) | (refine M4 ?_; refine SR ?_) | (refine M5 ?_; first | exact M7 | refine YM ?_ | refine YN ?_ ?_))
  refine XE.retg tok Try.results47 rfl (by simp only [and_self, and_true]) (fun w' S => ?_)
  exact ⟨rfl, S.toBelow⟩
theorem idxDev {f : FuncId} {cap : List Value} {P : Dev → Bool} {r : SV} {ms : List Dev} {w : World} (hck : callOk Try.prog f = true) (hr : ListAt devK w (Lt w.heap.size) r ms) (hn : ms.length ≤ 1000)
    (hc : ∀ m, m ∈ ms → ∀ w', Below w.heap.size w w' → Calls Try.prog f ([] ++ [devV m] ++ cap).toArray w' fun e w'' => e = .returned (.bool (P m)) ∧ Below w'.heap.size w' w'') :
    Calls Try.prog 74 #[svV r, .func (.func f) #[] cap.toArray] w fun e w' => e = .returned (.int .i64 (idxL ms P)) ∧ Below w.heap.size w w' := by
  obtain ⟨A, n, c⟩ := r
  have hln := hr.len (by decide)
  simp only at hln
  subst hln
  simp only [svV]
  refine enter Try.func74 rfl Try.ntmps74 rfl ?_; simp only [frame, Nat.zero_add, Nat.reduceAdd]
  repeat (first | (refine M0 ?_; first | refine SL ?_ | refine SB fun _ _ => ?_) | (refine M1 ?_; first | refine SC ?_ | refine SD ?_) | (refine M2 ?_; refine SE ?_) | (refine M3 ?_; first | refine SG ?_ | refine SF ?_) | (refine M4 ?_; refine SR ?_) | (refine M5 ?_; first | exact M7 | refine YM ?_ | refine YN ?_ ?_))
  refine XC.loopk [0, 1, 7] rfl (fun k : Nat => [(8, .int .i64 (k : Nat))]) (fun _ => []) (fun _ => w) (fun k => k ≤ ms.length ∧ ∀ j m, j < k → ms[j]? = some m → P m = false) (fun k => ms.length - k) 0 ⟨Nat.zero_le _, fun j m h => absurd h (by omega)⟩ ZZSUB (fun _ h => h) ?_
  rintro k ⟨hk, h0⟩
  dsimp only [List.cons_append, List.nil_append]
  repeat (first | (refine M0 ?_; first | refine SL ?_ | refine SB fun _ _ => ?_) | (refine M1 ?_; first | refine SC ?_ | refine SD ?_) | (refine M2 ?_; refine SE ?_) | (refine M3 ?_; first | refine SG ?_ | refine SF ?_) | (refine M4 ?_; refine SR ?_) | (refine M5 ?_; first | exact M7 | refine YM ?_ | refine YN ?_ ?_))
  refine XC.cond _ rfl (fun h3 => ?_) (fun h3 => ?_)
  · have hkn : k < ms.length := by simpa using h3
    obtain ⟨ad, rfl, hlt⟩ := hr.addr (by decide) (by omega)
    have hmk : ms[k]? = some ms[k] := List.getElem?_eq_getElem hkn
    have h9 := hr.elem hmk 0 (devV ms[k]) rfl
    rw [add_add, Nat.add_zero] at h9
    have hcell : w.cell? (ad.add (k * 1)) = some (devV ms[k]) := h9
    repeat (first | (refine M0 ?_; first | refine SL ?_ | refine SB fun _ _ => ?_ | refine Y4 (Ev.load_old tok rfl rfl (add_lt hlt) hcell) ?_ | refine Y4 (Ev.callv (f := f) (fst := []) (cap := cap) hck rfl rfl (fun w S => hc _ (List.getElem_mem hkn) w S.toBelow)) ?_) | (refine M1 ?_; first | refine SC ?_ | refine SD ?_) | (refine M2 ?_; refine SE ?_) | (refine M3 ?_; first | refine SG ?_ | refine SF ?_ | refine YF (Ev.load_old tok rfl rfl (add_lt hlt) hcell) ?_ | refine YF (Ev.callv (f := f) (fst := []) (cap := cap) hck rfl rfl (fun w S => hc _ (List.getElem_mem hkn) w S.toBelow)) ?_) | (refine M4 ?_; refine SR ?_) | (refine M5 ?_; first | exact M7 | refine YM ?_ | refine YN ?_ ?_))
    refine XC.cond _ rfl (fun h4 => ?_) (fun h4 => ?_)
    · repeat (first | (refine M0 ?_; first | refine SL ?_ | refine SB fun _ _ => ?_) | (refine M1 ?_; first | refine SC ?_ | refine SD ?_) | (refine M2 ?_; refine SE ?_) | (refine M3 ?_; first | refine SG ?_ | refine SF ?_) | (refine M4 ?_; refine SR ?_) | (refine M5 ?_; first | exact M7 | refine YM ?_ | refine YN ?_ ?_))
      refine XE.retg tok Try.results74 rfl (by simp only [and_self, and_true]) (fun w' S => ?_)
      have : ms.findIdx? P = some k := by
        rw [List.findIdx?_eq_some_iff_getElem]
        exact ⟨hkn, h4, fun j hj => by simpa using h0 j _ hj (List.getElem?_eq_getElem (by omega))⟩
      unfold idxL
      rw [this]
      exact ⟨rfl, S.toBelow⟩
    · repeat (first | (refine M0 ?_; first | refine SL ?_ | refine SB fun _ _ => ?_) | (refine M1 ?_; first | refine SC ?_ | refine SD ?_) | (refine M2 ?_; refine SE ?_) | (refine M3 ?_; first | refine SG ?_ | refine SF ?_) | (refine M4 ?_; refine SR ?_) | (refine M5 ?_; first | exact M7 | refine YM ?_ | refine YN ?_ ?_))
      refine XE.round (k + 1) ⟨hkn, fun j m hj hm => ?_⟩ (by omega) ZZSUB (fun _ h => h)
      rcases Nat.lt_or_ge j k with h5 | h5
      · exact h0 j m h5 hm
      · have : j = k := by omega
        subst this
        rw [hmk] at hm
        cases hm
        exact h4
  · have hkn : ¬ k < ms.length := by simpa using h3
    repeat (first | (refine M0 ?_; first | refine SL ?_ | refine SB fun _ _ => ?_) | (refine M1 ?_; first | refine SC ?_ | refine SD ?_) | (refine M2 ?_; refine SE ?_) | (refine M3 ?_; first | refine SG ?_ | refine SF ?_) | (refine M4 ?_; refine SR ?_) | (refine M5 ?_; first | exact M7 | refine YM ?_ | refine YN ?_ ?_))
    refine XE.retg tok Try.results74 rfl (by simp only [and_self, and_true]) (fun w' S => ?_)
    have : ms.findIdx? P = none := by
      rw [List.findIdx?_eq_none_iff]
      intro m hm
      obtain ⟨j, hj, e⟩ := List.mem_iff_getElem.1 hm
      exact h0 j m (by omega) (by rw [List.getElem?_eq_getElem hj, e])
    unfold idxL
    rw [this]
    exact ⟨rfl, S.toBelow⟩
theorem contDev {f : FuncId} {cap : List Value} {P : Dev → Bool} {r : SV} {ms : List Dev} {w : World} (hck : callOk Try.prog f = true) (hr : ListAt devK w (Lt w.heap.size) r ms) (hn : ms.length ≤ 1000)
    (hc : ∀ m, m ∈ ms → ∀ w', Below w.heap.size w w' → Calls Try.prog f ([] ++ [devV m] ++ cap).toArray w' fun e w'' => e = .returned (.bool (P m)) ∧ Below w'.heap.size w' w'') :
    Calls Try.prog 46 #[svV r, .func (.func f) #[] cap.toArray] w fun e w' => e = .returned (.bool (ms.any P)) ∧ Below w.heap.size w w' := by
  obtain ⟨A, n, c⟩ := r
  simp only [svV]
  refine enter Try.func46 rfl Try.ntmps46 rfl ?_; simp only [frame, Nat.zero_add, Nat.reduceAdd]
  repeat (first | (refine M0 ?_; first | refine SL ?_ | refine SB fun _ _ => ?_ | refine Y4 (Ev.call (f := 74) (ck rfl) rfl (fun w5 S5 => (idxDev (f := f) (cap := cap) (P := P) (r := ⟨A, n, c⟩) (ms := ms) hck (hr.arg S5) hn (fun m hm w' hb => hc m hm w' (S5.toBelow.trans (hb.mono S5.size))) :))) ?_) | (refine M1 ?_; first | refine SC ?_ | refine SD ?_) | (refine M2 ?_; refine SE ?_) | (refine M3 ?_; first | refine SG ?_ | refine SF ?_ | refine YF (Ev.call (f := 74) (ck rfl) rfl (fun w5 S5 => (idxDev (f := f) (cap := cap) (P := P) (r := ⟨A, n, c⟩) (ms := ms) hck (hr.arg S5) hn (fun m hm w' hb => hc m hm w' (S5.toBelow.trans (hb.mono S5.size))) :))) ?_) | (refine M4 ?_; refine SR ?_) | (refine M5 ?_; first | exact M7 | refine YM ?_ | refine YN ?_ ?_))
  refine XE.retg tok Try.results46 rfl (by simp only [and_self, and_true]) (fun w' S => ?_)
  exact ⟨by rw [idxL_any]; rfl, S.toBelow⟩
end Go.Proofs.Ytmckmlmfilmiaaa.X
