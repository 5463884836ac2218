/-
  The walk of the document's step.
-/
import Derived.Test.YtoiepgcjinccpaaDoorBs12
namespace Go.Proofs.YtoiepgcjinccpaaDoor.X
open Go Go.RowKit Go.Proofs.YtoiepgcjinccpaaDoor.Bs
set_option linter.unusedVariables false
/-- what leaks, as the document reckons it. -/
theorem leak_alt (b : Bas) (outer v : Int) : b.leak * (outer * den b v - num b v) = b.leak * (-(num b v) - (-outer) * den b v) := by rw [Int.neg_mul]; congr 1; omega
theorem take_alt {b : Bas} (ho : Ok b) {v : Int} {i : Nat} (hi : i < b.pols.length) (h2 : (b.pol i).sill * den b v < num b v) :
    ((b.pol i).take * (num b v - (b.pol i).sill * den b v)).tdiv (den b v) = (b.pol i).take * (num b v - (b.pol i).sill * den b v) / den b v :=
  Int.tdiv_eq_ediv_of_nonneg (Int.mul_nonneg (ho.take i hi).1 (by omega))
set_option maxHeartbeats 16000000 in
theorem refStep_any {p : BV} {b : Bas} {q : SV} {s : Sta} {t : Tick} {w : World} (hb : BasAt w w.heap.size p b) (hq : IntsAt w (Lt w.heap.size) q s.fil) (ho : Ok b) (hs : StaOk b s) :
    Calls Tryd.prog 49 #[basV p b, staV q s, tickV t] w fun e w' => ∃ v, e = .returned v ∧ StepR b s t w v w' := by
  have hm := ho.m6
  have hl := hs.len
  obtain ⟨A, n, c⟩ := q
  have hn := hq.len
  simp only at hn
  subst hn
  obtain ⟨Ap, n1, c1, A2, n2, c2⟩ := p
  have hn1 := hb.n_eq
  have hn2 := hb.n2_eq
  simp only at hn1 hn2
  subst hn1 hn2
  have h2r := ho.n2
  obtain ⟨ad, rfl, hlt⟩ := hb.rows.addr (by simp only; omega)
  simp only [basV, basC, staV, staC, tickV, tickC]
  refine enter Tryd.func49 rfl Tryd.ntmps49 rfl ?_; simp only [frame, Nat.zero_add, Nat.reduceAdd]
  repeat (any_goals (first | (refine M0 ?_; first | refine O0 ?_ | refine z1 tok rfl ?_ | refine O1 rfl ?_ rfl | refine O2 rfl ?_ | refine O3 rfl ?_ rfl | (refine XL.split _ _ rfl (fun h => ?_) (fun h => ?_) <;> rw [h]) | refine U0 _ (Ev.call (f := 64) (ck rfl) rfl (fun w _ => level_any _ w)) rfl ?_ | refine U0 _ (Ev.call (f := 54) (ck rfl) rfl (fun w _ => in_any _ _ _ w)) rfl ?_ | refine O4 rfl rfl rfl (fun _ _ => ?_) | refine O5 tok rfl rfl rfl (fun _ _ => ?_) | refine U0 _ (U2 rfl) rfl ?_ | refine U0 _ (U3 tok rfl rfl rfl rfl rfl) rfl ?_ | refine z3 tok rfl ?_ | refine U0 _ (U4 rfl rfl) rfl ?_ | refine U0 _ (U5 rfl rfl) rfl ?_) | (refine M1 ?_; first | refine J0 ?_ | refine J1 ?_ | refine J2 mixed rfl (by kernel_rfl) ?_ | refine J3 mixed rfl rfl (by kernel_rfl) ?_ | refine J4 ?_ | refine J5 ?_ | refine J6 ?_ | refine J7 ?_ | refine J8 rfl ?_ | refine J9 rfl ?_ | refine XC.cond _ rfl (fun h => ?_) (fun h => ?_)) | (refine M2 ?_; first | refine I0 ?_ | refine I1 ?_ | refine I2 ?_ | refine I3 ?_ | refine I4 ?_ | refine I5 ?_ | refine I6 rfl ?_ | refine I7 ?_ | refine I8 ?_ | refine z4 ?_) | (refine M3 ?_; first | refine O6 ?_ | refine z2 tok rfl ?_ | refine O8 rfl ?_ | refine O7 rfl ?_ rfl | refine O9 rfl ?_ rfl | (refine Fw.split _ _ rfl (fun h => ?_) (fun h => ?_) <;> rw [h]) | refine U1 _ (Ev.call (f := 64) (ck rfl) rfl (fun w _ => level_any _ w)) rfl ?_ | refine U1 _ (Ev.call (f := 54) (ck rfl) rfl (fun w _ => in_any _ _ _ w)) rfl ?_ | refine U1 _ (U4 rfl rfl) rfl ?_ | refine U1 _ (U5 rfl rfl) rfl ?_ | refine U1 _ (U2 rfl) rfl ?_ | refine U1 _ (U3 tok rfl rfl rfl rfl rfl) rfl ?_) | (refine M4 ?_; first | refine M6 ?_ | refine U6 rfl (by kernel_rfl) ?_ | refine U7 (by kernel_rfl) ?_) | (refine M5 ?_; first | exact M7 | refine U8 rfl ?_ | refine U9 rfl rfl ?_ ?_)))
  all_goals simp only [Bool.not_not] at *
  all_goals try (refine XE.retg tok Tryd.results49 rfl (by simp only [and_self, and_true]) (fun w' S => ?_)
                 refine ⟨_, rfl, StepR.err (stepE_7 (by simp [tickBad, *])) (by decide) S.toBelow⟩)
  rename_i g3 hg3 g4 hg4 g5 hg5 g6 hg6 g7 hg7 h1 h2
  have h3 := h
  have hbad : tickBad t = false := by simp [tickBad, *]
  have o1 := outB_f.1 h1
  have o2 := outB_f.1 h2
  have o3 := outB_f.1 h3
  have hv0 := v0_bd ho
  have hvs := hs.vol
  have hov := over_bd ho t o1
  have hcr := ho.crest
  have e1 : vol1 s t = s.vol + t.river := rfl
  have e2 : vol2 b s t = vol1 s t + overOf b t := rfl
  have e0 : b.v0 = (b.row 0).vol := rfl
  have k0 : i64in (overOf b t) := by unfold i64in; omega
  have k1 : i64in (b.over * max 0 (t.outer - b.crest)) := k0
  repeat (first | (refine M0 ?_; first | refine O0 ?_ | refine z1 tok rfl ?_ | refine O1 rfl ?_ rfl | refine O2 rfl ?_ | refine O3 rfl ?_ rfl | refine U0 _ (Ev.load_old tok rfl rfl (add_lt2 hlt) (hb.rowVol (i := 0) (by omega))) rfl ?_ | refine O4 rfl rfl rfl (fun _ _ => ?_) | refine O5 tok rfl rfl rfl (fun _ _ => ?_) | refine U0 _ (U2 rfl) rfl ?_ | refine U0 _ (U3 tok rfl rfl rfl rfl rfl) rfl ?_ | refine z3 tok rfl ?_ | refine U0 _ (U4 rfl rfl) rfl ?_ | refine U0 _ (U5 rfl rfl) rfl ?_) | (refine M1 ?_; first | refine J0 ?_ | refine J1 ?_ | refine J2 mixed rfl (by kernel_rfl) ?_ | refine J3 mixed rfl rfl (by kernel_rfl) ?_ | refine J4 ?_ | refine J5 ?_ | refine J6 ?_ | refine J7 ?_ | refine J8 rfl ?_ | refine J9 rfl ?_) | (refine M2 ?_; first | refine I0 ?_ | refine I1 ?_ | refine I2 ?_ | refine I3 ?_ | refine I4 ?_ | refine I5 ?_ | refine I6 rfl ?_ | refine I7 ?_ | refine I8 ?_ | refine z4 ?_) | (refine M3 ?_; first | refine O6 ?_ | refine z2 tok rfl ?_ | refine O8 rfl ?_ | refine O7 rfl ?_ rfl | refine O9 rfl ?_ rfl | refine U1 _ (Ev.load_old tok rfl rfl (add_lt2 hlt) (hb.rowVol (i := 0) (by omega))) rfl ?_ | refine U1 _ (U4 rfl rfl) rfl ?_ | refine U1 _ (U5 rfl rfl) rfl ?_ | refine U1 _ (U2 rfl) rfl ?_ | refine U1 _ (U3 tok rfl rfl rfl rfl rfl) rfl ?_) | (refine M4 ?_; first | refine M6 ?_ | refine U6 rfl (by kernel_rfl) ?_ | refine U7 (by kernel_rfl) ?_) | (refine M5 ?_; first | exact M7 | refine U8 rfl ?_ | refine U9 rfl rfl ?_ ?_))
  rename_i g9 hg9
  refine XC.cond _ rfl (fun h4 => ?_) (fun h4 => ?_)
  · simp only [decide_eq_true_eq] at h4
    repeat (first | (refine M0 ?_; first | refine O0 ?_ | refine z1 tok rfl ?_ | refine O1 rfl ?_ rfl | refine O2 rfl ?_ | refine O3 rfl ?_ rfl | refine O4 rfl rfl rfl (fun _ _ => ?_) | refine O5 tok rfl rfl rfl (fun _ _ => ?_) | refine U0 _ (U2 rfl) rfl ?_ | refine U0 _ (U3 tok rfl rfl rfl rfl rfl) rfl ?_ | refine z3 tok rfl ?_ | refine U0 _ (U4 rfl rfl) rfl ?_ | refine U0 _ (U5 rfl rfl) rfl ?_) | (refine M1 ?_; first | refine J0 ?_ | refine J1 ?_ | refine J2 mixed rfl (by kernel_rfl) ?_ | refine J3 mixed rfl rfl (by kernel_rfl) ?_ | refine J4 ?_ | refine J5 ?_ | refine J6 ?_ | refine J7 ?_ | refine J8 rfl ?_ | refine J9 rfl ?_) | (refine M2 ?_; first | refine I0 ?_ | refine I1 ?_ | refine I2 ?_ | refine I3 ?_ | refine I4 ?_ | refine I5 ?_ | refine I6 rfl ?_ | refine I7 ?_ | refine I8 ?_ | refine z4 ?_) | (refine M3 ?_; first | refine O6 ?_ | refine z2 tok rfl ?_ | refine O8 rfl ?_ | refine O7 rfl ?_ rfl | refine O9 rfl ?_ rfl | refine U1 _ (U4 rfl rfl) rfl ?_ | refine U1 _ (U5 rfl rfl) rfl ?_ | refine U1 _ (U2 rfl) rfl ?_ | refine U1 _ (U3 tok rfl rfl rfl rfl rfl) rfl ?_) | (refine M4 ?_; first | refine M6 ?_ | refine U6 rfl (by kernel_rfl) ?_ | refine U7 (by kernel_rfl) ?_) | (refine M5 ?_; first | exact M7 | refine U8 rfl ?_ | refine U9 rfl rfl ?_ ?_))
    refine XE.retg tok Tryd.results49 rfl (by simp only [and_self, and_true]) (fun w' S => ?_)
    exact ⟨_, rfl, StepR.err (stepE_3 hbad (.inl h4)) (by decide) S.toBelow⟩
  simp only [decide_eq_false_iff_not] at h4
  have k2 : i64in (s.vol + t.river + b.over * max 0 (t.outer - b.crest)) := by have : i64in (s.vol + t.river + overOf b t) := (by unfold i64in; omega); exact this
  repeat (first | (refine M0 ?_; first | refine O0 ?_ | refine z1 tok rfl ?_ | refine O1 rfl ?_ rfl | refine O2 rfl ?_ | refine O3 rfl ?_ rfl | refine O4 rfl rfl rfl (fun _ _ => ?_) | refine O5 tok rfl rfl rfl (fun _ _ => ?_) | refine U0 _ (U2 rfl) rfl ?_ | refine U0 _ (U3 tok rfl rfl rfl rfl rfl) rfl ?_ | refine z3 tok rfl ?_ | refine U0 _ (U4 rfl rfl) rfl ?_ | refine U0 _ (U5 rfl rfl) rfl ?_) | (refine M1 ?_; first | refine J0 ?_ | refine J1 ?_ | refine J2 mixed rfl (by kernel_rfl) ?_ | refine J3 mixed rfl rfl (by kernel_rfl) ?_ | refine J4 ?_ | refine J5 ?_ | refine J6 ?_ | refine J7 ?_ | refine J8 rfl ?_ | refine J9 rfl ?_) | (refine M2 ?_; first | refine I0 ?_ | refine I1 ?_ | refine I2 ?_ | refine I3 ?_ | refine I4 ?_ | refine I5 ?_ | refine I6 rfl ?_ | refine I7 ?_ | refine I8 ?_ | refine z4 ?_) | (refine M3 ?_; first | refine O6 ?_ | refine z2 tok rfl ?_ | refine O8 rfl ?_ | refine O7 rfl ?_ rfl | refine O9 rfl ?_ rfl | refine U1 _ (U4 rfl rfl) rfl ?_ | refine U1 _ (U5 rfl rfl) rfl ?_ | refine U1 _ (U2 rfl) rfl ?_ | refine U1 _ (U3 tok rfl rfl rfl rfl rfl) rfl ?_) | (refine M4 ?_; first | refine M6 ?_ | refine U6 rfl (by kernel_rfl) ?_ | refine U7 (by kernel_rfl) ?_) | (refine M5 ?_; first | exact M7 | refine U8 rfl ?_ | refine U9 rfl rfl ?_ ?_))
  refine XC.cond _ rfl (fun h5 => ?_) (fun h5 => ?_)
  · simp only [decide_eq_true_eq] at h5
    repeat (first | (refine M0 ?_; first | refine O0 ?_ | refine z1 tok rfl ?_ | refine O1 rfl ?_ rfl | refine O2 rfl ?_ | refine O3 rfl ?_ rfl | refine O4 rfl rfl rfl (fun _ _ => ?_) | refine O5 tok rfl rfl rfl (fun _ _ => ?_) | refine U0 _ (U2 rfl) rfl ?_ | refine U0 _ (U3 tok rfl rfl rfl rfl rfl) rfl ?_ | refine z3 tok rfl ?_ | refine U0 _ (U4 rfl rfl) rfl ?_ | refine U0 _ (U5 rfl rfl) rfl ?_) | (refine M1 ?_; first | refine J0 ?_ | refine J1 ?_ | refine J2 mixed rfl (by kernel_rfl) ?_ | refine J3 mixed rfl rfl (by kernel_rfl) ?_ | refine J4 ?_ | refine J5 ?_ | refine J6 ?_ | refine J7 ?_ | refine J8 rfl ?_ | refine J9 rfl ?_) | (refine M2 ?_; first | refine I0 ?_ | refine I1 ?_ | refine I2 ?_ | refine I3 ?_ | refine I4 ?_ | refine I5 ?_ | refine I6 rfl ?_ | refine I7 ?_ | refine I8 ?_ | refine z4 ?_) | (refine M3 ?_; first | refine O6 ?_ | refine z2 tok rfl ?_ | refine O8 rfl ?_ | refine O7 rfl ?_ rfl | refine O9 rfl ?_ rfl | refine U1 _ (U4 rfl rfl) rfl ?_ | refine U1 _ (U5 rfl rfl) rfl ?_ | refine U1 _ (U2 rfl) rfl ?_ | refine U1 _ (U3 tok rfl rfl rfl rfl rfl) rfl ?_) | (refine M4 ?_; first | refine M6 ?_ | refine U6 rfl (by kernel_rfl) ?_ | refine U7 (by kernel_rfl) ?_) | (refine M5 ?_; first | exact M7 | refine U8 rfl ?_ | refine U9 rfl rfl ?_ ?_))
    refine XE.retg tok Tryd.results49 rfl (by simp only [and_self, and_true]) (fun w' S => ?_)
    exact ⟨_, rfl, StepR.err (stepE_3 hbad (.inr (.inl h5))) (by decide) S.toBelow⟩
  simp only [decide_eq_false_iff_not] at h5
  rw [show s.vol + t.river + b.over * max 0 (t.outer - b.crest) = vol2 b s t from rfl] at *
  rw [show b.over * max 0 (t.outer - b.crest) = overOf b t from rfl] at *
  have hv2 : b.v0 ≤ vol2 b s t ∧ vol2 b s t ≤ 1000000000 := by omega
  have hd := den_pos ho.rowsOk (vol2 b s t)
  have hnm := num_bd ho.rowsOk hv2
  obtain ⟨j1, j2, j3⟩ := leakQ_bd ho hv2 o1
  rw [← leak_alt] at j2
  have j4 : -20000000000000 ≤ t.outer * den b (vol2 b s t) ∧ t.outer * den b (vol2 b s t) ≤ 20000000000000 := by rw [Int.neg_mul] at j1; omega
  repeat (first | (refine M0 ?_; first | refine O0 ?_ | refine z1 tok rfl ?_ | refine O1 rfl ?_ rfl | refine O2 rfl ?_ | refine O3 rfl ?_ rfl | refine U0 _ (Ev.call (f := 68) (ck rfl) rfl (fun w S => (refExact_any (p := ⟨some ad, b.rows.length, c1, A2, b.pols.length, c2⟩) (hb.sys S) ho.rowsOk hv2 :))) rfl ?_ | refine U0 _ (Ev.call (f := 69) (ck rfl) rfl (fun w S => (down_any (a := b.leak * (t.outer * den b (vol2 b s t) - num b (vol2 b s t))) (b := den b (vol2 b s t)) hd.1 (by omega) w :))) rfl ?_ | refine O4 rfl rfl rfl (fun _ _ => ?_) | refine O5 tok rfl rfl rfl (fun _ _ => ?_) | refine U0 _ (U2 rfl) rfl ?_ | refine U0 _ (U3 tok rfl rfl rfl rfl rfl) rfl ?_ | refine z3 tok rfl ?_ | refine U0 _ (U4 rfl rfl) rfl ?_ | refine U0 _ (U5 rfl rfl) rfl ?_) | (refine M1 ?_; first | refine J0 ?_ | refine J1 ?_ | refine J2 mixed rfl (by kernel_rfl) ?_ | refine J3 mixed rfl rfl (by kernel_rfl) ?_ | refine J4 ?_ | refine J5 ?_ | refine J6 ?_ | refine J7 ?_ | refine J8 rfl ?_ | refine J9 rfl ?_) | (refine M2 ?_; first | refine I0 ?_ | refine I1 ?_ | refine I2 ?_ | refine I3 ?_ | refine I4 ?_ | refine I5 ?_ | refine I6 rfl ?_ | refine I7 ?_ | refine I8 ?_ | refine z4 ?_) | (refine M3 ?_; first | refine O6 ?_ | refine z2 tok rfl ?_ | refine O8 rfl ?_ | refine O7 rfl ?_ rfl | refine O9 rfl ?_ rfl | refine U1 _ (Ev.call (f := 68) (ck rfl) rfl (fun w S => (refExact_any (p := ⟨some ad, b.rows.length, c1, A2, b.pols.length, c2⟩) (hb.sys S) ho.rowsOk hv2 :))) rfl ?_ | refine U1 _ (Ev.call (f := 69) (ck rfl) rfl (fun w S => (down_any (a := b.leak * (t.outer * den b (vol2 b s t) - num b (vol2 b s t))) (b := den b (vol2 b s t)) hd.1 (by omega) w :))) rfl ?_ | refine U1 _ (U4 rfl rfl) rfl ?_ | refine U1 _ (U5 rfl rfl) rfl ?_ | refine U1 _ (U2 rfl) rfl ?_ | refine U1 _ (U3 tok rfl rfl rfl rfl rfl) rfl ?_) | (refine M4 ?_; first | refine M6 ?_ | refine U6 rfl (by kernel_rfl) ?_ | refine U7 (by kernel_rfl) ?_) | (refine M5 ?_; first | exact M7 | refine U8 rfl ?_ | refine U9 rfl rfl ?_ ?_))
  rw [show max (b.leak * (t.outer * den b (vol2 b s t) - num b (vol2 b s t)) / den b (vol2 b s t)) ((b.row 0).vol - vol2 b s t) = leakOf b t.outer (vol2 b s t) from by unfold leakOf leakQ; rw [leak_alt]; rfl]
  have e3 : vol3 b s t = vol2 b s t + leakOf b t.outer (vol2 b s t) := rfl
  have e4 : b.v0 - vol2 b s t ≤ leakOf b t.outer (vol2 b s t) ∧ leakOf b t.outer (vol2 b s t) ≤ 900000000000000000 := by unfold leakOf; omega
  have k3 : i64in (vol2 b s t + leakOf b t.outer (vol2 b s t)) := by unfold i64in; omega
  repeat (first | (refine M0 ?_; first | refine O0 ?_ | refine z1 tok rfl ?_ | refine O1 rfl ?_ rfl | refine O2 rfl ?_ | refine O3 rfl ?_ rfl | refine O4 rfl rfl rfl (fun _ _ => ?_) | refine O5 tok rfl rfl rfl (fun _ _ => ?_) | refine U0 _ (U2 rfl) rfl ?_ | refine U0 _ (U3 tok rfl rfl rfl rfl rfl) rfl ?_ | refine z3 tok rfl ?_ | refine U0 _ (U4 rfl rfl) rfl ?_ | refine U0 _ (U5 rfl rfl) rfl ?_) | (refine M1 ?_; first | refine J0 ?_ | refine J1 ?_ | refine J2 mixed rfl (by kernel_rfl) ?_ | refine J3 mixed rfl rfl (by kernel_rfl) ?_ | refine J4 ?_ | refine J5 ?_ | refine J6 ?_ | refine J7 ?_ | refine J8 rfl ?_ | refine J9 rfl ?_) | (refine M2 ?_; first | refine I0 ?_ | refine I1 ?_ | refine I2 ?_ | refine I3 ?_ | refine I4 ?_ | refine I5 ?_ | refine I6 rfl ?_ | refine I7 ?_ | refine I8 ?_ | refine z4 ?_) | (refine M3 ?_; first | refine O6 ?_ | refine z2 tok rfl ?_ | refine O8 rfl ?_ | refine O7 rfl ?_ rfl | refine O9 rfl ?_ rfl | refine U1 _ (U4 rfl rfl) rfl ?_ | refine U1 _ (U5 rfl rfl) rfl ?_ | refine U1 _ (U2 rfl) rfl ?_ | refine U1 _ (U3 tok rfl rfl rfl rfl rfl) rfl ?_) | (refine M4 ?_; first | refine M6 ?_ | refine U6 rfl (by kernel_rfl) ?_ | refine U7 (by kernel_rfl) ?_) | (refine M5 ?_; first | exact M7 | refine U8 rfl ?_ | refine U9 rfl rfl ?_ ?_))
  refine XC.cond _ rfl (fun h6 => ?_) (fun h6 => ?_)
  · simp only [decide_eq_true_eq] at h6
    repeat (first | (refine M0 ?_; first | refine O0 ?_ | refine z1 tok rfl ?_ | refine O1 rfl ?_ rfl | refine O2 rfl ?_ | refine O3 rfl ?_ rfl | refine O4 rfl rfl rfl (fun _ _ => ?_) | refine O5 tok rfl rfl rfl (fun _ _ => ?_) | refine U0 _ (U2 rfl) rfl ?_ | refine U0 _ (U3 tok rfl rfl rfl rfl rfl) rfl ?_ | refine z3 tok rfl ?_ | refine U0 _ (U4 rfl rfl) rfl ?_ | refine U0 _ (U5 rfl rfl) rfl ?_) | (refine M1 ?_; first | refine J0 ?_ | refine J1 ?_ | refine J2 mixed rfl (by kernel_rfl) ?_ | refine J3 mixed rfl rfl (by kernel_rfl) ?_ | refine J4 ?_ | refine J5 ?_ | refine J6 ?_ | refine J7 ?_ | refine J8 rfl ?_ | refine J9 rfl ?_) | (refine M2 ?_; first | refine I0 ?_ | refine I1 ?_ | refine I2 ?_ | refine I3 ?_ | refine I4 ?_ | refine I5 ?_ | refine I6 rfl ?_ | refine I7 ?_ | refine I8 ?_ | refine z4 ?_) | (refine M3 ?_; first | refine O6 ?_ | refine z2 tok rfl ?_ | refine O8 rfl ?_ | refine O7 rfl ?_ rfl | refine O9 rfl ?_ rfl | refine U1 _ (U4 rfl rfl) rfl ?_ | refine U1 _ (U5 rfl rfl) rfl ?_ | refine U1 _ (U2 rfl) rfl ?_ | refine U1 _ (U3 tok rfl rfl rfl rfl rfl) rfl ?_) | (refine M4 ?_; first | refine M6 ?_ | refine U6 rfl (by kernel_rfl) ?_ | refine U7 (by kernel_rfl) ?_) | (refine M5 ?_; first | exact M7 | refine U8 rfl ?_ | refine U9 rfl rfl ?_ ?_))
    refine XE.retg tok Tryd.results49 rfl (by simp only [and_self, and_true]) (fun w' S => ?_)
    exact ⟨_, rfl, StepR.err (stepE_3 hbad (.inr (.inr h6))) (by decide) S.toBelow⟩
  simp only [decide_eq_false_iff_not] at h6
  rw [show vol2 b s t + leakOf b t.outer (vol2 b s t) = vol3 b s t from rfl] at *
  have hE : stepE b s t = 0 := stepE_0 hbad (by rw [e1]; omega) (by omega) (by omega)
  have hok := stepOk_of ho hs hE
  have hv3 := hok.v3
  have hv4 := hok.v4
  have k4 : i64in (vol3 b s t - (b.row 0).vol) := by unfold i64in; omega
  have k5 : i64in (vol3 b s t - min t.out (vol3 b s t - (b.row 0).vol)) := by have : i64in (vol4 b s t) := (by unfold i64in; omega); exact this
  repeat (first | (refine M0 ?_; first | refine O0 ?_ | refine z1 tok rfl ?_ | refine O1 rfl ?_ rfl | refine O2 rfl ?_ | refine O3 rfl ?_ rfl | refine O4 rfl rfl rfl (fun _ _ => ?_) | refine O5 tok rfl rfl rfl (fun _ _ => ?_) | refine U0 _ (U2 rfl) rfl ?_ | refine U0 _ (U3 tok rfl rfl rfl rfl rfl) rfl ?_ | refine z3 tok rfl ?_ | refine U0 _ (U4 rfl rfl) rfl ?_ | refine U0 _ (U5 rfl rfl) rfl ?_) | (refine M1 ?_; first | refine J0 ?_ | refine J1 ?_ | refine J2 mixed rfl (by kernel_rfl) ?_ | refine J3 mixed rfl rfl (by kernel_rfl) ?_ | refine J4 ?_ | refine J5 ?_ | refine J6 ?_ | refine J7 ?_ | refine J8 rfl ?_ | refine J9 rfl ?_) | (refine M2 ?_; first | refine I0 ?_ | refine I1 ?_ | refine I2 ?_ | refine I3 ?_ | refine I4 ?_ | refine I5 ?_ | refine I6 rfl ?_ | refine I7 ?_ | refine I8 ?_ | refine z4 ?_) | (refine M3 ?_; first | refine O6 ?_ | refine z2 tok rfl ?_ | refine O8 rfl ?_ | refine O7 rfl ?_ rfl | refine O9 rfl ?_ rfl | refine U1 _ (U4 rfl rfl) rfl ?_ | refine U1 _ (U5 rfl rfl) rfl ?_ | refine U1 _ (U2 rfl) rfl ?_ | refine U1 _ (U3 tok rfl rfl rfl rfl rfl) rfl ?_) | (refine M4 ?_; first | refine M6 ?_ | refine U6 rfl (by kernel_rfl) ?_ | refine U7 (by kernel_rfl) ?_) | (refine M5 ?_; first | exact M7 | refine U8 rfl ?_ | refine U9 rfl rfl ?_ ?_))
  rw [show min t.out (vol3 b s t - (b.row 0).vol) = outOf b s t from rfl]
  rw [show vol3 b s t - outOf b s t = vol4 b s t from rfl]
  refine XC.loopk [3, 4, 6, 7, 9] rfl (fun x : Nat × World × SV × SV => [(11, .int .i64 (polV b s (vol4 b s t) x.1)), (14, svV x.2.2.1), (15, .int .i64 (x.1 : Nat))])
    (fun x => [(g9, cel 32 (floC x.2.2.2 (floK b s t 4))), _, _, _, _, _]) (fun x => x.2.1)
    (fun x => x.1 ≤ b.pols.length ∧ Below w.heap.size w x.2.1 ∧ x.2.1.ownsRow w.heap.size 3 1 (svV x.2.2.1) x.1 (ints (rg x.1 fun i => s.f i + polT b s (vol4 b s t) i)) ∧
      x.2.1.ownsRow w.heap.size 3 1 (svV x.2.2.2) x.1 (ints (rg x.1 fun i => polT b s (vol4 b s t) i)) ∧ (∀ k, (svV x.2.2.1).ownBlock = some k → k ∉ [g9, g7, g6, g5, g4, g3]) ∧
      (∀ k, (svV x.2.2.2).ownBlock = some k → k ∉ [g9, g7, g6, g5, g4, g3] ∧ (svV x.2.2.1).ownBlock ≠ some k))
    (fun x => b.pols.length - x.1) (0, w, ⟨none, 0, 0⟩, ⟨none, 0, 0⟩) ⟨Nat.zero_le _, Below.refl _ _, World.ownsRow_nil _ _ _ _, World.ownsRow_nil _ _ _ _, fun k hk => (by cases hk), fun k hk => (by cases hk)⟩ (by repeat (first | exact Sub.nil | refine Sub.cons rfl ?_)) (fun _ h => h) ?_
  rintro ⟨k, W, rF, rT⟩ ⟨hk, hBW, hoF, hoT, sF, sT⟩
  simp only at hk hBW hoF hoT sF sT
  simp only [floC, svV]
  dsimp only [List.cons_append, List.nil_append]
  repeat (first | (refine M0 ?_; first | refine O0 ?_ | refine z1 tok rfl ?_ | refine O1 rfl ?_ rfl | refine O2 rfl ?_ | refine O3 rfl ?_ rfl | refine O4 rfl rfl rfl (fun _ _ => ?_) | refine O5 tok rfl rfl rfl (fun _ _ => ?_) | refine U0 _ (U2 rfl) rfl ?_ | refine U0 _ (U3 tok rfl rfl rfl rfl rfl) rfl ?_ | refine z3 tok rfl ?_ | refine U0 _ (U4 rfl rfl) rfl ?_ | refine U0 _ (U5 rfl rfl) rfl ?_) | (refine M1 ?_; first | refine J0 ?_ | refine J1 ?_ | refine J2 mixed rfl (by kernel_rfl) ?_ | refine J3 mixed rfl rfl (by kernel_rfl) ?_ | refine J4 ?_ | refine J5 ?_ | refine J6 ?_ | refine J7 ?_ | refine J8 rfl ?_ | refine J9 rfl ?_) | (refine M2 ?_; first | refine I0 ?_ | refine I1 ?_ | refine I2 ?_ | refine I3 ?_ | refine I4 ?_ | refine I5 ?_ | refine I6 rfl ?_ | refine I7 ?_ | refine I8 ?_ | refine z4 ?_) | (refine M3 ?_; first | refine O6 ?_ | refine z2 tok rfl ?_ | refine O8 rfl ?_ | refine O7 rfl ?_ rfl | refine O9 rfl ?_ rfl | refine U1 _ (U4 rfl rfl) rfl ?_ | refine U1 _ (U5 rfl rfl) rfl ?_ | refine U1 _ (U2 rfl) rfl ?_ | refine U1 _ (U3 tok rfl rfl rfl rfl rfl) rfl ?_) | (refine M4 ?_; first | refine M6 ?_ | refine U6 rfl (by kernel_rfl) ?_ | refine U7 (by kernel_rfl) ?_) | (refine M5 ?_; first | exact M7 | refine U8 rfl ?_ | refine U9 rfl rfl ?_ ?_))
  refine XC.cond _ rfl (fun h7 => ?_) (fun h7 => ?_)
  · have hkm : k < b.pols.length := by simpa using h7
    have hbW := hb.below hBW
    have hqW := hq.below hBW
    obtain ⟨ad3, rfl, hlt3, hc3⟩ := hqW.at_ (by omega)
    obtain ⟨ad2, rfl, hlt2⟩ := hb.pols.addr (by simp only; omega)
    have hpv := polV_bd ho hs (v := vol4 b s t) hv4 k hk
    have hv : b.v0 ≤ polV b s (vol4 b s t) k ∧ polV b s (vol4 b s t) k ≤ 1000000000 := by omega
    have hdk := den_pos ho.rowsOk (polV b s (vol4 b s t) k)
    have hnk := num_bd ho.rowsOk hv
    obtain ⟨q1, q2⟩ := takeOver_bd ho hv hkm
    have htk := takeOf_bd ho hv hkm (hs.fil k hkm)
    have hrm := ho.room k hkm
    have hfk := hs.fil k hkm
    have hfa : 0 ≤ at0 s.fil k ∧ at0 s.fil k ≤ (b.pol k).room := hfk
    obtain ⟨tk, htkq⟩ : ∃ tk, tk = takeOf b k (polV b s (vol4 b s t) k) (s.f k) := ⟨_, rfl⟩
    repeat (first | (refine M0 ?_; first | refine O0 ?_ | refine z1 tok rfl ?_ | refine O1 rfl ?_ rfl | refine O2 rfl ?_ | refine O3 rfl ?_ rfl | refine U0 _ (Ev.load_old_agg tok (polC (b.pol k)) rfl rfl rfl (add_lt hlt2) (hbW.pol hkm)) rfl ?_ | refine O4 rfl rfl rfl (fun _ _ => ?_) | refine O5 tok rfl rfl rfl (fun _ _ => ?_) | refine U0 _ (U2 rfl) rfl ?_ | refine U0 _ (U3 tok rfl rfl rfl rfl rfl) rfl ?_ | refine z3 tok rfl ?_ | refine U0 _ (U4 rfl rfl) rfl ?_ | refine U0 _ (U5 rfl rfl) rfl ?_) | (refine M1 ?_; first | refine J0 ?_ | refine J1 ?_ | refine J2 mixed rfl (by kernel_rfl) ?_ | refine J3 mixed rfl rfl (by kernel_rfl) ?_ | refine J4 ?_ | refine J5 ?_ | refine J6 ?_ | refine J7 ?_ | refine J8 rfl ?_ | refine J9 rfl ?_) | (refine M2 ?_; first | refine I0 ?_ | refine I1 ?_ | refine I2 ?_ | refine I3 ?_ | refine I4 ?_ | refine I5 ?_ | refine I6 rfl ?_ | refine I7 ?_ | refine I8 ?_ | refine z4 ?_) | (refine M3 ?_; first | refine O6 ?_ | refine z2 tok rfl ?_ | refine O8 rfl ?_ | refine O7 rfl ?_ rfl | refine O9 rfl ?_ rfl | refine U1 _ (Ev.load_old_agg tok (polC (b.pol k)) rfl rfl rfl (add_lt hlt2) (hbW.pol hkm)) rfl ?_ | refine U1 _ (U4 rfl rfl) rfl ?_ | refine U1 _ (U5 rfl rfl) rfl ?_ | refine U1 _ (U2 rfl) rfl ?_ | refine U1 _ (U3 tok rfl rfl rfl rfl rfl) rfl ?_) | (refine M4 ?_; first | refine M6 ?_ | refine U6 rfl (by kernel_rfl) ?_ | refine U7 (by kernel_rfl) ?_) | (refine M5 ?_; first | exact M7 | refine U8 rfl ?_ | refine U9 rfl rfl ?_ ?_))
    rename_i gx hgx
    repeat (first | (refine M0 ?_; first | refine O0 ?_ | refine z1 tok rfl ?_ | refine O1 rfl ?_ rfl | refine O2 rfl ?_ | refine O3 rfl ?_ rfl | refine U0 _ (Ev.call (f := 68) (ck rfl) rfl (fun w S => (refExact_any (p := ⟨some ad, b.rows.length, c1, some ad2, b.pols.length, c2⟩) (hbW.sys S) ho.rowsOk hv :))) rfl ?_ | refine O4 rfl rfl rfl (fun _ _ => ?_) | refine O5 tok rfl rfl rfl (fun _ _ => ?_) | refine U0 _ (U2 rfl) rfl ?_ | refine U0 _ (U3 tok rfl rfl rfl rfl rfl) rfl ?_ | refine z3 tok rfl ?_ | refine U0 _ (U4 rfl rfl) rfl ?_ | refine U0 _ (U5 rfl rfl) rfl ?_) | (refine M1 ?_; first | refine J0 ?_ | refine J1 ?_ | refine J2 mixed rfl (by kernel_rfl) ?_ | refine J3 mixed rfl rfl (by kernel_rfl) ?_ | refine J4 ?_ | refine J5 ?_ | refine J6 ?_ | refine J7 ?_ | refine J8 rfl ?_ | refine J9 rfl ?_) | (refine M2 ?_; first | refine I0 ?_ | refine I1 ?_ | refine I2 ?_ | refine I3 ?_ | refine I4 ?_ | refine I5 ?_ | refine I6 rfl ?_ | refine I7 ?_ | refine I8 ?_ | refine z4 ?_) | (refine M3 ?_; first | refine O6 ?_ | refine z2 tok rfl ?_ | refine O8 rfl ?_ | refine O7 rfl ?_ rfl | refine O9 rfl ?_ rfl | refine U1 _ (Ev.call (f := 68) (ck rfl) rfl (fun w S => (refExact_any (p := ⟨some ad, b.rows.length, c1, some ad2, b.pols.length, c2⟩) (hbW.sys S) ho.rowsOk hv :))) rfl ?_ | refine U1 _ (U4 rfl rfl) rfl ?_ | refine U1 _ (U5 rfl rfl) rfl ?_ | refine U1 _ (U2 rfl) rfl ?_ | refine U1 _ (U3 tok rfl rfl rfl rfl rfl) rfl ?_) | (refine M4 ?_; first | refine M6 ?_ | refine U6 rfl (by kernel_rfl) ?_ | refine U7 (by kernel_rfl) ?_) | (refine M5 ?_; first | exact M7 | refine U8 rfl ?_ | refine U9 rfl rfl ?_ ?_))
    refine XC.cutln [3, 4, 6, 7, 9, 11, 14, 15] rfl (fun _ : Unit => [(19, .int .i64 tk)]) (fun _ => []) (fun _ => True) ?_ (fun _ _ => ?_)
    · refine XC.cond _ rfl (fun h8 => ?_) (fun h8 => ?_)
      · simp only [decide_eq_true_eq] at h8
        have h8' : (b.pol k).sill * den b (polV b s (vol4 b s t) k) < num b (polV b s (vol4 b s t) k) := h8
        have hta := take_alt ho hkm h8'
        unfold takeOf at htkq
        rw [if_pos h8'] at htkq
        repeat (first | (refine M0 ?_; first | refine O0 ?_ | refine z1 tok rfl ?_ | refine O1 rfl ?_ rfl | refine O2 rfl ?_ | refine O3 rfl ?_ rfl | refine U0 _ (Ev.load_old tok rfl rfl (add_lt hlt3) (hc3 k (by omega))) rfl ?_ | refine O4 rfl rfl rfl (fun _ _ => ?_) | refine O5 tok rfl rfl rfl (fun _ _ => ?_) | refine U0 _ (U2 rfl) rfl ?_ | refine U0 _ (U3 tok rfl rfl rfl rfl rfl) rfl ?_ | refine z3 tok rfl ?_ | refine U0 _ (U4 rfl rfl) rfl ?_ | refine U0 _ (U5 rfl rfl) rfl ?_) | (refine M1 ?_; first | refine J0 ?_ | refine J1 ?_ | refine J2 mixed rfl (by kernel_rfl) ?_ | refine J3 mixed rfl rfl (by kernel_rfl) ?_ | refine J4 ?_ | refine J5 ?_ | refine J6 ?_ | refine J7 ?_ | refine J8 rfl ?_ | refine J9 rfl ?_) | (refine M2 ?_; first | refine I0 ?_ | refine I1 ?_ | refine I2 ?_ | refine I3 ?_ | refine I4 ?_ | refine I5 ?_ | refine I6 rfl ?_ | refine I7 ?_ | refine I8 ?_ | refine z4 ?_) | (refine M3 ?_; first | refine O6 ?_ | refine z2 tok rfl ?_ | refine O8 rfl ?_ | refine O7 rfl ?_ rfl | refine O9 rfl ?_ rfl | refine U1 _ (Ev.load_old tok rfl rfl (add_lt hlt3) (hc3 k (by omega))) rfl ?_ | refine U1 _ (U4 rfl rfl) rfl ?_ | refine U1 _ (U5 rfl rfl) rfl ?_ | refine U1 _ (U2 rfl) rfl ?_ | refine U1 _ (U3 tok rfl rfl rfl rfl rfl) rfl ?_) | (refine M4 ?_; first | refine M6 ?_ | refine U6 rfl (by kernel_rfl) ?_ | refine U7 (by kernel_rfl) ?_) | (refine M5 ?_; first | exact M7 | refine U8 rfl ?_ | refine U9 rfl rfl ?_ ?_))
        rw [hta]
        rw [show min ((b.pol k).take * (num b (polV b s (vol4 b s t) k) - (b.pol k).sill * den b (polV b s (vol4 b s t) k)) / den b (polV b s (vol4 b s t) k)) ((b.pol k).room - at0 s.fil k) = tk from htkq.symm]
        refine XE.leaf () (by repeat (first | exact Sub.nil | refine Sub.cons rfl ?_)) (fun _ S' => by first | exact S' | exact S'.perm (by repeat (first | exact List.Perm.refl _ | refine perm1 ?_ | refine List.Perm.cons _ ?_ | refine perm2 ?_)) | exact (S'.pop (by assumption)) | exact (S'.pop2 (by assumption))) ?_
        trivial
      · simp only [decide_eq_false_iff_not] at h8
        unfold takeOf at htkq
        rw [if_neg h8] at htkq
        rw [htkq]
        repeat (first | (refine M0 ?_; first | refine O0 ?_ | refine z1 tok rfl ?_ | refine O1 rfl ?_ rfl | refine O2 rfl ?_ | refine O3 rfl ?_ rfl | refine O4 rfl rfl rfl (fun _ _ => ?_) | refine O5 tok rfl rfl rfl (fun _ _ => ?_) | refine U0 _ (U2 rfl) rfl ?_ | refine U0 _ (U3 tok rfl rfl rfl rfl rfl) rfl ?_ | refine z3 tok rfl ?_ | refine U0 _ (U4 rfl rfl) rfl ?_ | refine U0 _ (U5 rfl rfl) rfl ?_) | (refine M1 ?_; first | refine J0 ?_ | refine J1 ?_ | refine J2 mixed rfl (by kernel_rfl) ?_ | refine J3 mixed rfl rfl (by kernel_rfl) ?_ | refine J4 ?_ | refine J5 ?_ | refine J6 ?_ | refine J7 ?_ | refine J8 rfl ?_ | refine J9 rfl ?_) | (refine M2 ?_; first | refine I0 ?_ | refine I1 ?_ | refine I2 ?_ | refine I3 ?_ | refine I4 ?_ | refine I5 ?_ | refine I6 rfl ?_ | refine I7 ?_ | refine I8 ?_ | refine z4 ?_) | (refine M3 ?_; first | refine O6 ?_ | refine z2 tok rfl ?_ | refine O8 rfl ?_ | refine O7 rfl ?_ rfl | refine O9 rfl ?_ rfl | refine U1 _ (U4 rfl rfl) rfl ?_ | refine U1 _ (U5 rfl rfl) rfl ?_ | refine U1 _ (U2 rfl) rfl ?_ | refine U1 _ (U3 tok rfl rfl rfl rfl rfl) rfl ?_) | (refine M4 ?_; first | refine M6 ?_ | refine U6 rfl (by kernel_rfl) ?_ | refine U7 (by kernel_rfl) ?_) | (refine M5 ?_; first | exact M7 | refine U8 rfl ?_ | refine U9 rfl rfl ?_ ?_))
        refine XE.leaf () (by repeat (first | exact Sub.nil | refine Sub.cons rfl ?_)) (fun _ S' => by first | exact S' | exact S'.perm (by repeat (first | exact List.Perm.refl _ | refine perm1 ?_ | refine List.Perm.cons _ ?_ | refine perm2 ?_)) | exact (S'.pop (by assumption)) | exact (S'.pop2 (by assumption))) ?_
        trivial
    dsimp only [List.cons_append, List.nil_append]
    rw [← htkq] at htk
    have k6 : i64in (at0 s.fil k + tk) := by have : i64in (s.f k + tk) := (by unfold i64in; omega); exact this
    repeat (first | (refine M0 ?_; first | refine O0 ?_ | refine z1 tok rfl ?_ | refine O1 rfl ?_ rfl | refine O2 rfl ?_ | refine O3 rfl ?_ rfl | refine O4 rfl rfl rfl (fun _ _ => ?_) | refine O5 tok rfl rfl rfl (fun _ _ => ?_) | refine U0 _ (U2 rfl) rfl ?_ | refine U0 _ (U3 tok rfl rfl rfl rfl rfl) rfl ?_ | refine z3 tok rfl ?_ | refine U0 _ (U4 rfl rfl) rfl ?_ | refine U0 _ (U5 rfl rfl) rfl ?_) | (refine M1 ?_; first | refine J0 ?_ | refine J1 ?_ | refine J2 mixed rfl (by kernel_rfl) ?_ | refine J3 mixed rfl rfl (by kernel_rfl) ?_ | refine J4 ?_ | refine J5 ?_ | refine J6 ?_ | refine J7 ?_ | refine J8 rfl ?_ | refine J9 rfl ?_) | (refine M2 ?_; first | refine I0 ?_ | refine I1 ?_ | refine I2 ?_ | refine I3 ?_ | refine I4 ?_ | refine I5 ?_ | refine I6 rfl ?_ | refine I7 ?_ | refine I8 ?_ | refine z4 ?_) | (refine M3 ?_; first | refine O6 ?_ | refine z2 tok rfl ?_ | refine O8 rfl ?_ | refine O7 rfl ?_ rfl | refine O9 rfl ?_ rfl | refine U1 _ (U4 rfl rfl) rfl ?_ | refine U1 _ (U5 rfl rfl) rfl ?_ | refine U1 _ (U2 rfl) rfl ?_ | refine U1 _ (U3 tok rfl rfl rfl rfl rfl) rfl ?_) | (refine M4 ?_; first | refine M6 ?_ | refine U6 rfl (by kernel_rfl) ?_ | refine U7 (by kernel_rfl) ?_) | (refine M5 ?_; first | exact M7 | refine U8 rfl ?_ | refine U9 rfl rfl ?_ ?_))
    refine XL.buildSlice tok rfl rfl rfl rfl rfl rfl rfl rfl rfl (fun gb hgb => ?_)
    have hWs : w.heap.size ≤ W.heap.size := hBW.size
    refine XL.append2 (v := svV rT) (m := 1) (n := k) (size := 1) (bytes := 8) (news := [.int .i64 tk]) int_el (by decide) rfl rfl rfl hoT
      (fun q hq' e he e1 => by
        have h9 := (sT q hq').1
        have h10 := hoT.lt q hq'
        simp only [List.mem_cons, List.not_mem_nil, or_false, not_or] at h9 he
        rcases he with rfl | rfl | rfl | rfl | rfl | rfl | rfl | rfl <;> simp only at e1 <;> omega) rfl
      (fun w' S j u hj => by rw [add_off]; exact (S.cell (List.mem_cons_self) _).trans (by simpa using hj)) rfl (by unfold maxLen; omega) (by omega) hWs
      (List.Sublist.cons _ (List.Sublist.cons _ (List.Sublist.refl _))) (fun w1 v1 w2 S1 ho1 hg1 _ hf1 => ?_)
    obtain ⟨r2, rfl, hr2⟩ := owns_sv ho1
    have hids := fun e he => S1.lt (e := e) he
    simp only [List.mem_cons, forall_eq_or_imp, List.not_mem_nil, false_implies, implies_true, and_true] at hids
    have hBW2 : Below w.heap.size w w2 := hBW.trans (grown_below S1 hg1 (fun q hq' => (hoT.lt q hq').1))
    have hW1 : W.heap.size ≤ w1.heap.size := S1.size
    have hF1 : w1.ownsRow w.heap.size 3 1 (svV rF) k (ints (rg k fun i => s.f i + polT b s (vol4 b s t) i)) := owns_sys hoF S1 (fun q hq' e he e1 => by
      have h9 := sF q hq'
      have h10 := hoF.lt q hq'
      simp only [List.mem_cons, List.not_mem_nil, or_false, not_or] at h9 he
      rcases he with rfl | rfl | rfl | rfl | rfl | rfl | rfl | rfl <;> simp only at e1 <;> omega)
    have hF2 := hF1.kept hg1 (by
      cases hx : (svV rF).ownBlock with
      | none => exact .inl rfl
      | some q => exact .inr fun e => (sT q e.symm).2 hx)
    have hqW2 := hq.below hBW2
    obtain ⟨ad3', e3', hlt3', hc3'⟩ := hqW2.at_ (by omega)
    cases e3'
    simp only [svV]
    repeat (first | (refine M0 ?_; first | refine O0 ?_ | refine z1 tok rfl ?_ | refine O1 rfl ?_ rfl | refine O2 rfl ?_ | refine O3 rfl ?_ rfl | refine U0 _ (Ev.load_old tok rfl rfl (add_lt hlt3') (hc3' k (by omega))) rfl ?_ | refine O4 rfl rfl rfl (fun _ _ => ?_) | refine O5 tok rfl rfl rfl (fun _ _ => ?_) | refine U0 _ (U2 rfl) rfl ?_ | refine U0 _ (U3 tok rfl rfl rfl rfl rfl) rfl ?_ | refine z3 tok rfl ?_ | refine U0 _ (U4 rfl rfl) rfl ?_ | refine U0 _ (U5 rfl rfl) rfl ?_) | (refine M1 ?_; first | refine J0 ?_ | refine J1 ?_ | refine J2 mixed rfl (by kernel_rfl) ?_ | refine J3 mixed rfl rfl (by kernel_rfl) ?_ | refine J4 ?_ | refine J5 ?_ | refine J6 ?_ | refine J7 ?_ | refine J8 rfl ?_ | refine J9 rfl ?_) | (refine M2 ?_; first | refine I0 ?_ | refine I1 ?_ | refine I2 ?_ | refine I3 ?_ | refine I4 ?_ | refine I5 ?_ | refine I6 rfl ?_ | refine I7 ?_ | refine I8 ?_ | refine z4 ?_) | (refine M3 ?_; first | refine O6 ?_ | refine z2 tok rfl ?_ | refine O8 rfl ?_ | refine O7 rfl ?_ rfl | refine O9 rfl ?_ rfl | refine U1 _ (Ev.load_old tok rfl rfl (add_lt hlt3') (hc3' k (by omega))) rfl ?_ | refine U1 _ (U4 rfl rfl) rfl ?_ | refine U1 _ (U5 rfl rfl) rfl ?_ | refine U1 _ (U2 rfl) rfl ?_ | refine U1 _ (U3 tok rfl rfl rfl rfl rfl) rfl ?_) | (refine M4 ?_; first | refine M6 ?_ | refine U6 rfl (by kernel_rfl) ?_ | refine U7 (by kernel_rfl) ?_) | (refine M5 ?_; first | exact M7 | refine U8 rfl ?_ | refine U9 rfl rfl ?_ ?_))
    refine XL.buildSlice tok rfl rfl rfl rfl rfl rfl rfl rfl rfl (fun gb2 hgb2 => ?_)
    refine XL.append2 (v := svV rF) (m := 1) (n := k) (size := 1) (bytes := 8) (news := [.int .i64 (at0 s.fil k + tk)]) int_el (by decide) rfl rfl rfl hF2
      (fun q hq' e he e1 => by
        have h9 := sF q hq'
        have h10 := hF2.lt q hq'
        simp only [List.mem_cons, List.not_mem_nil, or_false, not_or] at h9 he
        rcases he with rfl | rfl | rfl | rfl | rfl | rfl | rfl <;> simp only at e1 <;> omega) rfl
      (fun w' S j u hj => by rw [add_off]; exact (S.cell (List.mem_cons_self) _).trans (by simpa using hj)) rfl (by unfold maxLen; omega) (by omega) hBW2.size
      (List.Sublist.cons _ (List.Sublist.refl _)) (fun w3 v3 w4 S3 ho3 hg3 _ hf3 => ?_)
    obtain ⟨r3, rfl, hr3⟩ := owns_sv ho3
    have h12 : w1.heap.size ≤ w2.heap.size := hg1.size
    have h23 : w2.heap.size ≤ w3.heap.size := S3.size
    have hBW4 : Below w.heap.size w w4 := hBW2.trans (grown_below S3 hg3 (fun q hq' => (hF2.lt q hq').1))
    have hT2 : ∀ q, (svV r2).ownBlock = some q → q ∉ [g9, g7, g6, g5, g4, g3] ∧ (svV rF).ownBlock ≠ some q ∧ w.heap.size ≤ q ∧ q < w2.heap.size := fun q hq' => by
      have h10 := ho1.lt q hq'
      rcases hf1 q hq' with h9 | h9
      · exact ⟨(sT q h9).1, (sT q h9).2, h10⟩
      · refine ⟨?_, fun hx => ?_, h10⟩
        · simp only [List.mem_cons, List.not_mem_nil, or_false, not_or]; omega
        · have := hoF.lt q hx; omega
    have hT3 : w3.ownsRow w.heap.size 3 1 (svV r2) (k + 1) (ints (rg k fun i => polT b s (vol4 b s t) i) ++ [.int .i64 tk]) := owns_sys ho1 S3 (fun q hq' e he e1 => by
      have h9 := hT2 q hq'
      simp only [List.mem_cons, List.not_mem_nil, or_false, not_or] at h9 he
      rcases he with rfl | rfl | rfl | rfl | rfl | rfl | rfl <;> simp only at e1 <;> omega)
    have hT4 := hT3.kept hg3 (by
      cases hx : (svV r2).ownBlock with
      | none => exact .inl rfl
      | some q => exact .inr fun e => (hT2 q hx).2.1 e.symm)
    simp only [svV]
    repeat (first | (refine M0 ?_; first | refine O0 ?_ | refine z1 tok rfl ?_ | refine O1 rfl ?_ rfl | refine O2 rfl ?_ | refine O3 rfl ?_ rfl | refine O4 rfl rfl rfl (fun _ _ => ?_) | refine O5 tok rfl rfl rfl (fun _ _ => ?_) | refine U0 _ (U2 rfl) rfl ?_ | refine U0 _ (U3 tok rfl rfl rfl rfl rfl) rfl ?_ | refine z3 tok rfl ?_ | refine U0 _ (U4 rfl rfl) rfl ?_ | refine U0 _ (U5 rfl rfl) rfl ?_) | (refine M1 ?_; first | refine J0 ?_ | refine J1 ?_ | refine J2 mixed rfl (by kernel_rfl) ?_ | refine J3 mixed rfl rfl (by kernel_rfl) ?_ | refine J4 ?_ | refine J5 ?_ | refine J6 ?_ | refine J7 ?_ | refine J8 rfl ?_ | refine J9 rfl ?_) | (refine M2 ?_; first | refine I0 ?_ | refine I1 ?_ | refine I2 ?_ | refine I3 ?_ | refine I4 ?_ | refine I5 ?_ | refine I6 rfl ?_ | refine I7 ?_ | refine I8 ?_ | refine z4 ?_) | (refine M3 ?_; first | refine O6 ?_ | refine z2 tok rfl ?_ | refine O8 rfl ?_ | refine O7 rfl ?_ rfl | refine O9 rfl ?_ rfl | refine U1 _ (U4 rfl rfl) rfl ?_ | refine U1 _ (U5 rfl rfl) rfl ?_ | refine U1 _ (U2 rfl) rfl ?_ | refine U1 _ (U3 tok rfl rfl rfl rfl rfl) rfl ?_) | (refine M4 ?_; first | refine M6 ?_ | refine U6 rfl (by kernel_rfl) ?_ | refine U7 (by kernel_rfl) ?_) | (refine M5 ?_; first | exact M7 | refine U8 rfl ?_ | refine U9 rfl rfl ?_ ?_))
    refine XE.roundW (s := (k, W, rF, rT)) ?_
    intro w5 S5
    have e5 : polV b s (vol4 b s t) (k + 1) = polV b s (vol4 b s t) k - tk := by rw [htkq]; rfl
    have e6 : ints (rg (k + 1) fun i => polT b s (vol4 b s t) i) = ints (rg k fun i => polT b s (vol4 b s t) i) ++ [.int .i64 tk] := by rw [rg_succ, htkq]; simp [ints, polT]
    have e7 : ints (rg (k + 1) fun i => s.f i + polT b s (vol4 b s t) i) = ints (rg k fun i => s.f i + polT b s (vol4 b s t) i) ++ [.int .i64 (at0 s.fil k + tk)] := by rw [rg_succ, htkq]; simp [ints, polT]; rfl
    have hF3 : ∀ q, (svV r3).ownBlock = some q → q ∉ [g9, g7, g6, g5, g4, g3] ∧ (svV r2).ownBlock ≠ some q ∧ w.heap.size ≤ q := fun q hq' => by
      have h10 := ho3.lt q hq'
      rcases hf3 q hq' with h9 | h9
      · exact ⟨sF q h9, fun hx => (hT2 q hx).2.1 h9, h10.1⟩
      · refine ⟨?_, fun hx => ?_, h10.1⟩
        · simp only [List.mem_cons, List.not_mem_nil, or_false, not_or]; omega
        · have := (hT2 q hx).2.2.2; omega
    have sepL : ∀ (v : SV), (∀ x, (svV v).ownBlock = some x → x ∉ [g9, g7, g6, g5, g4, g3]) → ∀ k, (svV v).ownBlock = some k → ∀ e : Nat × Obj, e.1 ∈ [g9, g7, g6, g5, g4, g3] → e.1 ≠ k := fun v hv k hk e he e1 => hv k hk (e1 ▸ he)
    refine ⟨(k + 1, w5, r3, r2), ⟨hkm, hBW4.trans S5.toBelow, ?_, ?_, fun q hq' => (hF3 q hq').1, fun q hq' => ⟨(hT2 q hq').1, fun hx => (hF3 q hx).2.1 hq'⟩⟩, ?_, ?_, ?_⟩
    · simp only [e7]
      exact owns_sys ho3 S5 (fun q hk e he => sepL r3 (fun x hx => (hF3 x hx).1) q hk e (by simp only [List.mem_cons, List.not_mem_nil, or_false] at he ⊢; rcases he with rfl | rfl | rfl | rfl | rfl | rfl <;> simp))
    · simp only [e6]
      exact owns_sys hT4 S5 (fun q hk e he => sepL r2 (fun x hx => (hT2 x hx).1) q hk e (by simp only [List.mem_cons, List.not_mem_nil, or_false] at he ⊢; rcases he with rfl | rfl | rfl | rfl | rfl | rfl <;> simp))
    · simp only; omega
    · simp only [e5]; exact (by repeat (first | exact Sub.nil | refine Sub.cons rfl ?_))
    · exact S5.rebase (List.Sublist.refl _)
  · have hge : k = b.pols.length := by simp at h7; omega
    subst hge
    repeat (first | (refine M0 ?_; first | refine O0 ?_ | refine z1 tok rfl ?_ | refine O1 rfl ?_ rfl | refine O2 rfl ?_ | refine O3 rfl ?_ rfl | refine O4 rfl rfl rfl (fun _ _ => ?_) | refine O5 tok rfl rfl rfl (fun _ _ => ?_) | refine U0 _ (U2 rfl) rfl ?_ | refine U0 _ (U3 tok rfl rfl rfl rfl rfl) rfl ?_ | refine z3 tok rfl ?_ | refine U0 _ (U4 rfl rfl) rfl ?_ | refine U0 _ (U5 rfl rfl) rfl ?_) | (refine M1 ?_; first | refine J0 ?_ | refine J1 ?_ | refine J2 mixed rfl (by kernel_rfl) ?_ | refine J3 mixed rfl rfl (by kernel_rfl) ?_ | refine J4 ?_ | refine J5 ?_ | refine J6 ?_ | refine J7 ?_ | refine J8 rfl ?_ | refine J9 rfl ?_) | (refine M2 ?_; first | refine I0 ?_ | refine I1 ?_ | refine I2 ?_ | refine I3 ?_ | refine I4 ?_ | refine I5 ?_ | refine I6 rfl ?_ | refine I7 ?_ | refine I8 ?_ | refine z4 ?_) | (refine M3 ?_; first | refine O6 ?_ | refine z2 tok rfl ?_ | refine O8 rfl ?_ | refine O7 rfl ?_ rfl | refine O9 rfl ?_ rfl | refine U1 _ (U4 rfl rfl) rfl ?_ | refine U1 _ (U5 rfl rfl) rfl ?_ | refine U1 _ (U2 rfl) rfl ?_ | refine U1 _ (U3 tok rfl rfl rfl rfl rfl) rfl ?_) | (refine M4 ?_; first | refine M6 ?_ | refine U6 rfl (by kernel_rfl) ?_ | refine U7 (by kernel_rfl) ?_) | (refine M5 ?_; first | exact M7 | refine U8 rfl ?_ | refine U9 rfl rfl ?_ ?_))
    refine XC.drawRS _ [(g9, cel 32 [.int .i64 (floK b s t 4).river, .int .i64 (floK b s t 4).over, .int .i64 (floK b s t 4).leak, .int .i64 (floK b s t 4).out, .slice rT.A rT.n rT.c])] [0, 1, 2, 3] [4, 5, 6] mixed (fun _ h => Sys.anchor (by assumption) h (by simp) (by simp)) rfl (by kernel_rfl) ?_
    repeat (any_goals (first | (refine M0 ?_; first | refine O0 ?_ | refine z1 tok rfl ?_ | refine O1 rfl ?_ rfl | refine O2 rfl ?_ | refine O3 rfl ?_ rfl | (refine XL.split _ _ rfl (fun h => ?_) (fun h => ?_) <;> rw [h]) | refine O4 rfl rfl rfl (fun _ _ => ?_) | refine O5 tok rfl rfl rfl (fun _ _ => ?_) | refine U0 _ (U2 rfl) rfl ?_ | refine U0 _ (U3 tok rfl rfl rfl rfl rfl) rfl ?_ | refine z3 tok rfl ?_ | refine U0 _ (U4 rfl rfl) rfl ?_ | refine U0 _ (U5 rfl rfl) rfl ?_) | (refine M1 ?_; first | refine J0 ?_ | refine J1 ?_ | refine J2 mixed rfl (by kernel_rfl) ?_ | refine J3 mixed rfl rfl (by kernel_rfl) ?_ | refine J4 ?_ | refine J5 ?_ | refine J6 ?_ | refine J7 ?_ | refine J8 rfl ?_ | refine J9 rfl ?_ | refine XC.cond _ rfl (fun h => ?_) (fun h => ?_)) | (refine M2 ?_; first | refine I0 ?_ | refine I1 ?_ | refine I2 ?_ | refine I3 ?_ | refine I4 ?_ | refine I5 ?_ | refine I6 rfl ?_ | refine I7 ?_ | refine I8 ?_ | refine z4 ?_) | (refine M3 ?_; first | refine O6 ?_ | refine z2 tok rfl ?_ | refine O8 rfl ?_ | refine O7 rfl ?_ rfl | refine O9 rfl ?_ rfl | (refine Fw.split _ _ rfl (fun h => ?_) (fun h => ?_) <;> rw [h]) | refine U1 _ (U4 rfl rfl) rfl ?_ | refine U1 _ (U5 rfl rfl) rfl ?_ | refine U1 _ (U2 rfl) rfl ?_ | refine U1 _ (U3 tok rfl rfl rfl rfl rfl) rfl ?_) | (refine M4 ?_; first | refine M6 ?_ | refine U6 rfl (by kernel_rfl) ?_ | refine U7 (by kernel_rfl) ?_) | (refine M5 ?_; first | exact M7 | refine U8 rfl ?_ | refine U9 rfl rfl ?_ ?_)))
    refine XE.retg tok Tryd.results49 rfl (by simp only [and_self, and_true]) (fun w' S => ?_)
    have sepL : ∀ (v : SV), (∀ x, (svV v).ownBlock = some x → x ∉ [g9, g7, g6, g5, g4, g3]) → ∀ k, (svV v).ownBlock = some k → ∀ e : Nat × Obj, e.1 ∈ [g9, g7, g6, g5, g4, g3] → e.1 ≠ k := fun v hv k hk e he e1 => hv k hk (e1 ▸ he)
    refine ⟨_, rfl, rF, rT, by rw [outS_0 hE, outF_0 hE, hE]; rfl, ?_, ?_, hBW.trans S.toBelow⟩
    · rw [outS_0 hE]
      refine IntsAt.own (e := 3) ?_
      have := owns_sys hoF S (fun k hk e he => sepL rF sF k hk e (by simp only [List.mem_cons, List.not_mem_nil, or_false] at he ⊢; rcases he with rfl | rfl | rfl | rfl | rfl | rfl <;> simp))
      have hfil : (stepS b s t).fil.length = b.pols.length := by simp [stepS, rg_len]
      rw [hfil]; exact this
    · rw [outF_0 hE]
      refine IntsAt.own (e := 3) ?_
      have := owns_sys hoT S (fun k hk e he => sepL rT (fun x hx => (sT x hx).1) k hk e (by simp only [List.mem_cons, List.not_mem_nil, or_false] at he ⊢; rcases he with rfl | rfl | rfl | rfl | rfl | rfl <;> simp))
      have hfil : (stepF b s t).taken.length = b.pols.length := by simp [stepF, rg_len]
      rw [hfil]; exact this
end Go.Proofs.YtoiepgcjinccpaaDoor.X
