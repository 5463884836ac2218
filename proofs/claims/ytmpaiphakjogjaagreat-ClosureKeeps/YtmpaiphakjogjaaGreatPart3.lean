/-
  The walk of the document's step.
-/
import Derived.Test.YtmpaiphakjogjaaGreatPart2
import Derived.Deep.Slices
import Derived.WideShapes
import Derived.ChangeArms
import Derived.ChangeOld
import Derived.RangeFuncIn
import Derived.RangeFuncRecord
import Derived.RangeFuncLeaves
import Derived.RangeFuncCalls
import Derived.TacticsIn
import Derived.LaidEql
import Derived.Test.YtmpaiphakjogjaaGreatPart1
import Derived.Laws.MakeOwn
import Derived.Scope
import Derived.Laws.Small
import Derived.DeepKeys3
import Derived.Laws.CopyRow
import Derived.Laws.IdiomCopy
import Derived.OrdersIn
import Derived.Test.YtmpaiphakjogjaaGreatProg
import Derived.WalkKit
import Derived.Stop.Asserts
import Derived.RowKitTokens
import Derived.KernelRfl
import Derived.Laws.StructEq
set_option linter.unusedVariables false
set_option linter.unusedSimpArgs false
namespace Go.Proofs.YtmpaiphakjogjaaGreat.X
open Go Go.RowKit Go.Proofs.YtmpaiphakjogjaaGreat.Bs
theorem leak_alt (b : Bas) (outer v : Int) : b.leak * (outer * den b v - num b v) = b.leak * (-(num b v) - (-outer) * den b v) := by rw [Int.neg_mul]; congr 1; omega
theorem take_alt {b : Bas} (ho : Ok b) {v : Int} {i : Nat} (hi : i < b.pols.length) (h2 : (b.pol i).sill * den b v < num b v) :
    ((b.pol i).take * (num b v - (b.pol i).sill * den b v)).tdiv (den b v) = (b.pol i).take * (num b v - (b.pol i).sill * den b v) / den b v :=
  Int.tdiv_eq_ediv_of_nonneg (Int.mul_nonneg (ho.take i hi).1 (by omega))
set_option maxHeartbeats 16000000 in
theorem refStep_any {p : BV} {b : Bas} {q : SV} {s : Sta} {t : Tick} {w : World} (hb : BasAt w w.heap.size p b) (hq : IntsAt w (Lt w.heap.size) q s.fil) (ho : Ok b) (hs : StaOk b s) :
    Calls Tryz.prog 115 #[basV p b, staV q s, tickV t] w fun e w' => ∃ v, e = .returned v ∧ StepR b s t w v w' := by
  have hm := ho.m6
  have hl := hs.len
  obtain ⟨A, n, c⟩ := q
  have hn := hq.len
  simp only at hn
  subst hn
  obtain ⟨Ap, n1, c1, A2, n2, c2⟩ := p
  have hn1 := hb.n_eq
  have hn2 := hb.n2_eq
  simp only at hn1 hn2
  subst hn1 hn2
  have h2r := ho.n2
  obtain ⟨ad, rfl, hlt⟩ := hb.rows.addr (by simp only; omega)
  simp only [basV, basC, staV, staC, tickV, tickC]
  refine enter Tryz.func115 rfl Tryz.ntmps115 rfl ?_; simp only [frame, Nat.zero_add, Nat.reduceAdd]
  repeat (any_goals (first | (refine M0 ?_; first | refine SL ?_ | refine SB fun _ _ => ?_ | (refine XL.split _ _ rfl (fun h => ?_) (fun h => ?_) <;> rw [h]) | refine Y4 (Ev.call (f := 120) (ck rfl) rfl (fun w _ => level_any _ w)) ?_ | refine Y4 (Ev.call (f := 119) (ck rfl) rfl (fun w _ => in_any _ _ _ w)) ?_) | (refine M1 ?_; first | refine SC ?_ | refine SD ?_ | refine XC.cond _ rfl (fun h => ?_) (fun h => ?_)) | (refine M2 ?_; refine SE ?_) | (refine M3 ?_; first | refine SG ?_ | refine SF ?_ | (refine Fw.split _ _ rfl (fun h => ?_) (fun h => ?_) <;> rw [h]) | refine YF (Ev.call (f := 120) (ck rfl) rfl (fun w _ => level_any _ w)) ?_ | refine YF (Ev.call (f := 119) (ck rfl) rfl (fun w _ => in_any _ _ _ w)) ?_) | (refine M4 ?_; refine SR ?_) | (refine M5 ?_; first | exact M7 | refine YM ?_ | refine YN ?_ ?_)))
  all_goals simp only [Bool.not_not] at *
  all_goals try (refine XE.retg tok Tryz.results115 rfl (by simp only [and_self, and_true]) (fun w' S => ?_)
                 refine ⟨_, rfl, StepR.err (stepE_7 (by simp [tickBad, *])) (by decide) S.toBelow⟩)
  rename_i g3 hg3 g4 hg4 g5 hg5 g6 hg6 g7 hg7 h1 h2
  have h3 := h
  have hbad : tickBad t = false := by simp [tickBad, *]
  have o1 := outB_f.1 h1
  have o2 := outB_f.1 h2
  have o3 := outB_f.1 h3
  have hv0 := v0_bd ho
  have hvs := hs.vol
  have hov := over_bd ho t o1
  have hcr := ho.crest
  have e1 : vol1 s t = s.vol + t.river := rfl
  have e2 : vol2 b s t = vol1 s t + overOf b t := rfl
  have e0 : b.v0 = (b.row 0).vol := rfl
  have k0 : i64in (overOf b t) := by unfold i64in; omega
  have k1 : i64in (b.over * max 0 (t.outer - b.crest)) := k0
  repeat (first | (refine M0 ?_; first | refine SL ?_ | refine SB fun _ _ => ?_ | refine Y4 (Ev.load_old tok rfl rfl (add_lt2 hlt) (hb.rowVol (i := 0) (by omega))) ?_) | (refine M1 ?_; first | refine SC ?_ | refine SD ?_) | (refine M2 ?_; refine SE ?_) | (refine M3 ?_; first | refine SG ?_ | refine SF ?_ | refine YF (Ev.load_old tok rfl rfl (add_lt2 hlt) (hb.rowVol (i := 0) (by omega))) ?_) | (refine M4 ?_; refine SR ?_) | (refine M5 ?_; first | exact M7 | refine YM ?_ | refine YN ?_ ?_))
  rename_i g9 hg9
  refine XC.cond _ rfl (fun h4 => ?_) (fun h4 => ?_)
  · simp only [decide_eq_true_eq] at h4
    repeat (first | (refine M0 ?_; first | refine SL ?_ | refine SB fun _ _ => ?_) | (refine M1 ?_; first | refine SC ?_ | refine SD ?_) | (refine M2 ?_; refine SE ?_) | (refine M3 ?_; first | refine SG ?_ | refine SF ?_) | (refine M4 ?_; refine SR ?_) | (refine M5 ?_; first | exact M7 | refine YM ?_ | refine YN ?_ ?_))
    refine XE.retg tok Tryz.results115 rfl (by simp only [and_self, and_true]) (fun w' S => ?_)
    exact ⟨_, rfl, StepR.err (stepE_3 hbad (.inl h4)) (by decide) S.toBelow⟩
  simp only [decide_eq_false_iff_not] at h4
  have k2 : i64in (s.vol + t.river + b.over * max 0 (t.outer - b.crest)) := by have : i64in (s.vol + t.river + overOf b t) := (by unfold i64in; omega); exact this
  repeat (first | (refine M0 ?_; first | refine SL ?_ | refine SB fun _ _ => ?_) | (refine M1 ?_; first | refine SC ?_ | refine SD ?_) | (refine M2 ?_; refine SE ?_) | (refine M3 ?_; first | refine SG ?_ | refine SF ?_) | (refine M4 ?_; refine SR ?_) | (refine M5 ?_; first | exact M7 | refine YM ?_ | refine YN ?_ ?_))
  refine XC.cond _ rfl (fun h5 => ?_) (fun h5 => ?_)
  · simp only [decide_eq_true_eq] at h5
    repeat (first | (refine M0 ?_; first | refine SL ?_ | refine SB fun _ _ => ?_) | (refine M1 ?_; first | refine SC ?_ | refine SD ?_) | (refine M2 ?_; refine SE ?_) | (refine M3 ?_; first | refine SG ?_ | refine SF ?_) | (refine M4 ?_; refine SR ?_) | (refine M5 ?_; first | exact M7 | refine YM ?_ | refine YN ?_ ?_))
    refine XE.retg tok Tryz.results115 rfl (by simp only [and_self, and_true]) (fun w' S => ?_)
    exact ⟨_, rfl, StepR.err (stepE_3 hbad (.inr (.inl h5))) (by decide) S.toBelow⟩
  simp only [decide_eq_false_iff_not] at h5
  rw [show s.vol + t.river + b.over * max 0 (t.outer - b.crest) = vol2 b s t from rfl] at *
  rw [show b.over * max 0 (t.outer - b.crest) = overOf b t from rfl] at *
  have hv2 : b.v0 ≤ vol2 b s t ∧ vol2 b s t ≤ 1000000000 := by omega
  have hd := den_pos ho.rowsOk (vol2 b s t)
  have hnm := num_bd ho.rowsOk hv2
  obtain ⟨j1, j2, j3⟩ := leakQ_bd ho hv2 o1
  rw [← leak_alt] at j2
  have j4 : -20000000000000 ≤ t.outer * den b (vol2 b s t) ∧ t.outer * den b (vol2 b s t) ≤ 20000000000000 := by rw [Int.neg_mul] at j1; omega
  repeat (first | (refine M0 ?_; first | refine SL ?_ | refine SB fun _ _ => ?_ | refine Y4 (Ev.call (f := 117) (ck rfl) rfl (fun w S => (refExact_any (p := ⟨some ad, b.rows.length, c1, A2, b.pols.length, c2⟩) (hb.sys S) ho.rowsOk hv2 :))) ?_ | refine Y4 (Ev.call (f := 118) (ck rfl) rfl (fun w S => (down_any (a := b.leak * (t.outer * den b (vol2 b s t) - num b (vol2 b s t))) (b := den b (vol2 b s t)) hd.1 (by omega) w :))) ?_) | (refine M1 ?_; first | refine SC ?_ | refine SD ?_) | (refine M2 ?_; refine SE ?_) | (refine M3 ?_; first | refine SG ?_ | refine SF ?_ | refine YF (Ev.call (f := 117) (ck rfl) rfl (fun w S => (refExact_any (p := ⟨some ad, b.rows.length, c1, A2, b.pols.length, c2⟩) (hb.sys S) ho.rowsOk hv2 :))) ?_ | refine YF (Ev.call (f := 118) (ck rfl) rfl (fun w S => (down_any (a := b.leak * (t.outer * den b (vol2 b s t) - num b (vol2 b s t))) (b := den b (vol2 b s t)) hd.1 (by omega) w :))) ?_) | (refine M4 ?_; refine SR ?_) | (refine M5 ?_; first | exact M7 | refine YM ?_ | refine YN ?_ ?_))
  rw [show max (b.leak * (t.outer * den b (vol2 b s t) - num b (vol2 b s t)) / den b (vol2 b s t)) ((b.row 0).vol - vol2 b s t) = leakOf b t.outer (vol2 b s t) from by unfold leakOf leakQ; rw [leak_alt]; rfl]
  have e3 : vol3 b s t = vol2 b s t + leakOf b t.outer (vol2 b s t) := rfl
  have e4 : b.v0 - vol2 b s t ≤ leakOf b t.outer (vol2 b s t) ∧ leakOf b t.outer (vol2 b s t) ≤ 900000000000000000 := by unfold leakOf; omega
  have k3 : i64in (vol2 b s t + leakOf b t.outer (vol2 b s t)) := by unfold i64in; omega
  repeat (first | (refine M0 ?_; first | refine SL ?_ | refine SB fun _ _ => ?_) | (refine M1 ?_; first | refine SC ?_ | refine SD ?_) | (refine M2 ?_; refine SE ?_) | (refine M3 ?_; first | refine SG ?_ | refine SF ?_) | (refine M4 ?_; refine SR ?_) | (refine M5 ?_; first | exact M7 | refine YM ?_ | refine YN ?_ ?_))
  refine XC.cond _ rfl (fun h6 => ?_) (fun h6 => ?_)
  · simp only [decide_eq_true_eq] at h6
    repeat (first | (refine M0 ?_; first | refine SL ?_ | refine SB fun _ _ => ?_) | (refine M1 ?_; first | refine SC ?_ | refine SD ?_) | (refine M2 ?_; refine SE ?_) | (refine M3 ?_; first | refine SG ?_ | refine SF ?_) | (refine M4 ?_; refine SR ?_) | (refine M5 ?_; first | exact M7 | refine YM ?_ | refine YN ?_ ?_))
    refine XE.retg tok Tryz.results115 rfl (by simp only [and_self, and_true]) (fun w' S => ?_)
    exact ⟨_, rfl, StepR.err (stepE_3 hbad (.inr (.inr h6))) (by decide) S.toBelow⟩
  simp only [decide_eq_false_iff_not] at h6
  rw [show vol2 b s t + leakOf b t.outer (vol2 b s t) = vol3 b s t from rfl] at *
  have hE : stepE b s t = 0 := stepE_0 hbad (by rw [e1]; omega) (by omega) (by omega)
  have hok := stepOk_of ho hs hE
  have hv3 := hok.v3
  have hv4 := hok.v4
  have k4 : i64in (vol3 b s t - (b.row 0).vol) := by unfold i64in; omega
  have k5 : i64in (vol3 b s t - min t.out (vol3 b s t - (b.row 0).vol)) := by have : i64in (vol4 b s t) := (by unfold i64in; omega); exact this
  repeat (first | (refine M0 ?_; first | refine SL ?_ | refine SB fun _ _ => ?_) | (refine M1 ?_; first | refine SC ?_ | refine SD ?_) | (refine M2 ?_; refine SE ?_) | (refine M3 ?_; first | refine SG ?_ | refine SF ?_) | (refine M4 ?_; refine SR ?_) | (refine M5 ?_; first | exact M7 | refine YM ?_ | refine YN ?_ ?_))
  rw [show min t.out (vol3 b s t - (b.row 0).vol) = outOf b s t from rfl]
  rw [show vol3 b s t - outOf b s t = vol4 b s t from rfl]
  refine XC.loopk [3, 4, 6, 7, 9] rfl (fun x : Nat × World × SV × SV => [(11, .int .i64 (polV b s (vol4 b s t) x.1)), (14, svV x.2.2.1), (15, .int .i64 (x.1 : Nat))])
    (fun x => [(g9, cel 158 (floC x.2.2.2 (floK b s t 4))), _, _, _, _, _]) (fun x => x.2.1)
    (fun x => x.1 ≤ b.pols.length ∧ Below w.heap.size w x.2.1 ∧ x.2.1.ownsRow w.heap.size 3 1 (svV x.2.2.1) x.1 (ints (rg x.1 fun i => s.f i + polT b s (vol4 b s t) i)) ∧
      x.2.1.ownsRow w.heap.size 3 1 (svV x.2.2.2) x.1 (ints (rg x.1 fun i => polT b s (vol4 b s t) i)) ∧ (∀ k, (svV x.2.2.1).ownBlock = some k → k ∉ [g9, g7, g6, g5, g4, g3]) ∧
      (∀ k, (svV x.2.2.2).ownBlock = some k → k ∉ [g9, g7, g6, g5, g4, g3] ∧ (svV x.2.2.1).ownBlock ≠ some k))
    (fun x => b.pols.length - x.1) (0, w, ⟨none, 0, 0⟩, ⟨none, 0, 0⟩) ⟨Nat.zero_le _, Below.refl _ _, World.ownsRow_nil _ _ _ _, World.ownsRow_nil _ _ _ _, fun k hk => (by cases hk), fun k hk => (by cases hk)⟩ ZZSUB (fun _ h => h) ?_
  rintro ⟨k, W, rF, rT⟩ ⟨hk, hBW, hoF, hoT, sF, sT⟩
  simp only at hk hBW hoF hoT sF sT
  simp only [floC, svV]
  dsimp only [List.cons_append, List.nil_append]
  repeat (first | (refine M0 ?_; first | refine SL ?_ | refine SB fun _ _ => ?_) | (refine M1 ?_; first | refine SC ?_ | refine SD ?_) | (refine M2 ?_; refine SE ?_) | (refine M3 ?_; first | refine SG ?_ | refine SF ?_) | (refine M4 ?_; refine SR ?_) | (refine M5 ?_; first | exact M7 | refine YM ?_ | refine YN ?_ ?_))
  refine XC.cond _ rfl (fun h7 => ?_) (fun h7 => ?_)
  · have hkm : k < b.pols.length := by simpa using h7
    have hbW := hb.below hBW
    have hqW := hq.below hBW
    obtain ⟨ad3, rfl, hlt3, hc3⟩ := hqW.at_ (by omega)
    obtain ⟨ad2, rfl, hlt2⟩ := hb.pols.addr (by simp only; omega)
    have hpv := polV_bd ho hs (v := vol4 b s t) hv4 k hk
    have hv : b.v0 ≤ polV b s (vol4 b s t) k ∧ polV b s (vol4 b s t) k ≤ 1000000000 := by omega
    have hdk := den_pos ho.rowsOk (polV b s (vol4 b s t) k)
    have hnk := num_bd ho.rowsOk hv
    obtain ⟨q1, q2⟩ := takeOver_bd ho hv hkm
    have htk := takeOf_bd ho hv hkm (hs.fil k hkm)
    have hrm := ho.room k hkm
    have hfk := hs.fil k hkm
    have hfa : 0 ≤ at0 s.fil k ∧ at0 s.fil k ≤ (b.pol k).room := hfk
    obtain ⟨tk, htkq⟩ : ∃ tk, tk = takeOf b k (polV b s (vol4 b s t) k) (s.f k) := ⟨_, rfl⟩
    repeat (first | (refine M0 ?_; first | refine SL ?_ | refine SB fun _ _ => ?_ | refine Y4 (Ev.load_old_agg tok (polC (b.pol k)) rfl rfl rfl (add_lt hlt2) (hbW.pol hkm)) ?_) | (refine M1 ?_; first | refine SC ?_ | refine SD ?_) | (refine M2 ?_; refine SE ?_) | (refine M3 ?_; first | refine SG ?_ | refine SF ?_ | refine YF (Ev.load_old_agg tok (polC (b.pol k)) rfl rfl rfl (add_lt hlt2) (hbW.pol hkm)) ?_) | (refine M4 ?_; refine SR ?_) | (refine M5 ?_; first | exact M7 | refine YM ?_ | refine YN ?_ ?_))
    rename_i gx hgx
    repeat (first | (refine M0 ?_; first | refine SL ?_ | refine SB fun _ _ => ?_ | refine Y4 (Ev.call (f := 117) (ck rfl) rfl (fun w S => (refExact_any (p := ⟨some ad, b.rows.length, c1, some ad2, b.pols.length, c2⟩) (hbW.sys S) ho.rowsOk hv :))) ?_) | (refine M1 ?_; first | refine SC ?_ | refine SD ?_) | (refine M2 ?_; refine SE ?_) | (refine M3 ?_; first | refine SG ?_ | refine SF ?_ | refine YF (Ev.call (f := 117) (ck rfl) rfl (fun w S => (refExact_any (p := ⟨some ad, b.rows.length, c1, some ad2, b.pols.length, c2⟩) (hbW.sys S) ho.rowsOk hv :))) ?_) | (refine M4 ?_; refine SR ?_) | (refine M5 ?_; first | exact M7 | refine YM ?_ | refine YN ?_ ?_))
    refine XC.cutln [3, 4, 6, 7, 9, 11, 14, 15] rfl (fun _ : Unit => [(19, .int .i64 tk)]) (fun _ => []) (fun _ => True) ?_ (fun _ _ => ?_)
    · refine XC.cond _ rfl (fun h8 => ?_) (fun h8 => ?_)
      · simp only [decide_eq_true_eq] at h8
        have h8' : (b.pol k).sill * den b (polV b s (vol4 b s t) k) < num b (polV b s (vol4 b s t) k) := h8
        have hta := take_alt ho hkm h8'
        unfold takeOf at htkq
        rw [if_pos h8'] at htkq
        repeat (first | (refine M0 ?_; first | refine SL ?_ | refine SB fun _ _ => ?_ | refine Y4 (Ev.load_old tok rfl rfl (add_lt hlt3) (hc3 k (by omega))) ?_) | (refine M1 ?_; first | refine SC ?_ | refine SD ?_) | (refine M2 ?_; refine SE ?_) | (refine M3 ?_; first | refine SG ?_ | refine SF ?_ | refine YF (Ev.load_old tok rfl rfl (add_lt hlt3) (hc3 k (by omega))) ?_) | (refine M4 ?_; refine SR ?_) | (refine M5 ?_; first | exact M7 | refine YM ?_ | refine YN ?_ ?_))
        rw [hta]
        rw [show min ((b.pol k).take * (num b (polV b s (vol4 b s t) k) - (b.pol k).sill * den b (polV b s (vol4 b s t) k)) / den b (polV b s (vol4 b s t) k)) ((b.pol k).room - at0 s.fil k) = tk from htkq.symm]
        refine XE.leaf () ZZSUB (fun _ S' => by first | exact S' | exact S'.perm (by repeat (first | exact List.Perm.refl _ | refine perm1 ?_ | refine List.Perm.cons _ ?_ | refine perm2 ?_)) | exact (S'.pop (by assumption)) | exact (S'.pop2 (by assumption))) ?_
        trivial
      · simp only [decide_eq_false_iff_not] at h8
        unfold takeOf at htkq
        rw [if_neg h8] at htkq
        rw [htkq]
        repeat (first | (refine M0 ?_; first | refine SL ?_ | refine SB fun _ _ => ?_) | (refine M1 ?_; first | refine SC ?_ | refine SD ?_) | (refine M2 ?_; refine SE ?_) | (refine M3 ?_; first | refine SG ?_ | refine SF ?_) | (refine M4 ?_; refine SR ?_) | (refine M5 ?_; first | exact M7 | refine YM ?_ | refine YN ?_ ?_))
        refine XE.leaf () ZZSUB (fun _ S' => by first | exact S' | exact S'.perm (by repeat (first | exact List.Perm.refl _ | refine perm1 ?_ | refine List.Perm.cons _ ?_ | refine perm2 ?_)) | exact (S'.pop (by assumption)) | exact (S'.pop2 (by assumption))) ?_
        trivial
    dsimp only [List.cons_append, List.nil_append]
    rw [← htkq] at htk
    have k6 : i64in (at0 s.fil k + tk) := by have : i64in (s.f k + tk) := (by unfold i64in; omega); exact this
    repeat (first | (refine M0 ?_; first | refine SL ?_ | refine SB fun _ _ => ?_) | (refine M1 ?_; first | refine SC ?_ | refine SD ?_) | (refine M2 ?_; refine SE ?_) | (refine M3 ?_; first | refine SG ?_ | refine SF ?_) | (refine M4 ?_; refine SR ?_) | (refine M5 ?_; first | exact M7 | refine YM ?_ | refine YN ?_ ?_))
    refine XL.buildSlice tok rfl rfl rfl rfl rfl rfl rfl rfl rfl (fun gb hgb => ?_)
    have hWs : w.heap.size ≤ W.heap.size := hBW.size
    refine XL.append2 (v := svV rT) (m := 1) (n := k) (size := 1) (bytes := 8) (news := [.int .i64 tk]) int_el (by decide) rfl rfl rfl hoT
      (fun q hq' e he e1 => by
        have h9 := (sT q hq').1
        have h10 := hoT.lt q hq'
        simp only [List.mem_cons, List.not_mem_nil, or_false, not_or] at h9 he
        rcases he with rfl | rfl | rfl | rfl | rfl | rfl | rfl | rfl <;> simp only at e1 <;> omega) rfl
      (fun w' S j u hj => by rw [add_off]; exact (S.cell (List.mem_cons_self) _).trans (by simpa using hj)) rfl (by unfold maxLen; omega) (by omega) hWs
      (List.Sublist.cons _ (List.Sublist.cons _ (List.Sublist.refl _))) (fun w1 v1 w2 S1 ho1 hg1 _ hf1 => ?_)
    obtain ⟨r2, rfl, hr2⟩ := owns_sv ho1
    have hids := fun e he => S1.lt (e := e) he
    simp only [List.mem_cons, forall_eq_or_imp, List.not_mem_nil, false_implies, implies_true, and_true] at hids
    have hBW2 : Below w.heap.size w w2 := hBW.trans (grown_below S1 hg1 (fun q hq' => (hoT.lt q hq').1))
    have hW1 : W.heap.size ≤ w1.heap.size := S1.size
    have hF1 : w1.ownsRow w.heap.size 3 1 (svV rF) k (ints (rg k fun i => s.f i + polT b s (vol4 b s t) i)) := owns_sys hoF S1 (fun q hq' e he e1 => by
      have h9 := sF q hq'
      have h10 := hoF.lt q hq'
      simp only [List.mem_cons, List.not_mem_nil, or_false, not_or] at h9 he
      rcases he with rfl | rfl | rfl | rfl | rfl | rfl | rfl | rfl <;> simp only at e1 <;> omega)
    have hF2 := hF1.kept hg1 (by
      cases hx : (svV rF).ownBlock with
      | none => exact .inl rfl
      | some q => exact .inr fun e => (sT q e.symm).2 hx)
    have hqW2 := hq.below hBW2
    obtain ⟨ad3', e3', hlt3', hc3'⟩ := hqW2.at_ (by omega)
    cases e3'
    simp only [svV]
    repeat (first | (refine M0 ?_; first | refine SL ?_ | refine SB fun _ _ => ?_ | refine Y4 (Ev.load_old tok rfl rfl (add_lt hlt3') (hc3' k (by omega))) ?_) | (refine M1 ?_; first | refine SC ?_ | refine SD ?_) | (refine M2 ?_; refine SE ?_) | (refine M3 ?_; first | refine SG ?_ | refine SF ?_ | refine YF (Ev.load_old tok rfl rfl (add_lt hlt3') (hc3' k (by omega))) ?_) | (refine M4 ?_; refine SR ?_) | (refine M5 ?_; first | exact M7 | refine YM ?_ | refine YN ?_ ?_))
    refine XL.buildSlice tok rfl rfl rfl rfl rfl rfl rfl rfl rfl (fun gb2 hgb2 => ?_)
    refine XL.append2 (v := svV rF) (m := 1) (n := k) (size := 1) (bytes := 8) (news := [.int .i64 (at0 s.fil k + tk)]) int_el (by decide) rfl rfl rfl hF2
      (fun q hq' e he e1 => by
        have h9 := sF q hq'
        have h10 := hF2.lt q hq'
        simp only [List.mem_cons, List.not_mem_nil, or_false, not_or] at h9 he
        rcases he with rfl | rfl | rfl | rfl | rfl | rfl | rfl <;> simp only at e1 <;> omega) rfl
      (fun w' S j u hj => by rw [add_off]; exact (S.cell (List.mem_cons_self) _).trans (by simpa using hj)) rfl (by unfold maxLen; omega) (by omega) hBW2.size
      (List.Sublist.cons _ (List.Sublist.refl _)) (fun w3 v3 w4 S3 ho3 hg3 _ hf3 => ?_)
    obtain ⟨r3, rfl, hr3⟩ := owns_sv ho3
    have h12 : w1.heap.size ≤ w2.heap.size := hg1.size
    have h23 : w2.heap.size ≤ w3.heap.size := S3.size
    have hBW4 : Below w.heap.size w w4 := hBW2.trans (grown_below S3 hg3 (fun q hq' => (hF2.lt q hq').1))
    have hT2 : ∀ q, (svV r2).ownBlock = some q → q ∉ [g9, g7, g6, g5, g4, g3] ∧ (svV rF).ownBlock ≠ some q ∧ w.heap.size ≤ q ∧ q < w2.heap.size := fun q hq' => by
      have h10 := ho1.lt q hq'
      rcases hf1 q hq' with h9 | h9
      · exact ⟨(sT q h9).1, (sT q h9).2, h10⟩
      · refine ⟨?_, fun hx => ?_, h10⟩
        · simp only [List.mem_cons, List.not_mem_nil, or_false, not_or]; omega
        · have := hoF.lt q hx; omega
    have hT3 : w3.ownsRow w.heap.size 3 1 (svV r2) (k + 1) (ints (rg k fun i => polT b s (vol4 b s t) i) ++ [.int .i64 tk]) := owns_sys ho1 S3 (fun q hq' e he e1 => by
      have h9 := hT2 q hq'
      simp only [List.mem_cons, List.not_mem_nil, or_false, not_or] at h9 he
      rcases he with rfl | rfl | rfl | rfl | rfl | rfl | rfl <;> simp only at e1 <;> omega)
    have hT4 := hT3.kept hg3 (by
      cases hx : (svV r2).ownBlock with
      | none => exact .inl rfl
      | some q => exact .inr fun e => (hT2 q hx).2.1 e.symm)
    simp only [svV]
    repeat (first | (refine M0 ?_; first | refine SL ?_ | refine SB fun _ _ => ?_) | (refine M1 ?_; first | refine SC ?_ | refine SD ?_) | (refine M2 ?_; refine SE ?_) | (refine M3 ?_; first | refine SG ?_ | refine SF ?_) | (refine M4 ?_; refine SR ?_) | (refine M5 ?_; first | exact M7 | refine YM ?_ | refine YN ?_ ?_))
    refine XE.roundW (s := (k, W, rF, rT)) ?_
    intro w5 S5
    have e5 : polV b s (vol4 b s t) (k + 1) = polV b s (vol4 b s t) k - tk := by rw [htkq]; rfl
    have e6 : ints (rg (k + 1) fun i => polT b s (vol4 b s t) i) = ints (rg k fun i => polT b s (vol4 b s t) i) ++ [.int .i64 tk] := by rw [rg_succ, htkq]; simp [ints, polT]
    have e7 : ints (rg (k + 1) fun i => s.f i + polT b s (vol4 b s t) i) = ints (rg k fun i => s.f i + polT b s (vol4 b s t) i) ++ [.int .i64 (at0 s.fil k + tk)] := by rw [rg_succ, htkq]; simp [ints, polT]; rfl
    have hF3 : ∀ q, (svV r3).ownBlock = some q → q ∉ [g9, g7, g6, g5, g4, g3] ∧ (svV r2).ownBlock ≠ some q ∧ w.heap.size ≤ q := fun q hq' => by
      have h10 := ho3.lt q hq'
      rcases hf3 q hq' with h9 | h9
      · exact ⟨sF q h9, fun hx => (hT2 q hx).2.1 h9, h10.1⟩
      · refine ⟨?_, fun hx => ?_, h10.1⟩
        · simp only [List.mem_cons, List.not_mem_nil, or_false, not_or]; omega
        · have := (hT2 q hx).2.2.2; omega
    have sepL : ∀ (v : SV), (∀ x, (svV v).ownBlock = some x → x ∉ [g9, g7, g6, g5, g4, g3]) → ∀ k, (svV v).ownBlock = some k → ∀ e : Nat × Obj, e.1 ∈ [g9, g7, g6, g5, g4, g3] → e.1 ≠ k := fun v hv k hk e he e1 => hv k hk (e1 ▸ he)
    refine ⟨(k + 1, w5, r3, r2), ⟨hkm, hBW4.trans S5.toBelow, ?_, ?_, fun q hq' => (hF3 q hq').1, fun q hq' => ⟨(hT2 q hq').1, fun hx => (hF3 q hx).2.1 hq'⟩⟩, ?_, ?_, ?_⟩
    · simp only [e7]
      exact owns_sys ho3 S5 (fun q hk e he => sepL r3 (fun x hx => (hF3 x hx).1) q hk e (by simp only [List.mem_cons, List.not_mem_nil, or_false] at he ⊢; rcases he with rfl | rfl | rfl | rfl | rfl | rfl <;> simp))
    · simp only [e6]
      exact owns_sys hT4 S5 (fun q hk e he => sepL r2 (fun x hx => (hT2 x hx).1) q hk e (by simp only [List.mem_cons, List.not_mem_nil, or_false] at he ⊢; rcases he with rfl | rfl | rfl | rfl | rfl | rfl <;> simp))
    · simp only; omega
    · simp only [e5]; exact ZZSUB
    · exact S5.rebase (List.Sublist.refl _)
  · have hge : k = b.pols.length := by simp at h7; omega
    subst hge
    repeat (first | (refine M0 ?_; first | refine SL ?_ | refine SB fun _ _ => ?_) | (refine M1 ?_; first | refine SC ?_ | refine SD ?_) | (refine M2 ?_; refine SE ?_) | (refine M3 ?_; first | refine SG ?_ | refine SF ?_) | (refine M4 ?_; refine SR ?_) | (refine M5 ?_; first | exact M7 | refine YM ?_ | refine YN ?_ ?_))
    refine XC.drawRS _ [(g9, cel 158 [.int .i64 (floK b s t 4).river, .int .i64 (floK b s t 4).over, .int .i64 (floK b s t 4).leak, .int .i64 (floK b s t 4).out, .slice rT.A rT.n rT.c])] [0, 1, 2, 3] [4, 5, 6] mixed (fun _ h => Sys.anchor (by assumption) h (by simp) (by simp)) rfl (by kernel_rfl) ?_
    repeat (any_goals (first | (refine M0 ?_; first | refine SL ?_ | refine SB fun _ _ => ?_ | (refine XL.split _ _ rfl (fun h => ?_) (fun h => ?_) <;> rw [h])) | (refine M1 ?_; first | refine SC ?_ | refine SD ?_ | refine XC.cond _ rfl (fun h => ?_) (fun h => ?_)) | (refine M2 ?_; refine SE ?_) | (refine M3 ?_; first | refine SG ?_ | refine SF ?_ | (refine Fw.split _ _ rfl (fun h => ?_) (fun h => ?_) <;> rw [h])) | (refine M4 ?_; refine SR ?_) | (refine M5 ?_; first | exact M7 | refine YM ?_ | refine YN ?_ ?_)))
    refine XE.retg tok Tryz.results115 rfl (by simp only [and_self, and_true]) (fun w' S => ?_)
    have sepL : ∀ (v : SV), (∀ x, (svV v).ownBlock = some x → x ∉ [g9, g7, g6, g5, g4, g3]) → ∀ k, (svV v).ownBlock = some k → ∀ e : Nat × Obj, e.1 ∈ [g9, g7, g6, g5, g4, g3] → e.1 ≠ k := fun v hv k hk e he e1 => hv k hk (e1 ▸ he)
    refine ⟨_, rfl, rF, rT, by rw [outS_0 hE, outF_0 hE, hE]; rfl, ?_, ?_, hBW.trans S.toBelow⟩
    · rw [outS_0 hE]
      refine IntsAt.own (e := 3) ?_
      have := owns_sys hoF S (fun k hk e he => sepL rF sF k hk e (by simp only [List.mem_cons, List.not_mem_nil, or_false] at he ⊢; rcases he with rfl | rfl | rfl | rfl | rfl | rfl <;> simp))
      have hfil : (stepS b s t).fil.length = b.pols.length := by simp [stepS, rg_len]
      rw [hfil]; exact this
    · rw [outF_0 hE]
      refine IntsAt.own (e := 3) ?_
      have := owns_sys hoT S (fun k hk e he => sepL rT (fun x hx => (sT x hx).1) k hk e (by simp only [List.mem_cons, List.not_mem_nil, or_false] at he ⊢; rcases he with rfl | rfl | rfl | rfl | rfl | rfl <;> simp))
      have hfil : (stepF b s t).taken.length = b.pols.length := by simp [stepF, rg_len]
      rw [hfil]; exact this
end Go.Proofs.YtmpaiphakjogjaaGreat.X
namespace Go.Proofs.YtmpaiphakjogjaaGreat.Bs
open Classical in
noncomputable def fullE (b : Bas) (s : Sta) (t : Tick) : Int := if staErr b s = 0 then stepE b s t else staErr b s
open Classical in
noncomputable def fullS (b : Bas) (s : Sta) (t : Tick) : Sta := if staErr b s = 0 then outS b s t else ⟨0, []⟩
open Classical in
noncomputable def fullF (b : Bas) (s : Sta) (t : Tick) : Flo := if staErr b s = 0 then outF b s t else ⟨0, 0, 0, 0, []⟩
theorem full_n {b : Bas} {s : Sta} {t : Tick} (h : staErr b s ≠ 0) : fullE b s t = staErr b s ∧ fullS b s t = ⟨0, []⟩ ∧ fullF b s t = ⟨0, 0, 0, 0, []⟩ := by simp [fullE, fullS, fullF, h]
theorem full_0 {b : Bas} {s : Sta} {t : Tick} (h : staErr b s = 0) : fullE b s t = stepE b s t ∧ fullS b s t = outS b s t ∧ fullF b s t = outF b s t := by simp [fullE, fullS, fullF, h]
end Go.Proofs.YtmpaiphakjogjaaGreat.Bs
namespace Go.Proofs.YtmpaiphakjogjaaGreat.X
open Go Go.RowKit Go.Proofs.YtmpaiphakjogjaaGreat.Bs
def StepCR (b : Bas) (s : Sta) (t : Tick) (w : World) (v : Value) (w' : World) : Prop :=
  ∃ q r : SV, v = .tuple ⟨[staV q (fullS b s t), floV r (fullF b s t), .int .i64 (fullE b s t)]⟩ ∧ IntsAt w' (Btw w.heap.size w'.heap.size) q (fullS b s t).fil ∧ IntsAt w' (Btw w.heap.size w'.heap.size) r (fullF b s t).taken ∧ Below w.heap.size w w'
set_option maxHeartbeats 4000000 in
theorem Step_any {p : BV} {b : Bas} {q : SV} {s : Sta} {t : Tick} {w : World} (hb : BasAt w w.heap.size p b) (hq : IntsAt w (Lt w.heap.size) q s.fil) :
    Calls Tryz.prog 107 #[basV p b, staV q s, tickV t] w fun e w' => ∃ v, e = .returned v ∧ StepCR b s t w v w' := by
  simp only [basV, basC, staV, staC, tickV, tickC]
  refine enter Tryz.func107 rfl Tryz.ntmps107 rfl ?_; simp only [frame, Nat.zero_add, Nat.reduceAdd]
  repeat (first | (refine M0 ?_; first | refine SL ?_ | refine SB fun _ _ => ?_ | refine Y4 (Ev.call (f := 126) (ck rfl) rfl (fun w S => (checkState_any (hb.sys S) (hq.arg S) :))) ?_) | (refine M1 ?_; first | refine SC ?_ | refine SD ?_) | (refine M2 ?_; refine SE ?_) | (refine M3 ?_; first | refine SG ?_ | refine SF ?_ | refine YF (Ev.call (f := 126) (ck rfl) rfl (fun w S => (checkState_any (hb.sys S) (hq.arg S) :))) ?_) | (refine M4 ?_; refine SR ?_) | (refine M5 ?_; first | exact M7 | refine YM ?_ | refine YN ?_ ?_))
  refine XC.cond _ rfl (fun h0 => ?_) (fun h0 => ?_)
  · repeat (first | (refine M0 ?_; first | refine SL ?_ | refine SB fun _ _ => ?_) | (refine M1 ?_; first | refine SC ?_ | refine SD ?_) | (refine M2 ?_; refine SE ?_) | (refine M3 ?_; first | refine SG ?_ | refine SF ?_) | (refine M4 ?_; refine SR ?_) | (refine M5 ?_; first | exact M7 | refine YM ?_ | refine YN ?_ ?_))
    refine XE.retg tok Tryz.results107 rfl (by simp only [and_self, and_true]) (fun w' S => ?_)
    obtain ⟨f1, f2, f3⟩ := full_n (t := t) (show staErr b s ≠ 0 by simpa using h0)
    exact ⟨_, rfl, ⟨none, 0, 0⟩, ⟨none, 0, 0⟩, by rw [f1, f2, f3]; rfl, by rw [f2]; exact IntsAt.nil, by rw [f3]; exact IntsAt.nil, S.toBelow⟩
  have hE : staErr b s = 0 := by simpa using h0
  obtain ⟨ho, hs⟩ := staOk_of hE
  obtain ⟨f1, f2, f3⟩ := full_0 (t := t) hE
  repeat (first | (refine M0 ?_; first | refine SL ?_ | refine SB fun _ _ => ?_) | (refine M1 ?_; first | refine SC ?_ | refine SD ?_) | (refine M2 ?_; refine SE ?_) | (refine M3 ?_; first | refine SG ?_ | refine SF ?_) | (refine M4 ?_; refine SR ?_) | (refine M5 ?_; first | exact M7 | refine YM ?_ | refine YN ?_ ?_))
  refine XL.call (fst := []) (cap := []) (ck rfl) rfl rfl rfl (List.Sublist.refl _) (fun w1 v w2 => StepR b s t w1 v w2)
    (fun w1 S1 => (step_any (p := p) (hb.sys S1) (hq.arg S1) ho hs).mono fun e w' ⟨v, h, h4⟩ => ⟨v, h, h4, h4.choose_spec.choose_spec.2.2.2⟩) (fun w1 v w2 S1 hR hB S2 => ?_)
  obtain ⟨q2, r2, rfl, hq2, hr2, _⟩ := hR
  simp only [staV, staC, floV, floC]
  repeat (first | (refine M0 ?_; first | refine SL ?_ | refine SB fun _ _ => ?_) | (refine M1 ?_; first | refine SC ?_ | refine SD ?_) | (refine M2 ?_; refine SE ?_) | (refine M3 ?_; first | refine SG ?_ | refine SF ?_) | (refine M4 ?_; refine SR ?_) | (refine M5 ?_; first | exact M7 | refine YM ?_ | refine YN ?_ ?_))
  refine XE.retg tok Tryz.results107 rfl (by simp only [and_self, and_true]) (fun w' S => ?_)
  have hk : Keep (Btw w1.heap.size w2.heap.size) w2 _ := Keep.made S1 (Nat.le_refl _)
  refine ⟨_, rfl, q2, r2, by rw [f1, f2, f3]; rfl, ?_, ?_, S2.toBelow.trans S.toBelow⟩
  · rw [f2]
    exact (hq2.keep (hk.sysT S rfl)).mono fun k hk' => ⟨Nat.le_trans S1.size hk'.1, Nat.lt_of_lt_of_le hk'.2 S.size⟩
  · rw [f3]
    exact (hr2.keep (hk.sysT S rfl)).mono fun k hk' => ⟨Nat.le_trans S1.size hk'.1, Nat.lt_of_lt_of_le hk'.2 S.size⟩
set_option maxHeartbeats 4000000 in
theorem refStepC_any {p : BV} {b : Bas} {q : SV} {s : Sta} {t : Tick} {w : World} (hb : BasAt w w.heap.size p b) (hq : IntsAt w (Lt w.heap.size) q s.fil) :
    Calls Tryz.prog 90 #[basV p b, staV q s, tickV t] w fun e w' => ∃ v, e = .returned v ∧ StepCR b s t w v w' := by
  simp only [basV, basC, staV, staC, tickV, tickC]
  refine enter Tryz.func90 rfl Tryz.ntmps90 rfl ?_; simp only [frame, Nat.zero_add, Nat.reduceAdd]
  repeat (first | (refine M0 ?_; first | refine SL ?_ | refine SB fun _ _ => ?_ | refine Y4 (Ev.call (f := 114) (ck rfl) rfl (fun w S => (refCheckState_any (hb.sys S) (hq.arg S) :))) ?_) | (refine M1 ?_; first | refine SC ?_ | refine SD ?_) | (refine M2 ?_; refine SE ?_) | (refine M3 ?_; first | refine SG ?_ | refine SF ?_ | refine YF (Ev.call (f := 114) (ck rfl) rfl (fun w S => (refCheckState_any (hb.sys S) (hq.arg S) :))) ?_) | (refine M4 ?_; refine SR ?_) | (refine M5 ?_; first | exact M7 | refine YM ?_ | refine YN ?_ ?_))
  refine XC.cond _ rfl (fun h0 => ?_) (fun h0 => ?_)
  · repeat (first | (refine M0 ?_; first | refine SL ?_ | refine SB fun _ _ => ?_) | (refine M1 ?_; first | refine SC ?_ | refine SD ?_) | (refine M2 ?_; refine SE ?_) | (refine M3 ?_; first | refine SG ?_ | refine SF ?_) | (refine M4 ?_; refine SR ?_) | (refine M5 ?_; first | exact M7 | refine YM ?_ | refine YN ?_ ?_))
    refine XE.retg tok Tryz.results90 rfl (by simp only [and_self, and_true]) (fun w' S => ?_)
    obtain ⟨f1, f2, f3⟩ := full_n (t := t) (show staErr b s ≠ 0 by simpa using h0)
    exact ⟨_, rfl, ⟨none, 0, 0⟩, ⟨none, 0, 0⟩, by rw [f1, f2, f3]; rfl, by rw [f2]; exact IntsAt.nil, by rw [f3]; exact IntsAt.nil, S.toBelow⟩
  have hE : staErr b s = 0 := by simpa using h0
  obtain ⟨ho, hs⟩ := staOk_of hE
  obtain ⟨f1, f2, f3⟩ := full_0 (t := t) hE
  repeat (first | (refine M0 ?_; first | refine SL ?_ | refine SB fun _ _ => ?_) | (refine M1 ?_; first | refine SC ?_ | refine SD ?_) | (refine M2 ?_; refine SE ?_) | (refine M3 ?_; first | refine SG ?_ | refine SF ?_) | (refine M4 ?_; refine SR ?_) | (refine M5 ?_; first | exact M7 | refine YM ?_ | refine YN ?_ ?_))
  refine XL.call (fst := []) (cap := []) (ck rfl) rfl rfl rfl (List.Sublist.refl _) (fun w1 v w2 => StepR b s t w1 v w2)
    (fun w1 S1 => (refStep_any (p := p) (hb.sys S1) (hq.arg S1) ho hs).mono fun e w' ⟨v, h, h4⟩ => ⟨v, h, h4, h4.choose_spec.choose_spec.2.2.2⟩) (fun w1 v w2 S1 hR hB S2 => ?_)
  obtain ⟨q2, r2, rfl, hq2, hr2, _⟩ := hR
  simp only [staV, staC, floV, floC]
  repeat (first | (refine M0 ?_; first | refine SL ?_ | refine SB fun _ _ => ?_) | (refine M1 ?_; first | refine SC ?_ | refine SD ?_) | (refine M2 ?_; refine SE ?_) | (refine M3 ?_; first | refine SG ?_ | refine SF ?_) | (refine M4 ?_; refine SR ?_) | (refine M5 ?_; first | exact M7 | refine YM ?_ | refine YN ?_ ?_))
  refine XE.retg tok Tryz.results90 rfl (by simp only [and_self, and_true]) (fun w' S => ?_)
  have hk : Keep (Btw w1.heap.size w2.heap.size) w2 _ := Keep.made S1 (Nat.le_refl _)
  refine ⟨_, rfl, q2, r2, by rw [f1, f2, f3]; rfl, ?_, ?_, S2.toBelow.trans S.toBelow⟩
  · rw [f2]
    exact (hq2.keep (hk.sysT S rfl)).mono fun k hk' => ⟨Nat.le_trans S1.size hk'.1, Nat.lt_of_lt_of_le hk'.2 S.size⟩
  · rw [f3]
    exact (hr2.keep (hk.sysT S rfl)).mono fun k hk' => ⟨Nat.le_trans S1.size hk'.1, Nat.lt_of_lt_of_le hk'.2 S.size⟩
end Go.Proofs.YtmpaiphakjogjaaGreat.X
namespace Go.Proofs.YtmpaiphakjogjaaGreat.X
open Go Go.RowKit Go.Proofs.YtmpaiphakjogjaaGreat.Bs Go.WideShapes Go.ChangeShapes
section
variable {H : Type} {enc : TypeId × Value → H} {P : Program} {w : World} {base : Nat} {spare : Nat → Bool} {held : Bool}
theorem fieldR {t : TypeId} {fs : Array Field} {fuel : Nat} {cs : List Value} {x : DataW H × List MemPlace} (ht : P.underlying t = some (.struct fs)) (h : DataW.trod enc P w base spare held fuel t cs = some x) :
    cs.length = P.cellsOf t ∧ ∃ n, ∀ (i : Nat) (f : Field), fs[i]? = some f → P.cellsOf f.type = 1 → f.offset < cs.length → ∃ c y, cs[f.offset]? = some c ∧ DataW.trod enc P w base spare held n f.type [c] = some y := by
  obtain ⟨xs, n, _, rfl, hl, hlen, hf⟩ := DataW.trod_struct ht h
  refine ⟨hl, n, fun i f hi hc ho => ?_⟩
  have h1 := hf i f hi
  have hi' : i < xs.length := by rw [hlen]; exact (Array.getElem?_eq_some_iff.1 hi).1
  rw [hc, List.getElem?_eq_getElem hi'] at h1
  refine ⟨cs[f.offset], xs[i], List.getElem?_eq_getElem ho, ?_⟩
  rw [List.drop_eq_getElem_cons ho, List.take_succ_cons, List.take_zero] at h1
  exact h1
theorem choose_list {α : Type} {p : Nat → α → Prop} : ∀ n : Nat, (∀ i, i < n → ∃ b, p i b) → ∃ l : List α, l.length = n ∧ ∀ i b, l[i]? = some b → p i b := by
  intro n
  induction n with
  | zero => intro _; exact ⟨[], rfl, fun i b hb => by cases hb⟩
  | succ k ih =>
    intro hall
    obtain ⟨l, h1, h2⟩ := ih fun i hi => hall i (by omega)
    obtain ⟨b, h3⟩ := hall k (by omega)
    refine ⟨l ++ [b], by simp [h1], fun i c hc => ?_⟩
    rcases Nat.lt_or_ge i l.length with hi | hi
    · rw [List.getElem?_append_left hi] at hc
      exact h2 i c hc
    · have hi' : i < (l ++ [b]).length := (List.getElem?_eq_some_iff.1 hc).1
      have : i = l.length := by simp at hi'; omega
      subst this
      simp at hc
      subst hc
      rw [h1]
      exact h3
theorem sliceR {α : Type} {C : α → List Value} {G : α → Prop} {t e : TypeId} {m fuel : Nat} {cs : List Value} {x : DataW H × List MemPlace} (ht : P.underlying t = some (.slice e)) (he : P.cellsOf e = m)
    (hd : ∀ n cs x, DataW.trod enc P w base spare held n e cs = some x → ∃ a, cs = C a ∧ G a) (hm : ∀ a, (C a).length = m) (h0 : 0 < m) (h : DataW.trod enc P w base spare held fuel t cs = some x) :
    ∃ (A : Option Addr) (n c : Nat) (l : List α), cs = [.slice A n c] ∧ Reads w w.heap.size m A n (l.flatMap C) ∧ n ≤ c ∧ c ≤ maxLen ∧ ∀ a, a ∈ l → G a := by
  rcases Go.Deep.open_slice ht h with ⟨rfl, _⟩ | ⟨a, len, cap, m', n', D, Pl, rfl, hb, hl, hcm, hmm, _, hx⟩
  · exact ⟨none, 0, 0, [], rfl, Reads.none_, Nat.le_refl _, Nat.zero_le _, fun a ha => by cases ha⟩
  · rw [he] at hx
    have hlm : len ≤ m' := by rw [hmm]; split <;> omega
    have hall : ∀ i, i < len → ∃ b : α, w.cells? base (a.add (i * m)) m = some (C b) ∧ G b := fun i hi => by
      obtain ⟨cs', h1, h2⟩ := hx i (by omega)
      obtain ⟨b, rfl, hg⟩ := hd _ _ _ h2
      exact ⟨b, h1, hg⟩
    obtain ⟨l, hll, hlx⟩ := choose_list len hall
    refine ⟨some a, len, cap, l, rfl, ⟨by rw [flat_len C m hm, hll], fun hn => ?_⟩, hl, hcm, fun b hb => ?_⟩
    · have hcell : ∀ j u, (l.flatMap C)[j]? = some u → w.cell? (a.add j) = some u := fun j u hj => by
        have hjl : j < (l.flatMap C).length := (List.getElem?_eq_some_iff.1 hj).1
        rw [flat_len C m hm] at hjl
        have hdm := Nat.div_add_mod j m
        have hlt : j / m < l.length := Nat.div_lt_of_lt_mul (by rw [Nat.mul_comm]; exact hjl)
        have hb : l[j / m]? = some l[j / m] := List.getElem?_eq_getElem hlt
        have h1 := flat_at C m hm l (j / m) (j % m) _ hb (Nat.mod_lt _ h0)
        rw [show j / m * m + j % m = j by rw [Nat.mul_comm]; exact hdm, hj] at h1
        obtain ⟨_, _, h2⟩ := World.cells?_some (hlx _ _ hb).1
        have h3 := h2 (j % m) (Nat.mod_lt _ h0)
        rw [add_add, show j / m * m + j % m = j by rw [Nat.mul_comm]; exact hdm, ← h1] at h3
        exact h3
      refine ⟨a, rfl, ?_, hcell⟩
      obtain ⟨b, h1, _⟩ := hall 0 hn
      have := World.cells?_block h1 h0
      simpa [add_block] using this
    · obtain ⟨i, hi, rfl⟩ := List.mem_iff_getElem.1 hb
      exact (hlx i _ (List.getElem?_eq_getElem hi)).2
end
section
variable {H : Type} {enc : TypeId × Value → H} {w : World} {base : Nat} {spare : Nat → Bool} {held : Bool} {fuel : Nat} {cs : List Value} {x : DataW H × List MemPlace}
theorem intR {n : Nat} {c : Value} {y : DataW H × List MemPlace} (h : DataW.trod enc Tryz.prog w base spare held n 3 [c] = some y) : ∃ k : Int, c = .int .i64 k := by
  obtain ⟨k, e, _⟩ := DataW.trod_int Tryz.underlying3 h
  exact ⟨k, by simpa using e⟩
theorem strR {n : Nat} {c : Value} {y : DataW H × List MemPlace} (h : DataW.trod enc Tryz.prog w base spare held n 9 [c] = some y) : ∃ s : ByteArray, c = .string s ∧ s.size ≤ maxLen := by
  obtain ⟨s, e, _, hs⟩ := DataW.trod_string Tryz.underlying9 h
  exact ⟨s, by simpa using e, hs⟩
theorem c_int : (Tryz.prog).cellsOf 3 = 1 := by kernel_rfl
theorem c_str : (Tryz.prog).cellsOf 9 = 1 := by kernel_rfl
theorem c_row : (Tryz.prog).cellsOf 155 = 2 := by kernel_rfl
theorem c_pol : (Tryz.prog).cellsOf 166 = 4 := by kernel_rfl
theorem c_bas : (Tryz.prog).cellsOf 25 = 5 := by kernel_rfl
theorem c_rows : (Tryz.prog).cellsOf 22 = 1 := by kernel_rfl
theorem c_pols : (Tryz.prog).cellsOf 23 = 1 := by kernel_rfl
theorem c_ints : (Tryz.prog).cellsOf 26 = 1 := by kernel_rfl
theorem rowR (h : DataW.trod enc Tryz.prog w base spare held fuel 155 cs = some x) : ∃ r : Row, cs = rowC r := by
  obtain ⟨hl, n, hf⟩ := fieldR Tryz.underlying155 h
  rw [c_row] at hl
  match cs, hl with
  | [c0, c1], _ =>
    obtain ⟨d0, y0, e0, h0⟩ := hf 0 _ rfl c_int (Nat.le_of_ble_eq_true rfl)
    obtain ⟨d1, y1, e1, h1⟩ := hf 1 _ rfl c_int (Nat.le_of_ble_eq_true rfl)
    obtain ⟨k0, rfl⟩ := intR h0
    obtain ⟨k1, rfl⟩ := intR h1
    cases e0; cases e1
    exact ⟨⟨k0, k1⟩, rfl⟩
theorem polR (h : DataW.trod enc Tryz.prog w base spare held fuel 166 cs = some x) : ∃ r : Pol, cs = polC r ∧ r.name.size ≤ maxLen := by
  obtain ⟨hl, n, hf⟩ := fieldR Tryz.underlying166 h
  rw [c_pol] at hl
  match cs, hl with
  | [c0, c1, c2, c3], _ =>
    obtain ⟨d0, y0, e0, h0⟩ := hf 0 _ rfl c_str (Nat.le_of_ble_eq_true rfl)
    obtain ⟨d1, y1, e1, h1⟩ := hf 1 _ rfl c_int (Nat.le_of_ble_eq_true rfl)
    obtain ⟨d2, y2, e2, h2⟩ := hf 2 _ rfl c_int (Nat.le_of_ble_eq_true rfl)
    obtain ⟨d3, y3, e3, h3⟩ := hf 3 _ rfl c_int (Nat.le_of_ble_eq_true rfl)
    obtain ⟨s, rfl, hs⟩ := strR h0
    obtain ⟨k1, rfl⟩ := intR h1
    obtain ⟨k2, rfl⟩ := intR h2
    obtain ⟨k3, rfl⟩ := intR h3
    cases e0; cases e1; cases e2; cases e3
    exact ⟨⟨s, k1, k2, k3⟩, rfl, hs⟩
theorem ints_flat (l : List Int) : l.flatMap (fun k : Int => [Value.int .i64 k]) = ints l := by
  unfold ints
  induction l with
  | nil => rfl
  | cons a l ih => rw [List.flatMap_cons, ih]; rfl
theorem intsR (h : DataW.trod enc Tryz.prog w base spare held fuel 26 cs = some x) : ∃ (q : SV) (l : List Int), cs = [svV q] ∧ IntsAt w (Lt w.heap.size) q l := by
  obtain ⟨A, n, c, l, rfl, hr, hnc, hcm, _⟩ := sliceR (C := fun k : Int => [.int .i64 k]) (G := fun _ => True) Tryz.underlying26 c_int (fun n cs x h => by
    obtain ⟨k, e, _⟩ := DataW.trod_int Tryz.underlying3 h
    exact ⟨k, e, trivial⟩) (fun _ => rfl) (by decide) h
  refine ⟨⟨A, n, c⟩, l, rfl, ?_, by simp only; unfold maxLen at hcm; omega⟩
  have := ints_flat l
  rw [this] at hr
  exact ReadsP.of hr
theorem basR (h : DataW.trod enc Tryz.prog w base spare held fuel 25 cs = some x) : ∃ (p : BV) (b : Bas), cs = basC p b ∧ BasAt w w.heap.size p b := by
  obtain ⟨hl, n, hf⟩ := fieldR Tryz.underlying25 h
  rw [c_bas] at hl
  match cs, hl with
  | [c0, c1, c2, c3, c4], _ =>
    obtain ⟨d0, y0, e0, h0⟩ := hf 0 _ rfl c_rows (Nat.le_of_ble_eq_true rfl)
    obtain ⟨d1, y1, e1, h1⟩ := hf 1 _ rfl c_int (Nat.le_of_ble_eq_true rfl)
    obtain ⟨d2, y2, e2, h2⟩ := hf 2 _ rfl c_int (Nat.le_of_ble_eq_true rfl)
    obtain ⟨d3, y3, e3, h3⟩ := hf 3 _ rfl c_int (Nat.le_of_ble_eq_true rfl)
    obtain ⟨d4, y4, e4, h4⟩ := hf 4 _ rfl c_pols (Nat.le_of_ble_eq_true rfl)
    obtain ⟨k1, rfl⟩ := intR h1
    obtain ⟨k2, rfl⟩ := intR h2
    obtain ⟨k3, rfl⟩ := intR h3
    obtain ⟨A, n1, cc, l, e5, hr, hnc, hcm, _⟩ := sliceR (C := rowC) (G := fun _ => True) Tryz.underlying22 c_row (fun n cs x h => by
      obtain ⟨k, e⟩ := rowR h
      exact ⟨k, e, trivial⟩) rowC_len (by decide) h0
    obtain ⟨A2, n2, cc2, l2, e6, hr2, hnc2, hcm2, hg⟩ := sliceR (C := polC) (G := fun r => r.name.size ≤ maxLen) Tryz.underlying23 c_pol (fun n cs x h => polR h) polC_len (by decide) h4
    cases e0; cases e1; cases e2; cases e3; cases e4; cases e5; cases e6
    refine ⟨⟨A, n1, cc, A2, n2, cc2⟩, ⟨l, k1, k2, k3, l2⟩, rfl, hr, hr2, hnc, ?_, ?_, fun r hr => ?_⟩
    · simp only; unfold maxLen at hcm; omega
    · simp only; unfold maxLen at hcm2; omega
    · have := hg r hr
      unfold maxLen at this; omega
theorem fieldN {P : Program} {t : TypeId} {fs : Array Field} (ht : P.underlying t = some (.struct fs)) (h : DataW.trod enc P w base spare held fuel t cs = some x) :
    cs.length = P.cellsOf t ∧ ∃ n, ∀ (i : Nat) (f : Field) (u : TypeId) (o m : Nat), fs[i]? = some f → f.type = u → f.offset = o → P.cellsOf u = m → ∃ y, DataW.trod enc P w base spare held n u ((cs.drop o).take m) = some y := by
  obtain ⟨xs, n, _, rfl, hl, hlen, hf⟩ := DataW.trod_struct ht h
  refine ⟨hl, n, fun i f u o m hi hu ho hm => ?_⟩
  subst hu ho hm
  have h1 := hf i f hi
  have hi' : i < xs.length := by rw [hlen]; exact (Array.getElem?_eq_some_iff.1 hi).1
  rw [List.getElem?_eq_getElem hi'] at h1
  exact ⟨xs[i], h1⟩
theorem intR' (h : DataW.trod enc Tryz.prog w base spare held fuel 3 cs = some x) : ∃ k : Int, cs = [.int .i64 k] := by
  obtain ⟨k, e, _⟩ := DataW.trod_int Tryz.underlying3 h
  exact ⟨k, e⟩
end
end Go.Proofs.YtmpaiphakjogjaaGreat.X
namespace Go.Proofs.YtmpaiphakjogjaaGreat.X
open Go Go.RowKit
def fen : Option Nat → Fence
  | none => Fence.wide
  | some l => Fence.wide.inRound l
theorem fen_fn (r : Option Nat) (f : FuncId) : (fen r).fn f := by cases r <;> trivial
theorem fen_round (r : Option Nat) : (fen r).round = r := by cases r <;> rfl
theorem fen_depth (r : Option Nat) : (fen r).depth.isSome = true → False := by cases r <;> (intro h; cases h)
theorem fen_calls {r : Option Nat} {n : Nat} {P : Program} {f : FuncId} {args : Array Value} {w : World} {R : Ending → World → Prop} (h : Calls P f args w R) : CallsIn (fen r) n P f args w R := by
  cases r with
  | none => exact callsIn_wide.2 h
  | some l => exact CallsIn.inRound l (callsIn_wide.2 h)
theorem fen_steps {r : Option Nat} {P : Program} {m m' : Machine} (h : Steps P m m') : StepsIn (Machine.fenced P (fen r)) P m m' := by
  cases r with
  | none => exact stepsIn_wide.2 h
  | some l =>
    show StepsIn (Machine.fenced P (Fence.wide.inRound l)) P m m'
    rw [fenced_inRound]; exact stepsIn_wide.2 h
def notDefer (o : Oper) : Bool := match o.op with
  | .defer _ => false
  | _ => true
theorem upon_in {r : Option Nat} {n : Nat} {P : Program} {o : Oper} {a : Act} {K : Act → World → Prop} {Q : Exit → Act → World → Prop} {res : Result Next} (hQ : ∀ e a w, Q e a w → e = .normal)
    {Q' : Exit → Act → World → Prop} (h : o.upon P a K Q res) : o.uponIn (fen r) n P a K Q' res := by
  cases res with
  | ok nx w =>
    cases nx <;> simp only [Oper.upon, Oper.uponIn] at h ⊢ <;> first
      | exact h
      | exact ⟨fun hd => (fen_depth r hd).elim, fen_calls (Calls.mono h fun e w'' he => by
          cases e with
          | returned v => exact he
          | panicked c => exact absurd (hQ _ _ _ he) (by simp)
          | outgrown => obtain ⟨a0, w0, q⟩ := he; exact absurd (hQ _ _ _ q) (by simp))⟩
      | exact ⟨fun hd => (fen_depth r hd).elim, fun c cs _ => (by obtain ⟨v, w', h1, h2⟩ := h c cs; exact ⟨v, w', h1, fen_steps h2⟩)⟩
      | exact h.elim
  | halt x w =>
    cases x <;> simp only [Oper.upon, Oper.uponIn] at h ⊢ <;> first
      | exact absurd (hQ _ _ _ h) (by simp)
      | exact h.elim
theorem only_normal {K : Act → World → Prop} : ∀ e a w, only K e a w → e = .normal := fun e a w h => by cases e <;> first | rfl | exact h.elim
section
variable {P : Program} {T : TT} {N : Nat} {B : Nat} {w0 : World} {ds : List Deferred} {Q : Exit → Act → World → Prop} {F : Fr} {L L' : Lo} {ops : Array Oper} {rest : List Oper} {r : Option Nat} {n : Nat}
variable (P N B w0 ds Q r n) in
structure XI (ops : Array Oper) (l : List Oper) (F : Fr) (L : Lo) : Prop where
  run : ∀ a w, Fits N ds F a → Sys B w0 L w → wpListIn (fen r) n P ops Q l a w
variable (P N B w0 ds Q r n) in
structure XR' (c : Code) (F : Fr) (L : Lo) : Prop where
  run : ∀ a w, Fits N ds F a → Sys B w0 L w → c.wpIn (fen r) n P Q a w
theorem XI.done (h : XE N B w0 ds Q .normal F L) : XI P N B w0 ds Q r n ops [] F L := ⟨h.run⟩
theorem XI.one {o : Oper} (hd : notDefer o = true) (h : XL P N B w0 ds (only (wpListIn (fen r) n P ops Q rest)) ops [o] F L) : XI P N B w0 ds Q r n ops (o :: rest) F L := by
  refine ⟨fun a w hf hs => ?_⟩
  have h1 := h.run a w hf hs
  unfold wpList at h1
  unfold wpListIn
  split
  · rename_i hw
    rw [if_pos hw] at h1
    rcases h1 with h1 | ⟨_, a0, w0, q⟩
    · refine ⟨fun f _ => fen_fn r f, ?_⟩
      rw [fen_round]
      rw [Oper.semAt_eq r a.eval o (fun c e => by simp [notDefer, e] at hd)]
      exact upon_in only_normal h1
    · exact q.elim
  · rename_i hw
    rw [if_neg hw] at h1
    exact ⟨fun f _ => fen_fn r f, h1⟩
theorem XE.nextI (h : XI P N B w0 ds Q r n ops rest F L) : XE N B w0 ds (only (wpListIn (fen r) n P ops Q rest)) .normal F L := ⟨h.run⟩
theorem XI.yield {d : Nat} {c : Operand} {args : Array Operand} {vs : List Value} {l : Nat} {ats : Array TypeId} {ty : TypeId} {p : String} {af : Array Edge} (hcv : evo F c = some (.func (.yield l) #[] #[])) (ha : evos F args.toList = some vs) (hd : Nat.blt d N = true)
    (R : World → Value → World → Prop)
    (hy : ∀ w, Sys B w0 L w → ∃ fn tmps assign body, (Instr.yield l vs.toArray).run P w = .ok (.round l fn tmps assign body) w ∧ RoundIn (fen r) (n - 1) P l fn tmps assign body w fun e w' => ∃ v, e = .returned v ∧ R w v w')
    (k : ∀ w v w', Sys B w0 L w → R w v w' → ∃ L' w1, Sys B w1 L' w' ∧ XI P N B w1 ds Q r n ops rest ((d, v) :: F) L') :
    XI P N B w0 ds Q r n ops ({ dst := some d, op := .call { callee := .value c, args := args, argTypes := ats }, type := ty, pos := p, after := af, guard := none } :: rest) F L := by
  refine ⟨fun a w hf hs => ?_⟩
  obtain ⟨fn, tmps, assign, body, h1, h2⟩ := hy w hs
  refine wpListIn_plain rfl fun K hK => ⟨fun f _ => fen_fn r f, ?_⟩
  have hm : args.map a.eval = vs.toArray := by
    apply Array.ext'
    rw [Array.toList_map]
    exact evos_spec hf _ _ ha
  have hsem : ((Oper.semAt (fen r).round a.eval { dst := some d, op := .call { callee := .value c, args := args, argTypes := ats }, type := ty, pos := p, after := af, guard := none })).run P w = .ok (.round l fn tmps assign body) w := by
    rw [Oper.semAt_eq _ _ _ (fun c e => by cases e)]
    simp [execOp, resolve, hf.eval hcv, Deferred.ofValue, invoke, hm, h1]
  rw [hsem]
  refine ⟨fun hd => (fen_depth r hd).elim, h2.mono fun e w' he => ?_⟩
  obtain ⟨v, rfl, hR⟩ := he
  obtain ⟨L', w1, hS, hk⟩ := k w v w' hs hR
  exact hK _ _ (hk.run _ _ (hf.put hd) hS)
theorem XC.regionI {id : Nat} {l : List Oper} (n : Nat) (h : XI P N B w0 ds Q none n l.toArray l F L) : XC P N B w0 ds Q (.region id l.toArray false) F L :=
  ⟨fun a w hf hs => (wpIn_wide (n := n)).1 (wpIn_region_lit (F := Fence.wide) (h.run a w hf hs))⟩
theorem XR'.region {id : Nat} {l : List Oper} (h : XI P N B w0 ds Q r n l.toArray l F L) : XR' P N B w0 ds Q r n (.region id l.toArray false) F L := ⟨fun a w hf hs => wpIn_region_lit (h.run a w hf hs)⟩
theorem XR'.seq {x y : Code} (h : XR' P N B w0 ds (Exit.then (y.wpIn (fen r) n P Q) Q) r n x F L) : XR' P N B w0 ds Q r n (.seq x y) F L := ⟨fun a w hf hs => wpIn_seq (h.run a w hf hs)⟩
theorem XE.nextR {y : Code} (h : XR' P N B w0 ds Q r n y F L) : XE N B w0 ds (Exit.then (y.wpIn (fen r) n P Q) Q) .normal F L := ⟨h.run⟩
theorem XR'.skip (h : XE N B w0 ds Q .normal F L) : XR' P N B w0 ds Q r n .skip F L := ⟨fun a w hf hs => wpIn_skip (h.run a w hf hs)⟩
theorem XR'.ret (h : XE N B w0 ds Q .ret F L) : XR' P N B w0 ds Q r n .ret F L := ⟨fun a w hf hs => wpIn_ret (h.run a w hf hs)⟩
theorem XR'.block {id : Nat} {c : Code} (h : XR' P N B w0 ds (Exit.inBlock id Q) r n c F L) : XR' P N B w0 ds Q r n (.block id c) F L := ⟨fun a w hf hs => wpIn_block (h.run a w hf hs)⟩
theorem XR'.cond {c : Operand} {x y : Code} (b : Bool) (hc : evo F c = some (.bool b)) (ht : b = true → XR' P N B w0 ds Q r n x F L) (he : b = false → XR' P N B w0 ds Q r n y F L) : XR' P N B w0 ds Q r n (.cond c x y) F L := ⟨fun a w hf hs => by
  cases b with
  | true => exact wpIn_cond_true (hf.eval hc) ((ht rfl).run a w hf hs)
  | false => exact wpIn_cond_false (hf.eval hc) ((he rfl).run a w hf hs)⟩
theorem XR'.cond_t {c : Operand} {x y : Code} (hc : evo F c = some (.bool true)) (ht : XR' P N B w0 ds Q r n x F L) : XR' P N B w0 ds Q r n (.cond c x y) F L := XR'.cond true hc (fun _ => ht) (fun h => by cases h)
theorem XR'.cond_f {c : Operand} {x y : Code} (hc : evo F c = some (.bool false)) (he : XR' P N B w0 ds Q r n y F L) : XR' P N B w0 ds Q r n (.cond c x y) F L := XR'.cond false hc (fun h => by cases h) (fun _ => he)
theorem XI.id {l : List Oper} (h : XI P N B w0 ds Q r n ops l F L) : XI P N B w0 ds Q r n ops l F L := h
theorem XR'.id {c : Code} (h : XR' P N B w0 ds Q r n c F L) : XR' P N B w0 ds Q r n c F L := h
def markD (D : Nat) : Deferred := { target := .collected D, args := #[] }
theorem enterM {f : FuncId} {fn : Func} {c : Code} {vs : List Value} {w : World} {R : Ending → World → Prop} {n : Nat} (hf : P.funcs[f]? = some fn) (hb : fn.body = some c) (hN : fn.ntmps = n)
    (hn : Nat.ble vs.length n = true) (h : XC P n w.heap.size w [] (bodyPostM Fence.wide 0 P fn R) c (frame 0 vs) []) : Calls P f vs.toArray w R := by
  subst hN
  have hn' := Nat.le_of_ble_eq_true hn
  refine (callsIn_wide (n := 0)).1 (callsIn_of_wp_marks (F := Fence.wide) hf hb trivial ((wpIn_wide (n := 0)).2 (h.run _ w ⟨?_, rfl, fun t v _ hv => ?_⟩ (Sys.enter w))))
  · simp; omega
  · obtain ⟨_, h2⟩ := lk_frame vs 0 t v hv
    have hlt : t < vs.length := (List.getElem?_eq_some_iff.1 h2).1
    simp only [Array.getD_eq_getD_getElem?]
    rw [Array.getElem?_append_left (by simpa using hlt)]
    simp at h2 ⊢
    rw [h2]; rfl
theorem XE.retM (hT : TOK P T) {fn : Func} {R : Ending → World → Prop} {rs : List ResultVar} {vs : List Value} {c : Prop} {D i : Nat} {L' : Lo} (h : fn.results = ⟨rs⟩) (hL : L[i]? = some (D, .deferred (some []))) (hL' : setN L i (D, .deferred none) = some L')
    (hv : resO T F L' rs = some (vs, c)) (hc : c) (hR : ∀ w, Sys B w0 L' w → R (.returned (tupV vs)) w) : XE N B w0 [markD D] (bodyPostM Fence.wide 0 P fn R) .ret F L := by
  refine ⟨fun a w hf hw => ?_⟩
  show LeavesInM Fence.wide 0 P fn a.tmps R a.defers .returning w
  rw [hf.defers]
  have hD := (hw.own _ (List.mem_of_getElem? hL)).2
  obtain ⟨e, hlt⟩ := setN_spec _ _ _ _ hL'
  have hsys : Sys B w0 L' (w.putObj D (.deferred none)) := hw.setObj hL e
  refine ⟨by simp, .inl ⟨D, w.putObj D (.deferred none), rfl, run_takeDeferred hD, ?_⟩⟩
  have hf' : Fits N [] F { a with defers := [] } := ⟨hf.size, rfl, hf.get⟩
  have h1 := resO_run hT hf' hsys hv hc
  have h2 : (results fn a.tmps).run P (w.putObj D (.deferred none)) = .ok (tupV vs) (w.putObj D (.deferred none)) := by
    unfold results
    rw [h, Array.mapM_eq_mapM_toList]
    simp only [Sem.run_bind, Sem.run_map]
    refine (congrArg (fun r : Result (List Value) => (r.andThen fun a w' => Result.ok a.toArray w').andThen fun a w' => Sem.run P (pure (if h : a.size = 1 then a[0] else Value.tuple a)) w') h1).trans ?_
    simp only [Result.andThen_ok, Sem.run_pure]
    cases vs with
    | nil => rfl
    | cons v vs => cases vs with
      | nil => rfl
      | cons u vs => simp [tupV]
  show LeavesIn Fence.wide 0 P fn a.tmps R [] .returning (w.putObj D (.deferred none))
  exact ⟨_, h2, hR _ hsys⟩
end
end Go.Proofs.YtmpaiphakjogjaaGreat.X
namespace Go.Proofs.YtmpaiphakjogjaaGreat.X
open Go Go.RowKit
abbrev recO (fn : FuncId) (tmps : Array Value) (ps : Array Tmp) (assign body : Code) (D : Nat) (st : LoopState) (pe : Option Code) : Loop :=
  { state := st, pending := pe, fn := fn, tmps := tmps, params := ps, assign := assign, body := body, defers := D }
section
variable {P : Program} {T : TT} {N : Nat} {B : Nat} {w0 : World} {ds : List Deferred} {Q : Exit → Act → World → Prop} {F : Fr} {L L' : Lo} {n : Nat}
theorem XE.begin {l i : Nat} {r : Loop} {body : Code} {Q' : Exit → Act → World → Prop} (hL : L[i]? = some (l, .loop r)) (hr : r.state = .ready) (hL' : setN L i (l, .loop { r with state := .busy }) = some L')
    (h : XR' P N B w0 ds Q' (some l) n body F L') :
    XE N B w0 ds (Exit.then (fun a₁ w₁ => ∃ w₂, (Instr.beginRound l).run P w₁ = .ok () w₂ ∧ body.wpIn (Fence.wide.inRound l) n P Q' a₁ w₂) (fun _ _ _ => False)) .normal F L :=
  ⟨fun a w hf hs => by
    obtain ⟨e, _⟩ := setN_spec _ _ _ _ hL'
    exact ⟨_, run_beginRound (hs.own _ (List.mem_of_getElem? hL)).2 hr, h.run a _ hf (hs.setObj hL e)⟩⟩
theorem XE.endR {l i : Nat} {r : Loop} {R : Ending → World → Prop} (hL : L[i]? = some (l, .loop r)) (hL' : setN L i (l, .loop { r with state := .ready, pending := none }) = some L')
    (h : ∀ w, Sys B w0 L' w → R (.returned (.bool true)) w) : XE N B w0 ds (roundPost P l R) .normal F L :=
  ⟨fun a w hf hs => by
    obtain ⟨e, _⟩ := setN_spec _ _ _ _ hL'
    exact ⟨_, _, run_endRound none (hs.own _ (List.mem_of_getElem? hL)).2, h _ (hs.setObj hL e)⟩⟩
theorem XE.endRet {l i : Nat} {r : Loop} {R : Ending → World → Prop} (hL : L[i]? = some (l, .loop r)) (hL' : setN L i (l, .loop { r with state := .done, pending := some .ret }) = some L')
    (h : ∀ w, Sys B w0 L' w → R (.returned (.bool false)) w) : XE N B w0 ds (roundPost P l R) .ret F L :=
  ⟨fun a w hf hs => by
    obtain ⟨e, _⟩ := setN_spec _ _ _ _ hL'
    exact ⟨_, _, run_endRound (some .ret) (hs.own _ (List.mem_of_getElem? hL)).2, h _ (hs.setObj hL e)⟩⟩
theorem Fits.params2 {a : Act} {t u : Nat} {v x : Value} (h : Fits N ds F a) (ht : Nat.blt t N = true) (hu : Nat.blt u N = true) :
    Fits N [] ((u, x) :: (t, v) :: F) { tmps := ((#[t, u] : Array Tmp).zip #[v, x]).foldl (fun s (p, y) => s.setIfInBounds p y) a.tmps, defers := [] } := by
  have h1 := (h.put (v := v) ht).put (v := x) hu
  have e : ((#[t, u] : Array Tmp).zip #[v, x]).foldl (fun s (p, y) => s.setIfInBounds p y) a.tmps = ((a.put (some t) v).put (some u) x).tmps := by
    simp [Act.put]
  rw [e]
  exact ⟨h1.size, rfl, h1.get⟩
theorem round_of {l : Nat} {fn : FuncId} {tmps : Array Value} {assign body : Code} {w : World} {R : Ending → World → Prop} (hf : Fits N [] F { tmps := tmps, defers := [] }) (hs : Sys B w0 L w)
    (h : XR' P N B w0 [] (Exit.then (fun a₁ w₁ => ∃ w₂, (Instr.beginRound l).run P w₁ = .ok () w₂ ∧ body.wpIn (Fence.wide.inRound l) n P (roundPost P l R) a₁ w₂) (fun _ _ _ => False)) (some l) n assign F L) :
    RoundIn Fence.wide n P l fn tmps assign body w R :=
  roundIn_of_wpIn trivial (h.run _ w hf hs)
end
end Go.Proofs.YtmpaiphakjogjaaGreat.X
namespace Go.Proofs.YtmpaiphakjogjaaGreat.Bs
def tk (ts : List Tick) (k : Nat) : Tick := ts[k]?.getD ⟨0, 0, 0⟩
noncomputable def staAt (b : Bas) (s : Sta) (ts : List Tick) : Nat → Sta
  | 0 => s
  | k + 1 => outS b (staAt b s ts k) (tk ts k)
noncomputable def floAt (b : Bas) (s : Sta) (ts : List Tick) (k : Nat) : Flo := outF b (staAt b s ts k) (tk ts k)
noncomputable def errAt (b : Bas) (s : Sta) (ts : List Tick) (k : Nat) : Int := stepE b (staAt b s ts k) (tk ts k)
noncomputable def badAt (b : Bas) (s : Sta) (ts : List Tick) : Option Nat := (List.range ts.length).find? fun k => decide (errAt b s ts k ≠ 0)
noncomputable def momsAt (b : Bas) (s : Sta) (ts : List Tick) (k : Nat) : List (Sta × Flo) := (List.range k).map fun i => (staAt b s ts (i + 1), floAt b s ts i)
open Classical in
noncomputable def runE (b : Bas) (s : Sta) (ts : List Tick) : Int :=
  if staErr b s ≠ 0 then staErr b s else if 300 < ts.length then 3 else match badAt b s ts with
    | none => 0
    | some k => errAt b s ts k
end Go.Proofs.YtmpaiphakjogjaaGreat.Bs
namespace Go.Proofs.YtmpaiphakjogjaaGreat.X
open Go Go.RowKit Go.Proofs.YtmpaiphakjogjaaGreat.Bs
structure TksAt (w : World) (ok : Nat → Prop) (q : SV) (ts : List Tick) : Prop where
  rd : ReadsP w ok 3 q.A q.n (ts.flatMap tickC)
  max : q.n ≤ 9223372036854775807
def momC (q r : SV) (s : Sta) (f : Flo) : List Value := staC q s ++ floC r f
section
variable {w w' w0 : World} {ok ok' : Nat → Prop} {B : Nat} {q : SV} {ts : List Tick} {L : Lo}
end
end Go.Proofs.YtmpaiphakjogjaaGreat.X
namespace Go.Proofs.YtmpaiphakjogjaaGreat.X
open Go Go.RowKit
def isIf (d : Option TypeDesc) : Bool := match d with
  | some (.interface _) => true
  | _ => false
def isNilI : Value → Option Bool
  | .nilIface => some true
  | .iface _ _ => some false
  | _ => none
section
variable {P : Program} {T : TT} {N : Nat} {B : Nat} {w0 : World} {ds : List Deferred} {F : Fr} {L : Lo} {pu : Prop}
variable {dst : Option Tmp} {ty : TypeId} {p : String} {af : Array Edge} {gd : Option (Nat × Bool)}
theorem run_ifNil (w : World) {t : TypeId} {v : Value} {b : Bool} (hu : isIf (P.underlying t) = true) (hv : isNilI v = some b) : (Op.equal t v .nilIface).run P w = .ok b w := by
  have hi : ∃ ms, P.underlying t = some (.interface ms) := by
    unfold isIf at hu
    split at hu
    · rename_i ms h; exact ⟨ms, h⟩
    · cases hu
  obtain ⟨ms, hi⟩ := hi
  have h1 : ∀ d : Nat, (Op.equalIn (d + 1) t .nilIface .nilIface).run P w = .ok true w := fun d => by simp [Op.equalIn, run_underlying hi]
  have h2 : ∀ (d : Nat) tp v, (Op.equalIn (d + 1) t (.iface tp v) .nilIface).run P w = .ok false w := fun d tp v => by simp [Op.equalIn, run_underlying hi]
  cases v <;> simp [isNilI] at hv <;> subst hv <;> first
    | (simp [Op.equal, Op.maxDepth, h1 9999]; done)
    | (simp [Op.equal, Op.maxDepth, h2 9999]; done)
theorem Ev.ifEql {x : Operand} {t u : TypeId} {v : Value} {b : Bool} (hx : evo F x = some v) (hv : isNilI v = some b) (hu : isIf (P.underlying t) = true) :
    Ev P N B w0 ds pu F L ⟨dst, .binOp .eql t x (.const .nilIface) u, ty, p, af, gd⟩ (.bool b) := .of_run fun a w hf hw => by
  have h1 := run_ifNil w hu hv
  have e := hf.eval hx
  have e2 : a.eval (.const .nilIface) = .nilIface := rfl
  cases v <;> simp [isNilI] at hv <;> subst hv <;> simp only [execOp, e, e2] <;> simp [eqGuard, binOp, h1]
end
def plainO (o : Oper) : Bool := match o.op with
  | .defer _ => false
  | .call c => match c.callee with
    | .value (.tmp _) => false
    | _ => true
  | _ => true
theorem XI.one1 {P : Program} {N B : Nat} {w0 : World} {ds : List Deferred} {Q : Exit → Act → World → Prop} {F : Fr} {L : Lo} {ops : Array Oper} {rest : List Oper} {r : Option Nat} {n : Nat} {o : Oper} (hd : plainO o = true) (h : XL P N B w0 ds (only (wpListIn (fen r) n P ops Q rest)) ops [o] F L) : XI P N B w0 ds Q r n ops (o :: rest) F L :=
  XI.one (by
    unfold plainO at hd
    unfold notDefer
    split at hd <;> simp_all) h
end Go.Proofs.YtmpaiphakjogjaaGreat.X
namespace Go.Proofs.YtmpaiphakjogjaaGreat.X
open Go Go.RowKit Go.Proofs.YtmpaiphakjogjaaGreat.Bs
def rfOf : Code → Option (Code × Code)
  | .rangeFunc _ _ a b => some (a, b)
  | .seq x y => match rfOf x with
    | some r => some r
    | none => rfOf y
  | .block _ c => rfOf c
  | _ => none
structure Mom where
  s : Sta
  f : Flo
  q : SV
  r : SV
def Mom.c (m : Mom) : List Value := momC m.q m.r m.s m.f
def Mom.p (m : Mom) : Sta × Flo := (m.s, m.f)
def Own (base : Nat) (ks : List Nat) (row : Option Nat) (W : World) : Nat → Prop := fun j => base ≤ j ∧ j < W.heap.size ∧ j ∉ ks ∧ row ≠ some j
structure Grew (ks : List Nat) (row : Option Nat) (W W' : World) : Prop where
  size : W.heap.size ≤ W'.heap.size
  old : ∀ j, j < W.heap.size → j ∉ ks → row ≠ some j → W'.heap[j]? = W.heap[j]?
abbrev K8 (l D gl gs gb g8 g7 g6 : Nat) : List Nat := [l, D, gl, gs, gb, g8, g7, g6]
abbrev twoV (tmps : Array Value) (v x : Value) : Array Value := ((#[15, 16] : Array Tmp).zip #[v, x]).foldl (fun s (p, y) => s.setIfInBounds p y) tmps
def zmC : List Value := [.int .i64 0, .slice none 0 0, .int .i64 0, .int .i64 0, .int .i64 0, .int .i64 0, .slice none 0 0]
end Go.Proofs.YtmpaiphakjogjaaGreat.X
namespace Go.Proofs.YtmpaiphakjogjaaGreat.X
open Go Go.RowKit
structure Held where
  p : World → (Nat → Prop) → Prop
  keep : ∀ {w w' : World} {ok : Nat → Prop}, p w ok → (∀ k, ok k → w'.heap[k]? = w.heap[k]?) → p w' ok
  mono : ∀ {w : World} {ok ok' : Nat → Prop}, p w ok → (∀ k, ok k → ok' k) → p w ok'
structure Kind (α : Type) where
  ty : TypeId
  m : Nat
  c : α → List Value
  sl : α → List Held
  len : ∀ a, (c a).length = m
structure ListAt {α : Type} (K : Kind α) (W : World) (ok : Nat → Prop) (r : SV) (l : List α) : Prop where
  rd : ReadsP W ok K.m r.A r.n (l.flatMap K.c)
  max : r.n ≤ 9223372036854775807
  ins : ∀ a, a ∈ l → ∀ h, h ∈ K.sl a → h.p W ok
section
variable {α : Type} {K : Kind α} {w w' w0 W : World} {ok ok' : Nat → Prop} {B : Nat} {r : SV} {l : List α} {L : Lo}
theorem ListAt.keep (h : ListAt K w ok r l) (hk : ∀ k, ok k → w'.heap[k]? = w.heap[k]?) : ListAt K w' ok r l := ⟨h.rd.keep hk, h.max, fun a ha x hx => x.keep (h.ins a ha x hx) hk⟩
theorem ListAt.mono (h : ListAt K w ok r l) (hk : ∀ k, ok k → ok' k) : ListAt K w ok' r l := ⟨h.rd.mono hk, h.max, fun a ha x hx => x.mono (h.ins a ha x hx) hk⟩
theorem ListAt.below (h : ListAt K w (Lt B) r l) (hb : Below B w w') : ListAt K w' (Lt B) r l := h.keep fun k hk => hb.block k hk
theorem ListAt.len (h : ListAt K w ok r l) (h0 : 0 < K.m) : r.n = l.length := by
  have := h.rd.len
  rw [flat_len K.c K.m K.len] at this
  exact (Nat.eq_of_mul_eq_mul_right h0 this).symm
theorem ListAt.nil : ListAt K w ok ⟨none, 0, 0⟩ [] := ⟨ReadsP.nil, Nat.zero_le _, fun a ha => by cases ha⟩
theorem ListAt.elem {ad : Addr} {n c : Nat} (h : ListAt K w ok ⟨some ad, n, c⟩ l) {k : Nat} {a : α} (hk : l[k]? = some a) : ∀ j u, (K.c a)[j]? = some u → w.cell? ((ad.add (k * K.m)).add j) = some u := fun j u hj => by
  have hj3 : j < K.m := by have := (List.getElem?_eq_some_iff.1 hj).1; rwa [K.len] at this
  have hn := h.len (by omega)
  have hkl := (List.getElem?_eq_some_iff.1 hk).1
  obtain ⟨ad', e, _, h1⟩ := h.rd.at_ (by simp only at hn ⊢; omega)
  cases e
  have e2 := flat_at K.c K.m K.len l k j a hk hj3
  have := h1 (k * K.m + j) u (e2.trans hj)
  rw [add_add]
  exact this
theorem ListAt.addr {A : Option Addr} {n c : Nat} (h : ListAt K w ok ⟨A, n, c⟩ l) (h0 : 0 < K.m) (hn : 0 < l.length) : ∃ ad, A = some ad ∧ ok ad.block := by
  have := h.len h0
  obtain ⟨ad, e, h1, _⟩ := h.rd.at_ (by simp only at this ⊢; omega)
  exact ⟨ad, e, h1⟩
end
theorem owns_move' {W W' : World} {v : Value} {base e size n : Nat} {xs : List Value} (h : W.ownsRow base e size v n xs) (hk : ∀ k, v.ownBlock = some k → W'.heap[k]? = W.heap[k]?) : W'.ownsRow base e size v n xs := by
  refine ⟨h.1, ?_⟩
  rcases h.2 with h1 | ⟨g, cap, cur, rfl, hb, hg, h1⟩
  · exact .inl h1
  · exact .inr ⟨g, cap, cur, rfl, hb, by rw [hk g rfl]; exact hg, h1⟩
def hList {α : Type} (K : Kind α) (r : SV) (l : List α) : Held := ⟨fun w ok => ListAt K w ok r l, ListAt.keep, ListAt.mono⟩
def hInts (q : SV) (l : List Int) : Held := ⟨fun w ok => IntsAt w ok q l, IntsAt.keep, IntsAt.mono⟩
structure RowX where
  α : Type
  K : Kind α
  v : Value
  l : List α
def Free (W : World) (b0 : Nat) (ks : List Nat) (rs : List RowX) (j : Nat) : Prop := b0 ≤ j ∧ j < W.heap.size ∧ j ∉ ks ∧ ∀ r, r ∈ rs → r.v.ownBlock ≠ some j
structure Fam (W : World) (b0 : Nat) (ks : List Nat) (rs : List RowX) (hs : List Held) : Prop where
  base : b0 ≤ W.heap.size
  row : ∀ r, r ∈ rs → W.ownsRow b0 r.K.ty r.K.m r.v r.l.length (r.l.flatMap r.K.c)
  sep : ∀ r, r ∈ rs → ∀ k, r.v.ownBlock = some k → k ∉ ks
  two : rs.Pairwise fun r s => ∀ k, r.v.ownBlock = some k → s.v.ownBlock ≠ some k
  ins : ∀ r, r ∈ rs → ∀ a, a ∈ r.l → ∀ h, h ∈ r.K.sl a → h.p W (Free W b0 ks rs)
  held : ∀ h, h ∈ hs → h.p W (Free W b0 ks rs)
section
variable {W W' w w0 w1 w2 : World} {b0 B : Nat} {ks ks' : List Nat} {rs : List RowX} {hs hs' : List Held} {L : Lo}
theorem Fam.start (h : b0 ≤ W.heap.size) : Fam W b0 ks [] [] := ⟨h, fun _ h => (by cases h), fun _ h => (by cases h), .nil, fun _ h => (by cases h), fun _ h => (by cases h)⟩
theorem Fam.lt (h : Fam W b0 ks rs hs) {r : RowX} (hr : r ∈ rs) {k : Nat} (hk : r.v.ownBlock = some k) : b0 ≤ k ∧ k < W.heap.size := (h.row r hr).lt k hk
theorem Fam.nil {α : Type} (K : Kind α) (h : Fam W b0 ks rs hs) : Fam W b0 ks (⟨α, K, .slice none 0 0, []⟩ :: rs) hs := by
  have hf : ∀ j, Free W b0 ks rs j → Free W b0 ks (⟨α, K, .slice none 0 0, []⟩ :: rs) j := fun j hj => ⟨hj.1, hj.2.1, hj.2.2.1, fun r hr => by
    rcases List.mem_cons.1 hr with rfl | hr
    · simp [Value.ownBlock]
    · exact hj.2.2.2 r hr⟩
  refine ⟨h.base, fun r hr => ?_, fun r hr k hk => ?_, .cons (fun s hs k hk => by cases hk) h.two, fun r hr a ha x hx => ?_, fun x hx => x.mono (h.held x hx) hf⟩
  · rcases List.mem_cons.1 hr with rfl | hr
    · exact World.ownsRow_nil _ _ _ _
    · exact h.row r hr
  · rcases List.mem_cons.1 hr with rfl | hr
    · cases hk
    · exact h.sep r hr k hk
  · rcases List.mem_cons.1 hr with rfl | hr
    · cases ha
    · exact x.mono (h.ins r hr a ha x hx) hf
theorem Fam.hold (h : Fam W b0 ks rs hs) {x : Held} {ok : Nat → Prop} (hx : x.p W ok) (hk : ∀ j, ok j → Free W b0 ks rs j) : Fam W b0 ks rs (x :: hs) :=
  ⟨h.base, h.row, h.sep, h.two, h.ins, fun y hy => by
    rcases List.mem_cons.1 hy with rfl | hy
    · exact y.mono hx hk
    · exact h.held y hy⟩
theorem Fam.forget (h : Fam W b0 ks rs hs) (hh : ∀ x, x ∈ hs' → x ∈ hs) : Fam W b0 ks rs hs' := ⟨h.base, h.row, h.sep, h.two, h.ins, fun y hy => h.held y (hh y hy)⟩
theorem Fam.add (h : Fam W b0 ks rs hs) (hk : ∀ k, k ∈ ks' → k ∈ ks ∨ W.heap.size ≤ k) : Fam W b0 ks' rs hs := by
  have hf : ∀ j, Free W b0 ks rs j → Free W b0 ks' rs j := fun j hj => ⟨hj.1, hj.2.1, fun h1 => by
    rcases hk j h1 with h2 | h2
    · exact hj.2.2.1 h2
    · have := hj.2.1; omega, hj.2.2.2⟩
  exact ⟨h.base, h.row, fun r hr k h1 h2 => by
    rcases hk k h2 with h3 | h3
    · exact h.sep r hr k h1 h3
    · have := (h.lt hr h1).2; omega, h.two, fun r hr a ha x hx => x.mono (h.ins r hr a ha x hx) hf, fun x hx => x.mono (h.held x hx) hf⟩
theorem Fam.move (h : Fam W b0 ks rs hs) (hsz : W.heap.size ≤ W'.heap.size) (ho : ∀ j, j < W.heap.size → j ∉ ks → W'.heap[j]? = W.heap[j]?) : Fam W' b0 ks rs hs := by
  have hf : ∀ j, Free W b0 ks rs j → Free W' b0 ks rs j := fun j hj => ⟨hj.1, by have := hj.2.1; omega, hj.2.2⟩
  have hk : ∀ j, Free W b0 ks rs j → W'.heap[j]? = W.heap[j]? := fun j hj => ho j hj.2.1 hj.2.2.1
  exact ⟨Nat.le_trans h.base hsz, fun r hr => owns_move' (h.row r hr) fun k h1 => ho k (h.lt hr h1).2 (h.sep r hr k h1), h.sep, h.two, fun r hr a ha x hx => x.mono (x.keep (h.ins r hr a ha x hx) hk) hf, fun x hx => x.mono (x.keep (h.held x hx) hk) hf⟩
theorem Fam.sys (h : Fam w0 b0 ks rs hs) (S : Sys B w0 L w) (hL : ∀ e, e ∈ L → e.1 ∈ ks ∨ w0.heap.size ≤ e.1) : Fam w b0 ks rs hs :=
  h.move S.size fun j hj hn => S.old j hj fun e he e1 => by
    rcases hL e he with h2 | h2
    · exact hn (e1 ▸ h2)
    · omega
theorem Fam.below (h : Fam w b0 ks rs hs) (hb : Below w.heap.size w w2) : Fam w2 b0 ks rs hs := h.move hb.size fun j hj _ => hb.block j hj
theorem Fam.made (h : Fam w1 b0 ks rs hs) (hb : Below w1.heap.size w1 w2) {x : Held} (hx : x.p w2 (Btw w1.heap.size w2.heap.size)) (hk : ∀ k, k ∈ ks → k < w1.heap.size) : Fam w2 b0 ks rs (x :: hs) :=
  (h.below hb).hold hx fun j hj => ⟨Nat.le_trans h.base hj.1, hj.2, fun h1 => by have := hk j h1; have := hj.1; omega, fun r hr h1 => by have := (h.lt hr h1).2; have := hj.1; omega⟩
theorem Fam.push {α : Type} {K : Kind α} {v v' : Value} {l : List α} {a : α} {i : Nat} (h : Fam W b0 ks rs hs) (hi : rs[i]? = some ⟨α, K, v, l⟩) (ha : ∀ x, x ∈ K.sl a → x ∈ hs) (hrow : W'.ownsRow b0 K.ty K.m v' (l.length + 1) (l.flatMap K.c ++ K.c a))
    (hsz : W.heap.size ≤ W'.heap.size) (ho : ∀ j, j < W.heap.size → j ∉ ks → v.ownBlock ≠ some j → W'.heap[j]? = W.heap[j]?) (hfr : ∀ k, v'.ownBlock = some k → v.ownBlock = some k ∨ (W.heap.size ≤ k ∧ k ∉ ks)) :
    Fam W' b0 ks (rs.set i ⟨α, K, v', l ++ [a]⟩) hs := by
  have hm : ∀ r, r ∈ rs.set i ⟨α, K, v', l ++ [a]⟩ → r = ⟨α, K, v', l ++ [a]⟩ ∨ (r ∈ rs ∧ ∀ k, r.v.ownBlock = some k → v.ownBlock ≠ some k) := fun r hr => by
    obtain ⟨j, hj, rfl⟩ := List.mem_iff_getElem.1 hr
    by_cases hij : i = j
    · subst hij; left; simp
    · right
      rw [List.getElem_set_ne hij]
      simp at hj
      refine ⟨List.getElem_mem _, fun k hk h2 => ?_⟩
      obtain ⟨hil, hie⟩ := List.getElem?_eq_some_iff.1 hi
      have hp := List.pairwise_iff_getElem.1 h.two
      rcases Nat.lt_or_gt_of_ne hij with h3 | h3
      · have := hp i j hil hj h3 k (by rw [hie]; exact h2)
        exact this hk
      · have := hp j i hj hil h3 k hk
        rw [hie] at this
        exact this h2
  have hri : (⟨α, K, v, l⟩ : RowX) ∈ rs := List.mem_of_getElem? hi
  have hf : ∀ j, Free W b0 ks rs j → Free W' b0 ks (rs.set i ⟨α, K, v', l ++ [a]⟩) j := fun j hj => ⟨hj.1, by have := hj.2.1; omega, hj.2.2.1, fun r hr h1 => by
    rcases hm r hr with rfl | ⟨h2, _⟩
    · rcases hfr j h1 with h3 | h3
      · exact hj.2.2.2 _ hri h3
      · have := hj.2.1; omega
    · exact hj.2.2.2 r h2 h1⟩
  have hk : ∀ j, Free W b0 ks rs j → W'.heap[j]? = W.heap[j]? := fun j hj => ho j hj.2.1 hj.2.2.1 fun h1 => hj.2.2.2 _ hri h1
  refine ⟨Nat.le_trans h.base hsz, fun r hr => ?_, fun r hr k h1 => ?_, ?_, fun r hr b hb x hx => ?_, fun x hx => x.mono (x.keep (h.held x hx) hk) hf⟩
  · rcases hm r hr with rfl | ⟨h2, h3⟩
    · simpa using hrow
    · exact owns_move' (h.row r h2) fun k h4 => ho k (h.lt h2 h4).2 (h.sep r h2 k h4) (h3 k h4)
  · rcases hm r hr with rfl | ⟨h2, h3⟩
    · rcases hfr k h1 with h4 | h4
      · exact h.sep _ hri k h4
      · exact h4.2
    · exact h.sep r h2 k h1
  · rw [List.pairwise_iff_getElem]
    have hp := List.pairwise_iff_getElem.1 h.two
    obtain ⟨hil, hie⟩ := List.getElem?_eq_some_iff.1 hi
    intro p q hpl hql hpq k hk1 hk2
    simp at hpl hql
    by_cases h1 : i = p
    · subst h1
      have h2 : i ≠ q := by omega
      rw [List.getElem_set_ne h2] at hk2
      simp at hk1
      rcases hfr k hk1 with h4 | h4
      · exact hp i q hpl hql hpq k (by rw [hie]; exact h4) hk2
      · have := (h.lt (List.getElem_mem hql) hk2).2; omega
    · by_cases h2 : i = q
      · subst h2
        rw [List.getElem_set_ne h1] at hk1
        simp at hk2
        rcases hfr k hk2 with h4 | h4
        · have := hp p i hpl hql hpq k hk1
          rw [hie] at this
          exact this h4
        · have := (h.lt (List.getElem_mem hpl) hk1).2; omega
      · rw [List.getElem_set_ne h1] at hk1
        rw [List.getElem_set_ne h2] at hk2
        exact hp p q hpl hql hpq k hk1 hk2
  · rcases hm r hr with rfl | ⟨h2, h3⟩
    · rcases List.mem_append.1 hb with h4 | h4
      · exact x.mono (x.keep (h.ins _ hri b h4 x hx) hk) hf
      · have h5 : b = a := List.mem_singleton.1 h4
        have h6 : x ∈ K.sl b := hx
        rw [h5] at h6
        exact x.mono (x.keep (h.held x (ha x h6)) hk) hf
    · exact x.mono (x.keep (h.ins r h2 b hb x hx) hk) hf
theorem Fam.list {α : Type} {K : Kind α} {v : Value} {l : List α} (h : Fam W b0 ks rs hs) (hr : (⟨α, K, v, l⟩ : RowX) ∈ rs) : ∃ r : SV, v = svV r ∧ ListAt K W (Btw b0 W.heap.size) r l := by
  have h1 := h.row _ hr
  obtain ⟨r, rfl, hrn⟩ := owns_sv h1
  obtain ⟨a1, a2, _, a4⟩ := ReadsP.own h1
  refine ⟨r, rfl, by rw [a2]; exact a1, by simp only [maxLen] at a4 hrn; omega, fun a ha x hx => x.mono (h.ins _ hr a ha x hx) fun j hj => ⟨hj.1, hj.2.1⟩⟩
theorem Fam.get {x : Held} (h : Fam W b0 ks rs hs) (hx : x ∈ hs) : x.p W (Btw b0 W.heap.size) := x.mono (h.held x hx) fun j hj => ⟨hj.1, hj.2.1⟩
end
section
variable {P : Program} {T : TT} {N : Nat} {B : Nat} {w0 : World} {ds : List Deferred} {Q : Exit → Act → World → Prop} {F : Fr} {L : Lo} {ops : Array Oper} {rest : List Oper} {ty : TypeId} {p : String} {af : Array Edge}
theorem XL.at_push {N : Nat} {ds : List Deferred} {F : Fr} {d : Nat} (t : TypeId) {args : Array Operand} (k : XL P N B w0 ds Q ops ({ dst := some d, op := .call { callee := .builtin .append, args := args, argTypes := #[t, t] }, type := ty, pos := p, after := af, guard := none } :: rest) F L) :
    XL P N B w0 ds Q ops ({ dst := some d, op := .call { callee := .builtin .append, args := args, argTypes := #[t, t] }, type := ty, pos := p, after := af, guard := none } :: rest) F L := k
theorem XL.push {α : Type} {K : Kind α} {d : Nat} {t : TypeId} {x y : Operand} {v : Value} {l : List α} {a : α} {c bytes b0 : Nat} {A : Addr} {ks : List Nat} {rs : List RowX} {hs : List Held} {wE : World} (i : Nat) (he : elemOk P t K.ty K.m bytes = true) (h0 : 0 < K.m)
    (hx : evo F x = some v) (hy : evo F y = some (.slice (some A) 1 c)) (hd : Nat.blt d N = true) (hF : Fam w0 b0 ks rs hs) (hi : rs[i]? = some ⟨α, K, v, l⟩) (hks : ∀ k, k ∈ ks → k < w0.heap.size) (hbl : Below B wE w0) (hB : B ≤ b0) (h1 : (K.c a).all Value.oneCell' = true) (h63 : l.length + 1 ≤ 10000000) (hb : bytes ≤ 10000000) (ha : ∀ x, x ∈ K.sl a → x ∈ hs)
    (k : ∀ w' v', Fam w' b0 (L.map (·.1) ++ ks) (rs.set i ⟨α, K, v', l ++ [a]⟩) hs → Below B wE w' → (∀ k, k ∈ L.map (·.1) ++ ks → k < w'.heap.size) → XL P N B w' ds Q ops rest ((d, v') :: F) L)
    (hL : ∀ e, e ∈ L → e.1 ∈ ks ∨ w0.heap.size ≤ e.1 := by (intro e he; repeat (first | (cases he; done) | (rcases List.mem_cons.1 he with rfl | he; · first | (right; assumption) | (left; simp <;> fail)))) <;> fail) (hnews : ∀ w, Sys B w0 L w → ∀ j u, (K.c a)[j]? = some u → w.cell? (A.add j) = some u := by (intro w S j u hj; first | (rw [add_off, Nat.zero_add, S.cell List.mem_cons_self j]; exact hj) | (rw [add_off, Nat.zero_add, S.cell (List.mem_cons_of_mem _ List.mem_cons_self) j]; exact hj) | (rw [add_off, Nat.zero_add, S.cell (List.mem_cons_of_mem _ (List.mem_cons_of_mem _ List.mem_cons_self)) j]; exact hj))) :
    XL P N B w0 ds Q ops ({ dst := some d, op := .call { callee := .builtin .append, args := #[x, y], argTypes := #[t, t] }, type := ty, pos := p, after := af, guard := none } :: rest) F L := by
  have hri : (⟨α, K, v, l⟩ : RowX) ∈ rs := List.mem_of_getElem? hi
  have hk2 : ∀ k, k ∈ L.map (·.1) ++ ks → k ∈ ks ∨ w0.heap.size ≤ k := fun k hk => by
    rcases List.mem_append.1 hk with h | h
    · obtain ⟨e, he, rfl⟩ := List.mem_map.1 h
      exact hL e he
    · exact .inl h
  have hk3 : ∀ w, Sys B w0 L w → ∀ k, k ∈ L.map (·.1) ++ ks → k < w.heap.size := fun w S k hk => by
    rcases List.mem_append.1 hk with h | h
    · obtain ⟨e, he, rfl⟩ := List.mem_map.1 h
      exact S.lt he
    · exact Nat.lt_of_lt_of_le (hks k h) S.size
  refine XL.append2 (v := v) (m := 1) (n := l.length) (size := K.m) (bytes := bytes) (base := b0) (A := A) (xs := l.flatMap K.c) (news := K.c a) (L' := L) he h0 hx hy hd (hF.row _ hri) (fun k hk e he e1 => ?_) (by rw [K.len]; omega) hnews h1 (by unfold maxLen; omega)
    (Nat.le_trans (Nat.mul_le_mul h63 hb) (by decide)) hF.base (List.Sublist.refl _) (fun w v' w' S ho hg _ hfr => ?_)
  · rcases hL e he with h | h
    · exact hF.sep _ hri k hk (e1 ▸ h)
    · have := (hF.lt hri hk).2; omega
  · have hsz := hg.size
    have hS := S.size
    refine k w' v' ?_ (hbl.trans (grown_below S hg fun k hk => Nat.le_trans hB (hF.lt hri hk).1)) fun q hq => Nat.lt_of_lt_of_le (hk3 w S q hq) hsz
    refine (hF.add (ks' := L.map (·.1) ++ ks) hk2).push hi ha ho (Nat.le_trans hS hsz) (fun j hj hn hv => ?_) (fun k hk => ?_)
    · exact grown_old S hg hj (fun e he e1 => hn (List.mem_append_left _ (List.mem_map.2 ⟨e, he, e1⟩))) fun e1 => hv e1.symm
    · rcases hfr k hk with h | h
      · exact .inl h
      · exact .inr ⟨Nat.le_trans hS h, fun h2 => by have := hk3 w S k h2; omega⟩
def Made (w : World) (R : Value → List Held → Prop) (e : Ending) (w' : World) : Prop := ∃ v new, e = .returned v ∧ R v new ∧ (∀ x, x ∈ new → x.p w' (Btw w.heap.size w'.heap.size)) ∧ Below w.heap.size w w'
theorem Fam.call {w0 w1 w2 : World} {b0 : Nat} {ks : List Nat} {rs : List RowX} {hs new : List Held} (hF : Fam w0 b0 ks rs hs) (S : Sys B w0 L w1) (hb : Below w1.heap.size w1 w2) (hL : ∀ e, e ∈ L → e.1 ∈ ks ∨ w0.heap.size ≤ e.1) (hks : ∀ k, k ∈ ks → k < w0.heap.size)
    (hx : ∀ x, x ∈ new → x.p w2 (Btw w1.heap.size w2.heap.size)) : Fam w2 b0 (L.map (·.1) ++ ks) rs (new ++ hs) ∧ ∀ k, k ∈ L.map (·.1) ++ ks → k < w2.heap.size := by
  have hk3 : ∀ k, k ∈ L.map (·.1) ++ ks → k < w1.heap.size := fun k hk => by
    rcases List.mem_append.1 hk with h | h
    · obtain ⟨e, he, rfl⟩ := List.mem_map.1 h
      exact S.lt he
    · exact Nat.lt_of_lt_of_le (hks k h) S.size
  have h1 : Fam w0 b0 (L.map (·.1) ++ ks) rs hs := hF.add fun k hk => by
    rcases List.mem_append.1 hk with h | h
    · obtain ⟨e, he, rfl⟩ := List.mem_map.1 h
      exact hL e he
    · exact .inl h
  have h2 : Fam w1 b0 (L.map (·.1) ++ ks) rs hs := h1.sys S fun e he => .inl (List.mem_append_left _ (List.mem_map.2 ⟨e, he, rfl⟩))
  refine ⟨?_, fun k hk => Nat.lt_of_lt_of_le (hk3 k hk) hb.size⟩
  clear hL hks h1
  induction new with
  | nil => exact h2.below hb
  | cons x new ih =>
    have := ih fun y hy => hx y (List.mem_cons_of_mem _ hy)
    exact this.hold (hx x List.mem_cons_self) fun j hj => ⟨Nat.le_trans h2.base hj.1, hj.2, fun h3 => by have := hk3 j h3; have := hj.1; omega, fun r hr h3 => by have := (h2.lt hr h3).2; have := hj.1; omega⟩
theorem XL.at_call {N : Nat} {ds : List Deferred} {F : Fr} {d : Nat} (f : FuncId) {args : Array Operand} {ats : Array TypeId} (k : XL P N B w0 ds Q ops ({ dst := some d, op := .call { callee := .value (.func f), args := args, argTypes := ats }, type := ty, pos := p, after := af, guard := none } :: rest) F L) :
    XL P N B w0 ds Q ops ({ dst := some d, op := .call { callee := .value (.func f), args := args, argTypes := ats }, type := ty, pos := p, after := af, guard := none } :: rest) F L := k
theorem XL.callF {f : FuncId} {d : Nat} {args : Array Operand} {vs : List Value} {ats : Array TypeId} {b0 : Nat} {ks : List Nat} {rs : List RowX} {hs : List Held} {wE : World} (R : Value → List Held → Prop) (h : callOk P f = true)
    (ha : evos F args.toList = some vs) (hd : Nat.blt d N = true) (hF : Fam w0 b0 ks rs hs) (hks : ∀ k, k ∈ ks → k < w0.heap.size) (hbl : Below B wE w0)
    (hc : ∀ w, Sys B w0 L w → Fam w b0 (L.map (·.1) ++ ks) rs hs → Below B wE w → Calls P f vs.toArray w (Made w R))
    (k : ∀ w' v new, R v new → Fam w' b0 (L.map (·.1) ++ ks) rs (new ++ hs) → Below B wE w' → (∀ k, k ∈ L.map (·.1) ++ ks → k < w'.heap.size) → XL P N B w' ds Q ops rest ((d, v) :: F) L)
    (hL : ∀ e, e ∈ L → e.1 ∈ ks ∨ w0.heap.size ≤ e.1 := by (intro e he; repeat (first | (cases he; done) | (rcases List.mem_cons.1 he with rfl | he; · first | (right; assumption) | (left; simp <;> fail)))) <;> fail) :
    XL P N B w0 ds Q ops ({ dst := some d, op := .call { callee := .value (.func f), args := args, argTypes := ats }, type := ty, pos := p, after := af, guard := none } :: rest) F L := by
  refine XL.call (fst := []) (cap := []) (vs := vs) h rfl ha hd (List.Sublist.refl _) (fun w v w' => ∃ new, R v new ∧ (∀ x, x ∈ new → x.p w' (Btw w.heap.size w'.heap.size)) ∧ Below w.heap.size w w') (fun w S => ?_) (fun w v w' S hR hb S' => ?_)
  · have h1 := hF.call S (Below.refl _ _) hL hks (new := []) fun _ h => by cases h
    simp only [List.nil_append, List.append_nil] at h1 ⊢
    exact (hc w S h1.1 (hbl.trans S.toBelow)).mono fun e w' ⟨v, new, e1, e2, e3, e4⟩ => ⟨v, e1, ⟨new, e2, e3, e4⟩, e4⟩
  · obtain ⟨new, e2, e3, e4⟩ := hR
    have h1 := hF.call S hb hL hks e3
    exact k w' v new e2 h1.1 (hbl.trans S'.toBelow) h1.2
theorem XE.leafW {N : Nat} {ds : List Deferred} {F : Fr} {σ : Type} {G0 : Fr} {G : σ → Fr} {M : σ → Lo} {W : σ → World} {pre : σ → Prop} (h : ∀ w, Sys B w0 L w → ∃ s, pre s ∧ Sub (G s ++ G0) F ∧ Sys B (W s) (M s) w) :
    XE N B w0 ds (cutQ N B ds Q G0 G M W pre) .normal F L := ⟨fun a w hf hs => by
  obtain ⟨s, hp, hG, hS⟩ := h w hs
  exact ⟨s, hp, hG.fits hf, hS⟩⟩
end
theorem Held.lt {x : Held} {w : World} {b0 : Nat} (h : x.p w (Btw b0 w.heap.size)) : x.p w (Lt w.heap.size) := x.mono h fun k hk => hk.2
end Go.Proofs.YtmpaiphakjogjaaGreat.X
namespace Go.Proofs.YtmpaiphakjogjaaGreat.X
open Go Go.RowKit
section
variable {W W' w w0 w1 w2 : World} {b0 B : Nat} {ks ks' : List Nat} {rs : List RowX} {hs hs' : List Held} {L : Lo}
theorem Fam.pushL {α : Type} {K : Kind α} {v v' : Value} {l l2 : List α} {i : Nat} (h : Fam W b0 ks rs hs) (hi : rs[i]? = some ⟨α, K, v, l⟩) (ha : ∀ a, a ∈ l2 → ∀ x, x ∈ K.sl a → x.p W (Free W b0 ks rs)) (hrow : W'.ownsRow b0 K.ty K.m v' (l.length + l2.length) (l.flatMap K.c ++ l2.flatMap K.c))
    (hsz : W.heap.size ≤ W'.heap.size) (ho : ∀ j, j < W.heap.size → j ∉ ks → v.ownBlock ≠ some j → W'.heap[j]? = W.heap[j]?) (hfr : ∀ k, v'.ownBlock = some k → v.ownBlock = some k ∨ (W.heap.size ≤ k ∧ k ∉ ks)) :
    Fam W' b0 ks (rs.set i ⟨α, K, v', l ++ l2⟩) hs := by
  have hm : ∀ r, r ∈ rs.set i ⟨α, K, v', l ++ l2⟩ → r = ⟨α, K, v', l ++ l2⟩ ∨ (r ∈ rs ∧ ∀ k, r.v.ownBlock = some k → v.ownBlock ≠ some k) := fun r hr => by
    obtain ⟨j, hj, rfl⟩ := List.mem_iff_getElem.1 hr
    by_cases hij : i = j
    · subst hij; left; simp
    · right
      rw [List.getElem_set_ne hij]
      simp at hj
      refine ⟨List.getElem_mem _, fun k hk h2 => ?_⟩
      obtain ⟨hil, hie⟩ := List.getElem?_eq_some_iff.1 hi
      have hp := List.pairwise_iff_getElem.1 h.two
      rcases Nat.lt_or_gt_of_ne hij with h3 | h3
      · have := hp i j hil hj h3 k (by rw [hie]; exact h2)
        exact this hk
      · have := hp j i hj hil h3 k hk
        rw [hie] at this
        exact this h2
  have hri : (⟨α, K, v, l⟩ : RowX) ∈ rs := List.mem_of_getElem? hi
  have hf : ∀ j, Free W b0 ks rs j → Free W' b0 ks (rs.set i ⟨α, K, v', l ++ l2⟩) j := fun j hj => ⟨hj.1, by have := hj.2.1; omega, hj.2.2.1, fun r hr h1 => by
    rcases hm r hr with rfl | ⟨h2, _⟩
    · rcases hfr j h1 with h3 | h3
      · exact hj.2.2.2 _ hri h3
      · have := hj.2.1; omega
    · exact hj.2.2.2 r h2 h1⟩
  have hk : ∀ j, Free W b0 ks rs j → W'.heap[j]? = W.heap[j]? := fun j hj => ho j hj.2.1 hj.2.2.1 fun h1 => hj.2.2.2 _ hri h1
  refine ⟨Nat.le_trans h.base hsz, fun r hr => ?_, fun r hr k h1 => ?_, ?_, fun r hr b hb x hx => ?_, fun x hx => x.mono (x.keep (h.held x hx) hk) hf⟩
  · rcases hm r hr with rfl | ⟨h2, h3⟩
    · simpa using hrow
    · exact owns_move' (h.row r h2) fun k h4 => ho k (h.lt h2 h4).2 (h.sep r h2 k h4) (h3 k h4)
  · rcases hm r hr with rfl | ⟨h2, h3⟩
    · rcases hfr k h1 with h4 | h4
      · exact h.sep _ hri k h4
      · exact h4.2
    · exact h.sep r h2 k h1
  · rw [List.pairwise_iff_getElem]
    have hp := List.pairwise_iff_getElem.1 h.two
    obtain ⟨hil, hie⟩ := List.getElem?_eq_some_iff.1 hi
    intro p q hpl hql hpq k hk1 hk2
    simp at hpl hql
    by_cases h1 : i = p
    · subst h1
      have h2 : i ≠ q := by omega
      rw [List.getElem_set_ne h2] at hk2
      simp at hk1
      rcases hfr k hk1 with h4 | h4
      · exact hp i q hpl hql hpq k (by rw [hie]; exact h4) hk2
      · have := (h.lt (List.getElem_mem hql) hk2).2; omega
    · by_cases h2 : i = q
      · subst h2
        rw [List.getElem_set_ne h1] at hk1
        simp at hk2
        rcases hfr k hk2 with h4 | h4
        · have := hp p i hpl hql hpq k hk1
          rw [hie] at this
          exact this h4
        · have := (h.lt (List.getElem_mem hpl) hk1).2; omega
      · rw [List.getElem_set_ne h1] at hk1
        rw [List.getElem_set_ne h2] at hk2
        exact hp p q hpl hql hpq k hk1 hk2
  · rcases hm r hr with rfl | ⟨h2, h3⟩
    · rcases List.mem_append.1 hb with h4 | h4
      · exact x.mono (x.keep (h.ins _ hri b h4 x hx) hk) hf
      · exact x.mono (x.keep (ha b h4 x hx) hk) hf
    · exact x.mono (x.keep (h.ins r h2 b hb x hx) hk) hf
theorem svV_inj {r q : SV} (h : svV r = svV q) : r = q := by
  obtain ⟨a, b, c⟩ := r
  obtain ⟨a', b', c'⟩ := q
  simp only [svV, Value.slice.injEq] at h
  obtain ⟨rfl, rfl, rfl⟩ := h
  rfl
theorem Fam.listOf {α : Type} {K : Kind α} {r : SV} {l : List α} (h : Fam W b0 ks rs hs) (hr : (⟨α, K, svV r, l⟩ : RowX) ∈ rs) : ListAt K W (Btw b0 W.heap.size) r l := by
  obtain ⟨q, e, h1⟩ := h.list hr
  rw [svV_inj e]
  exact h1
theorem Fam.fresh {α : Type} {K : Kind α} {v : Value} {l : List α} (h : Fam W b0 ks rs hs) (hsz : W.heap.size ≤ W'.heap.size) (ho : ∀ j, j < W.heap.size → j ∉ ks → W'.heap[j]? = W.heap[j]?) (hrow : W'.ownsRow b0 K.ty K.m v l.length (l.flatMap K.c))
    (hv : ∀ k, v.ownBlock = some k → W.heap.size ≤ k ∧ k ∉ ks) (ha : ∀ a, a ∈ l → ∀ x, x ∈ K.sl a → x.p W (Free W b0 ks rs)) : Fam W' b0 ks (⟨α, K, v, l⟩ :: rs) hs := by
  have h1 := h.move hsz ho
  have hf : ∀ j, Free W b0 ks rs j → Free W' b0 ks (⟨α, K, v, l⟩ :: rs) j := fun j hj => ⟨hj.1, by have := hj.2.1; omega, hj.2.2.1, fun r hr h2 => by
    rcases List.mem_cons.1 hr with rfl | hr
    · have := (hv j h2).1; have := hj.2.1; omega
    · exact hj.2.2.2 r hr h2⟩
  have hk : ∀ j, Free W b0 ks rs j → W'.heap[j]? = W.heap[j]? := fun j hj => ho j hj.2.1 hj.2.2.1
  refine ⟨h1.base, fun r hr => ?_, fun r hr k h2 => ?_, .cons (fun r hr k h2 h3 => ?_) h.two, fun r hr a hb x hx => ?_, fun x hx => x.mono (x.keep (h.held x hx) hk) hf⟩
  · rcases List.mem_cons.1 hr with rfl | hr
    · exact hrow
    · exact h1.row r hr
  · rcases List.mem_cons.1 hr with rfl | hr
    · exact (hv k h2).2
    · exact h.sep r hr k h2
  · have := (hv k h2).1; have := (h.lt hr h3).2; omega
  · rcases List.mem_cons.1 hr with rfl | hr
    · exact x.mono (x.keep (ha a hb x hx) hk) hf
    · exact x.mono (x.keep (h.ins r hr a hb x hx) hk) hf
end
section
variable {P : Program} {T : TT} {N : Nat} {B : Nat} {w0 : World} {ds : List Deferred} {Q : Exit → Act → World → Prop} {F : Fr} {L : Lo} {pu : Prop} {ops : Array Oper} {rest : List Oper} {ty : TypeId} {p : String} {af : Array Edge}
variable {dst : Option Tmp} {gd : Option (Nat × Bool)}
theorem append_none_run {w : World} {base t e size bytes n c : Nat} {v : Value} {xs : List Value} (he : elemOk P t e size bytes = true) (hown : w.ownsRow base e size v n xs) : (Builtin.append_ #[t, t] ty #[v, .slice none 0 c]).run P w = .ok v w := by
  obtain ⟨hu, i, z, hi, hz, e1, e2, e3⟩ := elemOk_spec he
  rcases hown.2 with ⟨rfl, rfl⟩ | ⟨g, cap, cur, rfl, hb, hg, hc, hm, h⟩
  · simp [Builtin.append_, run_underlying hu, sizeOf_run hi, Builtin.lenOf, Builtin.firstCells]
  · have : ¬ cap < n := by omega
    simp [Builtin.append_, run_underlying hu, sizeOf_run hi, Builtin.lenOf, Builtin.firstCells, storeCells, hc, this]
theorem XL.pushL {α : Type} {K : Kind α} {d : Nat} {t : TypeId} {x y : Operand} {v : Value} {l l2 : List α} {r2 : SV} {bytes b0 : Nat} {ks : List Nat} {rs : List RowX} {hs : List Held} {wE : World} (i : Nat) (he : elemOk P t K.ty K.m bytes = true) (h0 : 0 < K.m)
    (hx : evo F x = some v) (hy : evo F y = some (.slice r2.A r2.n r2.c)) (hd : Nat.blt d N = true) (hF : Fam w0 b0 ks rs hs) (hi : rs[i]? = some ⟨α, K, v, l⟩) (hks : ∀ k, k ∈ ks → k < w0.heap.size) (hbl : Below B wE w0) (hB : B ≤ b0)
    (hr : ∀ w, Sys B w0 L w → ListAt K w (Lt w.heap.size) r2 l2) (ha : ∀ a, a ∈ l2 → ∀ x, x ∈ K.sl a → x.p w0 (Free w0 b0 ks rs)) (h1 : ∀ a : α, (K.c a).all Value.oneCell' = true) (h63 : l.length + l2.length ≤ 10000000) (hb : bytes ≤ 10000000)
    (k : ∀ w' v', Fam w' b0 (L.map (·.1) ++ ks) (rs.set i ⟨α, K, v', l ++ l2⟩) hs → Below B wE w' → (∀ k, k ∈ L.map (·.1) ++ ks → k < w'.heap.size) → XL P N B w' ds Q ops rest ((d, v') :: F) L)
    (hL : ∀ e, e ∈ L → e.1 ∈ ks ∨ w0.heap.size ≤ e.1 := by (intro e he; repeat (first | (cases he; done) | (rcases List.mem_cons.1 he with rfl | he; · first | (right; assumption) | (left; simp <;> fail)))) <;> fail) :
    XL P N B w0 ds Q ops ({ dst := some d, op := .call { callee := .builtin .append, args := #[x, y], argTypes := #[t, t] }, type := ty, pos := p, after := af, guard := none } :: rest) F L := by
  obtain ⟨A, m, c⟩ := r2
  have hri : (⟨α, K, v, l⟩ : RowX) ∈ rs := List.mem_of_getElem? hi
  have hk2 : ∀ k, k ∈ L.map (·.1) ++ ks → k ∈ ks ∨ w0.heap.size ≤ k := fun k hk => by
    rcases List.mem_append.1 hk with h | h
    · obtain ⟨e, he, rfl⟩ := List.mem_map.1 h
      exact hL e he
    · exact .inl h
  have hk3 : ∀ w, Sys B w0 L w → ∀ k, k ∈ L.map (·.1) ++ ks → k < w.heap.size := fun w S k hk => by
    rcases List.mem_append.1 hk with h | h
    · obtain ⟨e, he, rfl⟩ := List.mem_map.1 h
      exact S.lt he
    · exact Nat.lt_of_lt_of_le (hks k h) S.size
  have hsepL : ∀ k, v.ownBlock = some k → ∀ e, e ∈ L → e.1 ≠ k := fun k hk e he e1 => by
    rcases hL e he with h | h
    · exact hF.sep _ hri k hk (e1 ▸ h)
    · have := (hF.lt hri hk).2; omega
  cases A with
  | none =>
    refine ⟨fun a w hf S => ?_⟩
    refine wpList_plain rfl fun Kk hK => ?_
    unfold Oper.wp
    have hl := hr w S
    have hm := hl.len h0
    simp only at hm
    have hm0 : m = 0 := by
      rcases Nat.eq_zero_or_pos m with h | h
      · exact h
      · obtain ⟨ad, e, _⟩ := hl.rd.at_ (by simpa using h)
        cases e
    subst hm0
    have hl2 : l2 = [] := List.length_eq_zero_iff.1 hm.symm
    subst hl2
    have hrun := append_none_run (ty := ty) (c := c) he (owns_sys (hF.row _ hri) S hsepL)
    have : (execOp a.eval { dst := some d, op := .call { callee := .builtin .append, args := #[x, y], argTypes := #[t, t] }, type := ty, pos := p, after := af, guard := none }).run P w = .ok (.value v) w := by
      have hm : (#[x, y] : Array Operand).map a.eval = #[v, .slice none 0 c] := by simp [hf.eval hx, hf.eval hy]
      simp only [execOp, resolve, Sem.run_bind, Sem.run_pure, Result.andThen_ok, invoke, builtin, hm, hrun]
    rw [this]
    refine hK _ _ ((k w v ?_ (hbl.trans S.toBelow) (hk3 w S)).run _ _ (hf.put hd) (S.rebase (List.Sublist.refl _)))
    have h2 := (hF.add (ks' := L.map (·.1) ++ ks) hk2).sys S fun e he => .inl (List.mem_append_left _ (List.mem_map.2 ⟨e, he, rfl⟩))
    obtain ⟨hil, hie⟩ := List.getElem?_eq_some_iff.1 hi
    have h3 : rs.set i ⟨α, K, v, l ++ []⟩ = rs := by
      rw [List.append_nil, ← hie]
      exact List.set_getElem_self hil
    rw [h3]
    exact h2
  | some A =>
    by_cases hex : ∃ w, Sys B w0 L w
    · obtain ⟨wx, Sx⟩ := hex
      have hm := (hr wx Sx).len h0
      simp only at hm
      subst hm
      refine XL.append2 (v := v) (m := l2.length) (n := l.length) (size := K.m) (bytes := bytes) (base := b0) (A := A) (xs := l.flatMap K.c) (news := l2.flatMap K.c) (L' := L) he h0 hx hy hd (hF.row _ hri) hsepL (by rw [flat_len K.c K.m K.len])
        (fun w S j u hj => ?_) ?_ (by unfold maxLen; omega) (Nat.le_trans (Nat.mul_le_mul h63 hb) (by decide)) hF.base (List.Sublist.refl _) (fun w v' w' S ho hg _ hfr => ?_)
      · have h2 := hr w S
        have hjl := (List.getElem?_eq_some_iff.1 hj).1
        rw [flat_len K.c K.m K.len] at hjl
        have hpos : 0 < l2.length := by
          rcases Nat.eq_zero_or_pos l2.length with h | h
          · rw [h] at hjl; omega
          · exact h
        obtain ⟨ad, e, _, h3⟩ := h2.rd.at_ hpos
        cases e
        exact h3 j u hj
      · rw [List.all_eq_true]
        intro u hu
        obtain ⟨a, ha', hu'⟩ := List.mem_flatMap.1 hu
        exact List.all_eq_true.1 (h1 a) u hu'
      · have hsz := hg.size
        have hS := S.size
        refine k w' v' ?_ (hbl.trans (grown_below S hg fun k hk => Nat.le_trans hB (hF.lt hri hk).1)) fun q hq => Nat.lt_of_lt_of_le (hk3 w S q hq) hsz
        have hfa : ∀ j, Free w0 b0 ks rs j → Free w0 b0 (L.map (·.1) ++ ks) rs j := fun j hj => ⟨hj.1, hj.2.1, fun h => by
          rcases hk2 j h with h4 | h4
          · exact hj.2.2.1 h4
          · have := hj.2.1; omega, hj.2.2.2⟩
        refine (hF.add (ks' := L.map (·.1) ++ ks) hk2).pushL hi (fun a h4 x hx => x.mono (ha a h4 x hx) hfa) ho (Nat.le_trans hS hsz) (fun j hj hn hv => ?_) (fun k hk => ?_)
        · exact grown_old S hg hj (fun e he e1 => hn (List.mem_append_left _ (List.mem_map.2 ⟨e, he, e1⟩))) fun e1 => hv e1.symm
        · rcases hfr k hk with h | h
          · exact .inl h
          · exact .inr ⟨Nat.le_trans hS h, fun h2 => by have := hk3 w S k h2; omega⟩
    · exact ⟨fun a w hf S => absurd ⟨w, S⟩ hex⟩
theorem XL.weak1 {t : Nat} {u : Value} (h : XL P N B w0 ds Q ops rest F L) : XL P N B w0 ds Q ops rest ((1000000 + t, u) :: F) L :=
  ⟨fun a w hf hs => h.run a w ⟨hf.size, hf.defers, fun t' v ht hv => hf.get t' v ht (by
    unfold lk
    have : Nat.beq (1000000 + t) t' = false := by
      cases hb : Nat.beq (1000000 + t) t' with
      | false => rfl
      | true => have := Nat.eq_of_beq_eq_true hb; omega
    rw [this]
    exact hv)⟩ hs⟩
theorem XL.newRow (hT : TOK P T) {α : Type} {K : Kind α} {l : List α} {d : Nat} {t e : TypeId} {n size b0 : Nat} {ps : List (Nat × Operand)} {z : Value} {zs cs : List Value} {ks : List Nat} {rs : List RowX} {hs : List Held} {wE : World}
    (hs' : lkG T.sl t = some (e, size)) (hz : lkG T.zero e = some z) (hzs : cellsO z = some zs) (hsz : Nat.beq zs.length size = true) (h0 : Nat.blt 0 size = true) (hbig : Nat.ble (n * size) 16777216 = true) {zl : List Value} (hzl : zerosO zs n = some zl) (hc : fillS F size zl ps = some cs) (hd : Nat.blt d N = true)
    (hK : K.ty = e ∧ K.m = size) (hcs : cs = l.flatMap K.c) (hn : l.length = n) (hF : Fam w0 b0 ks rs hs) (hks : ∀ k, k ∈ ks → k < w0.heap.size) (hbl : Below B wE w0) (hb0 : b0 ≤ w0.heap.size) (ha : ∀ a, a ∈ l → ∀ x, x ∈ K.sl a → x.p w0 (Free w0 b0 ks rs))
    (k : ∀ w' g, Fam w' b0 (L.map (·.1) ++ ks) (⟨α, K, .slice (some ⟨g, 0, none⟩) n n, l⟩ :: rs) hs → Below B wE w' → (∀ k, k ∈ L.map (·.1) ++ ks → k < w'.heap.size) → XL P N B w' ds Q ops rest ((d, .slice (some ⟨g, 0, none⟩) n n) :: F) L)
    (hL : ∀ e, e ∈ L → e.1 ∈ ks ∨ w0.heap.size ≤ e.1 := by (intro e he; repeat (first | (cases he; done) | (rcases List.mem_cons.1 he with rfl | he; · first | (right; assumption) | (left; simp <;> fail)))) <;> fail) :
    XL P N B w0 ds Q ops ({ dst := some d, op := .buildSlice t n ps.toArray, type := ty, pos := p, after := af, guard := none } :: rest) F L := by
  refine XL.buildSlice hT hs' hz hzs hsz h0 hbig hzl hc hd fun g hg => ?_
  refine XL.rebase (List.sublist_cons_self _ _) fun w1 S => ?_
  have hk2 : ∀ k, k ∈ L.map (·.1) ++ ks → k ∈ ks ∨ w0.heap.size ≤ k := fun k hk => by
    rcases List.mem_append.1 hk with h | h
    · obtain ⟨e, he, rfl⟩ := List.mem_map.1 h
      exact hL e he
    · exact .inl h
  have hk3 : ∀ k, k ∈ L.map (·.1) ++ ks → k < w1.heap.size := fun k hk => by
    rcases List.mem_append.1 hk with h | h
    · obtain ⟨e, he, rfl⟩ := List.mem_map.1 h
      exact S.lt (List.mem_cons_of_mem _ he)
    · exact Nat.lt_of_lt_of_le (hks k h) S.size
  have hgL : g ∉ L.map (·.1) := by have := S.nd; simp only [List.map_cons, List.nodup_cons] at this; exact this.1
  have hfa : ∀ j, Free w0 b0 ks rs j → Free w0 b0 (L.map (·.1) ++ ks) rs j := fun j hj => ⟨hj.1, hj.2.1, fun h => by
    rcases hk2 j h with h4 | h4
    · exact hj.2.2.1 h4
    · have := hj.2.1; omega, hj.2.2.2⟩
  obtain ⟨hK1, hK2⟩ := hK
  have hrow : w1.ownsRow b0 K.ty K.m (.slice (some ⟨g, 0, none⟩) n n) l.length (l.flatMap K.c) := by
    have h5 := (S.own (g, _) List.mem_cons_self).2
    have h6 : (l.flatMap K.c).length = n * K.m := by rw [flat_len K.c K.m K.len, hn]
    have hsz' : 0 < K.m := by rw [hK2]; exact Nat.le_of_ble_eq_true h0
    have hbig' : n * K.m ≤ 16777216 := by rw [hK2]; exact Nat.le_of_ble_eq_true hbig
    have hnm : n ≤ n * K.m := Nat.le_mul_of_pos_right n hsz'
    refine ⟨by rw [h6, hn], .inr ⟨g, n, ⟨l.flatMap K.c⟩, by rw [hn], Nat.le_trans hb0 hg, ?_, by omega, by unfold maxLen; omega, by simpa using h6, ?_⟩⟩
    · rw [hK1, ← hcs]; exact h5
    · rw [hn, ← h6]
      simp only [List.take_length]
  refine XL.weak1 (k w1 g ((hF.add (ks' := L.map (·.1) ++ ks) hk2).fresh S.size (fun j hj hn' => ?_) hrow (fun q hq => ?_) fun a h4 x hx => x.mono (ha a h4 x hx) hfa) (hbl.trans S.toBelow) hk3)
  · exact S.old j hj fun e he e1 => by
      rcases List.mem_cons.1 he with rfl | he
      · simp only at e1; omega
      · exact hn' (List.mem_append_left _ (List.mem_map.2 ⟨e, he, e1⟩))
  · simp only [Value.ownBlock, Option.some.injEq] at hq
    subst hq
    refine ⟨hg, fun h7 => ?_⟩
    rcases List.mem_append.1 h7 with h8 | h8
    · exact hgL h8
    · have := hks _ h8; omega
theorem XL.makeInts {d : Nat} {t e : TypeId} {x y : Operand} {n : Nat} (he : elemOk P t e 1 8 = true) (hz : (P.info? e).bind (·.zero) = some (.int .i64 0)) (hx : evo F x = some (.int .i64 (n : Nat))) (hy : evo F y = some (.int .i64 (n : Nat))) (hd : Nat.blt d N = true) (hn : n ≤ 1000000)
    (k : ∀ g, w0.heap.size ≤ g → XL P N B w0 ds Q ops rest ((1000000 + d, .slice none L.length 0) :: (d, .slice (some ⟨g, 0, none⟩) n n) :: F) ((g, cel e (ints (List.replicate n 0))) :: L)) :
    XL P N B w0 ds Q ops ({ dst := some d, op := .makeSlice t x y, type := ty, pos := p, after := af, guard := none } :: rest) F L := by
  refine ⟨fun a w hf hw => ?_⟩
  refine wpList_plain rfl fun Kk hK => ?_
  unfold Oper.wp
  obtain ⟨hu, i, z, hi, hz', e1, e2, e3⟩ := elemOk_spec he
  rw [hi] at hz
  simp only [Option.bind_some] at hz
  have hz2 : z = .int .i64 0 := by rw [hz'] at hz; exact Option.some.inj hz
  subst hz2
  have hrun := run_makeSlice (P := P) w t e i (.int .i64 0) hu hi hz' .i64 .i64 (n : Int) (n : Int) (by omega) (Int.le_refl _) (by rw [e1]; simp; omega) (by rw [e2]; omega) (by omega)
  have hmc : madeCells (Value.int .i64 0).cells ((n : Int).toNat * i.size) = ⟨ints (List.replicate n 0)⟩ := by
    rw [e1]
    apply Array.ext
    · simp [madeCells, ints]
    · intro j h1 h2
      simp [madeCells, ints, Value.cells]
      rw [show j % 1 = 0 from by omega]
      rfl
  rw [hmc] at hrun
  simp only [Int.toNat_natCast] at hrun
  have : (execOp a.eval { dst := some d, op := .makeSlice t x y, type := ty, pos := p, after := af, guard := none }).run P w = .ok (.value (.slice (some ⟨w.heap.size, 0, none⟩) n n)) (w.alloc (cel e (ints (List.replicate n 0)))) := by
    simp [execOp, hf.eval hx, hf.eval hy, hrun]
  rw [this]
  exact hK _ _ ((k w.heap.size hw.size).run _ _ ((hf.put hd).hint d _) (hw.box _))
end
end Go.Proofs.YtmpaiphakjogjaaGreat.X
namespace Go.Proofs.YtmpaiphakjogjaaGreat.X
open Go Go.RowKit
section
variable {P : Program} {N : Nat} {B : Nat} {wS w0 : World} {ds : List Deferred} {Q : Exit → Act → World → Prop} {F : Fr} {L Ls : Lo} {ops : Array Oper} {rem rem' : List (Nat × Oper)}
def reckOp (o : Oper) : Bool := match o.guard with
  | some _ => false
  | none => match o.op with
    | .move _ | .assign _ | .extract .. | .makeInterface .. | .build .. | .fieldAddr .. | .indexAddr .. | .binOp .. | .convert .. => true
    | .call c => match c.callee with
      | .builtin .min => true
      | .builtin .max => true
      | _ => false
    | _ => false
def firstR (rem : List (Nat × Oper)) : List (Nat × Oper) → Option (Nat × Oper × List (Nat × Oper))
  | [] => none
  | (i, o) :: r => match reckOp o with
    | true => match readyB rem o with
      | true => match dropO rem i with
        | some rem' => some (i, o, rem')
        | none => none
      | false => firstR rem r
    | false => firstR rem r
theorem firstR_spec : ∀ {l : List (Nat × Oper)} {i : Nat} {o : Oper}, firstR rem l = some (i, o, rem') → (i, o) ∈ l ∧ readyB rem o = true ∧ dropO rem i = some rem' := by
  intro l
  induction l with
  | nil => intro i o h; cases h
  | cons e r ih =>
    intro i o h
    obtain ⟨j, p⟩ := e
    simp only [firstR] at h
    split at h
    · split at h
      · rename_i hr
        split at h
        · rename_i r2 hd
          simp only [Option.some.injEq, Prod.mk.injEq] at h
          obtain ⟨rfl, rfl, rfl⟩ := h
          exact ⟨List.mem_cons_self, hr, hd⟩
        · cases h
      · obtain ⟨h1, h2⟩ := ih h; exact ⟨List.mem_cons_of_mem _ h1, h2⟩
    · obtain ⟨h1, h2⟩ := ih h; exact ⟨List.mem_cons_of_mem _ h1, h2⟩
theorem XR.take2 {i : Nat} {o : Oper} (h1 : firstR rem rem = some (i, o, rem')) (hl : loneB ops rem i o = true) (h : Fw P N B wS ds False (fun F' => XR P N B wS w0 ds Q Ls ops rem' F' L) ops Ls [o] F) :
    XR P N B wS w0 ds Q Ls ops rem F L := by
  obtain ⟨hm, hr, hd⟩ := firstR_spec h1
  unfold loneB at hl
  simp only [Bool.and_eq_true] at hl
  obtain ⟨⟨hsel, hein⟩, hap⟩ := hl
  obtain ⟨v, hok, F', hal, hk⟩ := h.run
  refine ⟨fun D fuel a w hD hlen hf hs hS => ?_⟩
  have hrd : i ∈ Region.ready .any ops D := hD.mem_ready hm hr fun e he hb => by
    unfold edgesIn at hein
    have := List.all_eq_true.1 hein _ hm
    have := List.all_eq_true.1 this e (by simpa using he)
    simp only [hb, Bool.not_true, Bool.false_or] at this
    exact Nat.le_of_ble_eq_true this
  obtain ⟨n, rfl, hn⟩ := ready_count hrd hlen
  have hD' := hD.set hm hd
  refine wpAnyH_first (hD.at_ _ hm) (Region.noSelect_spec hsel) (fun c a w q => q.elim) n D a w (fun j oj hj hne hun hno => ?_) hrd (hok.yieldsIf hf) hS ?_
  · have hjs : j < ops.size := (Array.getElem?_eq_some_iff.1 hj).1
    have hon : on D j = false := by
      unfold on
      have hlt' : j < D.size := by rw [hD.size]; exact hjs
      rw [Array.getD_eq_getD_getElem?, Array.getElem?_eq_getElem hlt'] at hun ⊢
      exact hun
    obtain ⟨o', ho'⟩ := inRem_iff.1 ((hD.left j hjs).1 hon)
    have := hD.at_ _ ho'
    rw [hj] at this
    obtain rfl := Option.some.inj this
    have h2 := List.all_eq_true.1 hap _ ho'
    simp only [Bool.or_eq_true] at h2
    rcases h2 with (h2 | h2) | h2
    · exact absurd (Nat.eq_of_beq_eq_true h2) hne
    · obtain ⟨e, he, hb⟩ := Array.any_eq_true'.1 h2
      simp only [Bool.and_eq_true, beq_iff_eq] at hb
      exact absurd hb.2 (hno e he hb.1)
    · exact h2
  · exact hk.run _ n _ w hD' hn (hal.fits (hf.putF hok.1)) hs hS
theorem YO {i : Nat} {o : Oper} (h1 : firstR rem rem = some (i, o, rem') := by first | exact rfl | fail) (hl : loneB ops rem i o = true := by first | kernel_rfl | fail) : Step (Fw P N B wS ds False (fun F' => XR P N B wS w0 ds Q Ls ops rem' F' L) ops Ls [o] F) (XR P N B wS w0 ds Q Ls ops rem F L) := ⟨XR.take2 h1 hl⟩
theorem SRJ {q : Prop} (k : q) (st : Step q (XR P N B wS w0 ds Q Ls ops rem F L) := by first | exact YJ | exact YK | exact YO | exact YL | fail) : XR P N B wS w0 ds Q Ls ops rem F L := st.run k
end
end Go.Proofs.YtmpaiphakjogjaaGreat.X
namespace Go.Proofs.YtmpaiphakjogjaaGreat.X
open Go
section
variable {P : Program} {T : TT} {N : Nat} {B : Nat} {w0 : World} {ds : List Deferred} {Q : Exit → Act → World → Prop} {F : Fr} {L : Lo} {pu : Prop} {ops : Array Oper} {rest : List Oper}
variable {dst : Option Tmp} {ty : TypeId} {p : String} {af : Array Edge} {gd : Option (Nat × Bool)}
theorem eqGuard_bool {op : BinOp} {t : TypeId} {x y : Operand} {a b : Bool} (w : World) : (eqGuard op t x y (.bool a) (.bool b)).run P w = .ok () w := by
  unfold eqGuard
  cases op <;> simp
theorem Ev.eqlB {x y : Operand} {t u : TypeId} {a b : Bool} (ht : P.underlying t = some .bool) (hx : evo F x = some (.bool a)) (hy : evo F y = some (.bool b)) :
    Ev P N B w0 ds pu F L ⟨dst, .binOp .eql t x y u, ty, p, af, gd⟩ (.bool (a == b)) :=
  .of_run fun c w hf hw => by
    have h1 := run_equal_bool (P := P) w t a b ht
    simp [execOp, hf.eval hx, hf.eval hy, Sem.run_bind, eqGuard_bool, binOp, h1] <;> (cases a <;> cases b <;> rfl)
theorem Ev.assertOk {x : Operand} {t u : TypeId} {s : Nat} {v z : Value} (hx : evo F x = some (.iface s v)) (hu : conB (P.underlying u) = true) (hT : TOK P T) (hz : lkG T.zero u = some z) (r : Value) (hr : r = if s = u then .tuple ⟨[v, .bool true]⟩ else .tuple ⟨[z, .bool false]⟩) :
    Ev P N B w0 ds pu F L ⟨dst, .typeAssert x t u true, ty, p, af, gd⟩ r :=
  .of_run fun c w hf hw => by
    subst hr
    have hzr := zero_run hT hz w
    cases h : P.underlying u with
    | none => rw [h] at hu; cases hu
    | some d =>
      rw [h] at hu
      by_cases e : s = u
      · subst e
        cases d <;> first | (simp [execOp, Instr.typeAssert, hf.eval hx, run_underlying h]; done) | cases hu
      · cases d <;> first | (simp [execOp, Instr.typeAssert, hf.eval hx, run_underlying h, e, hzr]; done) | cases hu
def bools (l : List Bool) : List Value := l.map .bool
end
end Go.Proofs.YtmpaiphakjogjaaGreat.X
namespace Go.Proofs.YtmpaiphakjogjaaGreat.X
open Go Go.RowKit
def idxL {α : Type} (l : List α) (P : α → Bool) : Int := match l.findIdx? P with
  | some i => ((i : Nat) : Int)
  | none => -1
theorem idxL_any {α : Type} (l : List α) (P : α → Bool) : decide (0 ≤ idxL l P) = l.any P := by
  unfold idxL
  cases h : l.findIdx? P with
  | none =>
    rw [List.findIdx?_eq_none_iff] at h
    have : l.any P = false := List.any_eq_false.2 fun x hx => by simp [h x hx]
    rw [this]; rfl
  | some i =>
    obtain ⟨hi, h1, _⟩ := List.findIdx?_eq_some_iff_getElem.1 h
    have : l.any P = true := List.any_eq_true.2 ⟨_, List.getElem_mem hi, h1⟩
    rw [this]
    simp
theorem Sys.keyLt {B : Nat} {w0 w : World} {L : Lo} (S : Sys B w0 L w) : ∀ j, j ∈ L.map (·.1) → j < w.heap.size := fun j hj => by
  obtain ⟨e, he, rfl⟩ := List.mem_map.1 hj
  exact S.lt he
theorem Sys.join {B : Nat} {w0 w w' : World} {L L2 L3 : Lo} (S : Sys B w0 L w) (S' : Sys w.heap.size w L2 w') (hs : List.Sublist L3 L) : Sys B w (L2 ++ L3) w' := by
  have hlt : ∀ e, e ∈ L3 → e.1 < w.heap.size := fun e he => S.lt (hs.subset he)
  refine ⟨S'.os, S'.tape, S'.output, S'.size, Nat.le_trans S.base S.size, fun k hk hn => S'.old k hk fun e he => hn e (List.mem_append_left _ he), fun e he => ?_, ?_⟩
  · rcases List.mem_append.1 he with h | h
    · exact ⟨Nat.le_trans (Nat.le_trans S.base S.size) (S'.own e h).1, (S'.own e h).2⟩
    · refine ⟨(S.own e (hs.subset h)).1, ?_⟩
      rw [S'.old e.1 (hlt e h) fun e' he' e1 => by have := (S'.own e' he').1; have := hlt e h; omega]
      exact (S.own e (hs.subset h)).2
  · rw [List.map_append]
    refine List.nodup_append.2 ⟨S'.nd, S.nd.sublist (hs.map _), fun x hx y hy e => ?_⟩
    obtain ⟨e1, he1, rfl⟩ := List.mem_map.1 hx
    obtain ⟨e2, he2, rfl⟩ := List.mem_map.1 hy
    have := (S'.own e1 he1).1
    have := hlt e2 he2
    omega
theorem Sys.ofBelow {w w1 : World} (h : Below w.heap.size w w1) : Sys w.heap.size w [] w1 := ⟨h.os, h.tape, h.output, h.size, Nat.le_refl _, fun k hk _ => h.block k hk, (fun e he => (by cases he)), List.nodup_nil⟩
theorem Free.far {W : World} {b0 : Nat} {ks : List Nat} {rs : List RowX} {L : Lo} {ad : Addr} {j : Nat} (h : Free W b0 ks rs ad.block) (hs : ∀ e, e ∈ L → e.1 ∈ ks ∨ W.heap.size ≤ e.1) : ∀ e, e ∈ L → e.1 ≠ (ad.add j).block := fun e he e1 => by
  rw [add_block] at e1
  rcases hs e he with h1 | h1
  · exact h.2.2.1 (e1 ▸ h1)
  · have := h.2.1; omega
theorem Free.tail {W : World} {b0 : Nat} {ks : List Nat} {x : RowX} {rs : List RowX} {j : Nat} (h : Free W b0 ks (x :: rs) j) : Free W b0 ks rs j := ⟨h.1, h.2.1, h.2.2.1, fun r hr => h.2.2.2 r (.tail _ hr)⟩
theorem Fam.freeze {W : World} {b0 : Nat} {ks : List Nat} {rs : List RowX} {hs : List Held} {α : Type} {K : Kind α} {r : SV} {l : List α} (h : Fam W b0 ks (⟨α, K, svV r, l⟩ :: rs) hs) : Fam W b0 ks rs (hList K r l :: hs) := by
  refine ⟨h.base, fun x hx => h.row x (.tail _ hx), fun x hx => h.sep x (.tail _ hx), (List.pairwise_cons.1 h.two).2, fun x hx a ha y hy => y.mono (h.ins x (.tail _ hx) a ha y hy) fun j hj => hj.tail, fun y hy => ?_⟩
  rcases List.mem_cons.1 hy with rfl | hy
  · obtain ⟨A, n, c⟩ := r
    have h1 := h.row _ (.head _)
    obtain ⟨a1, a2, a3, a4⟩ := ReadsP.own h1
    simp only at a2 a4
    subst a2
    refine ⟨⟨a1.1, fun h0 => ?_⟩, by simp only [maxLen] at a4; exact a4, fun a ha x hx => x.mono (h.ins _ (.head _) a ha x hx) fun j hj => hj.tail⟩
    obtain ⟨ad, rfl, hb, hc⟩ := a1.2 h0
    exact ⟨ad, rfl, ⟨hb.1, hb.2, h.sep _ (.head _) _ rfl, fun x hx e => (List.pairwise_cons.1 h.two).1 x hx _ rfl e⟩, hc⟩
  · exact y.mono (h.held y hy) fun j hj => hj.tail
theorem Fam.sv {W : World} {b0 : Nat} {ks : List Nat} {rs : List RowX} {hs : List Held} {α : Type} {K : Kind α} {v : Value} {l : List α} (h : Fam W b0 ks rs hs) (hr : (⟨α, K, v, l⟩ : RowX) ∈ rs) : ∃ r : SV, v = svV r ∧ r.n = l.length := owns_sv (h.row _ hr)
section
variable {α : Type} {C : α → List Value} {m : Nat} (hC : ∀ a, (C a).length = m)
include hC
theorem fget {l : List α} {k : Nat} {t : α} {j : Nat} (sp : List Value) (h : l[k]? = some t) (hj : j < m) : (l.flatMap C ++ sp)[k * m + j]? = (C t)[j]? := by
  have e := flat_at C m hC l k j t h hj
  have h1 := (List.getElem?_eq_some_iff.1 h).1
  have h2 : (k + 1) * m ≤ l.length * m := Nat.mul_le_mul_right m h1
  rw [← e, List.getElem?_append_left]
  rw [flat_len C m hC]
  rw [Nat.add_mul] at h2
  omega
end
section
variable {P : Program} {T : TT} {N B : Nat} {w0 : World} {ds : List Deferred} {Q : Exit → Act → World → Prop} {F : Fr} {L : Lo} {ops : Array Oper} {rest : List Oper} {ty : TypeId} {p : String} {af : Array Edge}
theorem Ev.load_at_agg {pu : Prop} {dst : Option Tmp} {gd : Option (Nat × Bool)} (hT : TOK P T) (i : Nat) {t : TypeId} {x : Operand} {g o j n : Nat} {tg : TypeId} {cs vs : List Value} (hx : evo F x = some (.pointer (some ((⟨g, o, none⟩ : Addr).add j)))) (hL : L[i]? = some (g, cel tg cs)) (h1 : lkG T.agg t = some n) (hlen : vs.length = n)
    (hv : ∀ k u, vs[k]? = some u → cs[o + j + k]? = some u) : Ev P N B w0 ds pu F L ⟨dst, .load t x, ty, p, af, gd⟩ (.agg vs.toArray) :=
  .of_run fun a w hf hw => by
    have hc : ∀ k u, vs[k]? = some u → w.cell? (((⟨g, o, none⟩ : Addr).add j).add k) = some u := fun k u hk => by
      rw [add_off, add_off, hw.cell (List.mem_of_getElem? hL)]
      exact hv k u hk
    simp [execOp, Instr.loadAt, Instr.sureAddr, hf.eval hx, run_loadVar_agg (tab_ok hT.agg h1) hlen hc]
theorem XC.grab {c : Code} {g : Nat} {o : Obj} (hg : w0.heap[g]? = some o) (hB : B ≤ g) (hn : ∀ e, e ∈ L → e.1 ≠ g) (k : ∀ w1, Sys B w0 L w1 → XC P N B w1 ds Q c F ((g, o) :: L)) : XC P N B w0 ds Q c F L :=
  ⟨fun a w hf h => (k w h).run a w hf (Sys.start (Nat.le_trans h.base h.size) (fun e he => by
    rcases List.mem_cons.1 he with rfl | he
    · exact ⟨hB, (h.old g (Array.getElem?_eq_some_iff.1 hg).1 hn).trans hg⟩
    · exact h.own e he) (by
    rw [List.map_cons, List.nodup_cons]
    exact ⟨fun hm => by obtain ⟨e, he, e1⟩ := List.mem_map.1 hm; exact hn e he e1, h.nd⟩))⟩
end
end Go.Proofs.YtmpaiphakjogjaaGreat.X
namespace Go.Proofs.YtmpaiphakjogjaaGreat.X
open Go Go.RowKit
theorem Fam.atEnd {w w0 : World} {B b0 : Nat} {ks : List Nat} {rs : List RowX} {hs : List Held} {L : Lo} (hF : Fam w0 b0 ks rs hs) (S : Sys B w0 L w) (hL : ∀ e, e ∈ L → e.1 ∈ ks ∨ w0.heap.size ≤ e.1) : Fam w b0 (L.map (·.1) ++ ks) rs hs :=
  (hF.add (fun k hk => by
    rcases List.mem_append.1 hk with h | h
    · obtain ⟨e, he, rfl⟩ := List.mem_map.1 h
      exact hL e he
    · exact .inl h)).sys S fun e he => .inl (List.mem_append_left _ (List.mem_map.2 ⟨e, he, rfl⟩))
theorem ReadsP.block {w : World} {g lo n size : Nat} {ty : TypeId} {cs : List Value} (h : w.heap[g]? = some (cel ty cs)) (hg : lo ≤ g) (hl : cs.length = n * size) : ReadsP w (Btw lo w.heap.size) size (some ⟨g, 0, none⟩) n cs :=
  ⟨hl, fun _ => ⟨_, rfl, ⟨hg, (Array.getElem?_eq_some_iff.1 h).1⟩, fun j u hj => by rw [add_off]; simpa [World.cell?, h] using hj⟩⟩
def entO (kvs : List (Value × Value)) : List MapEntry := kvs.zipIdx.map fun x => ({ key := x.1.1, val := x.1.2, born := x.2 } : MapEntry)
theorem entO_at {kvs : List (Value × Value)} {j : Nat} {e : MapEntry} (h : (entO kvs)[j]? = some e) : kvs[j]? = some (e.key, e.val) := by
  unfold entO at h
  rw [List.getElem?_map, List.getElem?_zipIdx] at h
  cases hk : kvs[j]? with
  | none => rw [hk] at h; cases h
  | some x => rw [hk] at h; simp only [Option.map_some, Option.some.injEq] at h; subst h; rfl
theorem entO_mem {kvs : List (Value × Value)} {e : MapEntry} (h : e ∈ entO kvs) : (e.key, e.val) ∈ kvs := by
  obtain ⟨j, hj, rfl⟩ := List.mem_iff_getElem.1 h
  exact List.mem_of_getElem? (entO_at (List.getElem?_eq_getElem hj))
theorem entO_of {kvs : List (Value × Value)} {x : Value × Value} (h : x ∈ kvs) : ∃ e, e ∈ entO kvs ∧ e.key = x.1 ∧ e.val = x.2 := by
  obtain ⟨j, hj, rfl⟩ := List.mem_iff_getElem.1 h
  refine ⟨{ key := kvs[j].1, val := kvs[j].2, born := j }, List.mem_of_getElem? (i := j) ?_, rfl, rfl⟩
  unfold entO
  rw [List.getElem?_map, List.getElem?_zipIdx, List.getElem?_eq_getElem hj]
  simp
structure KeysOk (P : Program) (kt : TypeId) (kvs : List (Value × Value)) : Prop where
  key : ∀ e, e ∈ kvs → ∃ l, keyOf P kt e.1 = some l
  one : ∀ a b c, (a, b) ∈ kvs → (a, c) ∈ kvs → b = c
theorem KeysOk.nil {P : Program} {kt : TypeId} : KeysOk P kt [] := ⟨fun _ h => (by cases h), fun _ _ _ h => (by cases h)⟩
theorem KeysOk.push {P : Program} {kt : TypeId} {kvs : List (Value × Value)} {k v : Value} (h : KeysOk P kt kvs) (hk : ∃ l, keyOf P kt k = some l) (hn : ∀ e, e ∈ kvs → e.1 ≠ k) : KeysOk P kt (kvs ++ [(k, v)]) := by
  refine ⟨fun e he => ?_, fun a b c h1 h2 => ?_⟩
  · rcases List.mem_append.1 he with h1 | h1
    · exact h.key e h1
    · rw [List.mem_singleton.1 h1]; exact hk
  · rcases List.mem_append.1 h1 with h1 | h1 <;> rcases List.mem_append.1 h2 with h2 | h2
    · exact h.one a b c h1 h2
    · rw [List.mem_singleton, Prod.mk.injEq] at h2; exact absurd h2.1 (hn _ h1)
    · rw [List.mem_singleton, Prod.mk.injEq] at h1; exact absurd h1.1 (hn _ h2)
    · rw [List.mem_singleton, Prod.mk.injEq] at h1 h2; rw [h1.2, h2.2]
def arrB (d : Option TypeDesc) : Option (Nat × TypeId) := match d with
  | some (.array n e) => some (n, e)
  | _ => none
section
variable {P : Program} {T : TT} {N : Nat} {B : Nat} {w0 : World} {ds : List Deferred} {Q : Exit → Act → World → Prop} {F : Fr} {L : Lo} {pu : Prop}
variable {dst : Option Tmp} {ty : TypeId} {p : String} {af : Array Edge} {gd : Option (Nat × Bool)}
theorem findK {kt : TypeId} (K : WideMaps.KeyLaw P kt) {kvs : List (Value × Value)} (hk : KeysOk P kt kvs) {k : Value} (h : ∃ l, keyOf P kt k = some l) (w : World) :
    ((Instr.findKey kt k (entO kvs)).run P w = .ok none w ∧ ∀ e, e ∈ kvs → e.1 ≠ k) ∨ ∃ j v, (Instr.findKey kt k (entO kvs)).run P w = .ok (some (j, v)) w ∧ (k, v) ∈ kvs := by
  obtain ⟨l, hl⟩ := h
  rcases K.find w hl (entO kvs) (fun e he => hk.key _ (entO_mem he)) with ⟨h1, h2⟩ | ⟨j, e, h1, h2, h3⟩
  · refine .inl ⟨h1, fun x hx => ?_⟩
    obtain ⟨e, he, e1, _⟩ := entO_of hx
    rw [← e1]
    exact h2 e he
  · refine .inr ⟨j, e.val, h1, ?_⟩
    rw [← h3]
    exact List.mem_of_getElem? (entO_at h2)
theorem Ev.lookupNo (hT : TOK P T) (i : Nat) {t kt et : TypeId} {x y : Operand} {z k : Value} (kvs : List (Value × Value)) {r : Nat} (K : WideMaps.KeyLaw P kt) (hx : evo F x = some (.map (some r))) (hy : evo F y = some k) (hL : L[i]? = some (r, mapO kvs))
    (ht : P.underlying t = some (.map kt et)) (hz : lkG T.zero et = some z) (hk : KeysOk P kt kvs) (h : ∃ l, keyOf P kt k = some l) (hn : ∀ e, e ∈ kvs → e.1 ≠ k) :
    Ev P N B w0 ds pu F L ⟨dst, .lookup t x y true, ty, p, af, gd⟩ (.tuple ⟨[z, .bool false]⟩) :=
  .of_run fun a w hf hw => by
    have h2 := getObj_run (P := P) (show w.heap[r]? = some (.map (entO kvs).toArray kvs.length) from hw.obj hL)
    obtain ⟨l, hl⟩ := h
    have hc := fun em => K.check w em hl
    rcases findK K hk ⟨l, hl⟩ w with ⟨h1, _⟩ | ⟨j, v, _, h3⟩
    · simp [execOp, hf.eval hx, hf.eval hy, Instr.lookup, run_underlying ht, h2, hc, h1, zero_run hT hz]
    · exact absurd rfl (hn _ h3)
theorem Ev.lookupYes (i : Nat) {t kt et : TypeId} {x y : Operand} {k v : Value} (kvs : List (Value × Value)) {r : Nat} (K : WideMaps.KeyLaw P kt) (hx : evo F x = some (.map (some r))) (hy : evo F y = some k) (hL : L[i]? = some (r, mapO kvs))
    (ht : P.underlying t = some (.map kt et)) (hk : KeysOk P kt kvs) (h : ∃ l, keyOf P kt k = some l) (hv : (k, v) ∈ kvs) :
    Ev P N B w0 ds pu F L ⟨dst, .lookup t x y true, ty, p, af, gd⟩ (.tuple ⟨[v, .bool true]⟩) :=
  .of_run fun a w hf hw => by
    have h2 := getObj_run (P := P) (show w.heap[r]? = some (.map (entO kvs).toArray kvs.length) from hw.obj hL)
    obtain ⟨l, hl⟩ := h
    have hc := fun em => K.check w em hl
    rcases findK K hk ⟨l, hl⟩ w with ⟨_, h3⟩ | ⟨j, v2, h1, h3⟩
    · exact absurd rfl (h3 _ hv)
    · have := hk.one _ _ _ h3 hv
      subst this
      simp [execOp, hf.eval hx, hf.eval hy, Instr.lookup, run_underlying ht, h2, hc, h1]
theorem XL.updateK (i : Nat) {ops : Array Oper} {rest : List Oper} {t kt et : TypeId} {x y u : Operand} (kvs : List (Value × Value)) {r : Nat} {k v : Value} {L' : Lo} (K : WideMaps.KeyLaw P kt) (hx : evo F x = some (.map (some r))) (hy : evo F y = some k)
    (hu : evo F u = some v) (hL : L[i]? = some (r, mapO kvs)) (ht : P.underlying t = some (.map kt et)) (hk : KeysOk P kt kvs) (h : ∃ l, keyOf P kt k = some l) (hn : ∀ e, e ∈ kvs → e.1 ≠ k) (hL' : setN L i (r, mapO (kvs ++ [(k, v)])) = some L')
    (c : XL P N B w0 ds Q ops rest F L') :
    XL P N B w0 ds Q ops ({ dst := none, op := .mapUpdate t x y u, type := ty, pos := p, after := af, guard := none } :: rest) F L := by
  refine ⟨fun a w hf hs => ?_⟩
  refine wpList_plain rfl fun Kk hK => ?_
  unfold Oper.wp
  have hh := hs.obj hL
  have h2 := getObj_run (P := P) (show w.heap[r]? = some (.map (entO kvs).toArray kvs.length) from hh)
  obtain ⟨l, hl⟩ := h
  have hc := fun em => K.check w em hl
  rcases findK K hk ⟨l, hl⟩ w with ⟨h1, _⟩ | ⟨j, v2, _, h3⟩
  · have e1 : mapO (kvs ++ [(k, v)]) = .map ((entO kvs).toArray.push { key := k, val := v, born := kvs.length }) (kvs.length + 1) := mapO_push kvs k v
    have h3 := setObj_run (P := P) (o := mapO (kvs ++ [(k, v)])) (show w.heap[r]? = some (.map (entO kvs).toArray kvs.length) from hh)
    have : (execOp a.eval { dst := none, op := .mapUpdate t x y u, type := ty, pos := p, after := af, guard := none }).run P w = .ok .skip { w with heap := w.heap.setIfInBounds r (mapO (kvs ++ [(k, v)])) } := by
      rw [e1] at h3 ⊢
      simp only [execOp, hf.eval hx, hf.eval hy, hf.eval hu, Instr.mapUpdate, Sem.run_bind, run_underlying ht, Result.andThen_ok, h2, hc, h1, h3, Sem.run_pure]
    rw [this]
    exact hK _ _ (c.run _ _ hf (hs.setObj hL (setN_spec _ _ _ _ hL').1))
  · exact absurd rfl (hn _ h3)
end
end Go.Proofs.YtmpaiphakjogjaaGreat.X
namespace Go.Proofs.YtmpaiphakjogjaaGreat.X
open Go Go.RowKit
section
variable {P : Program} {T : TT} {N : Nat} {B : Nat} {w0 : World} {ds : List Deferred} {Q : Exit → Act → World → Prop} {F : Fr} {L L' : Lo}
theorem XE.retM0 (hT : TOK P T) {fn : Func} {R : Ending → World → Prop} {rs : List ResultVar} {vs : List Value} {c : Prop} (h : fn.results = ⟨rs⟩) (hv : resO T F L rs = some (vs, c)) (hc : c)
    (hR : ∀ w, Sys B w0 L w → R (.returned (tupV vs)) w) : XE N B w0 [] (bodyPostM Fence.wide 0 P fn R) .ret F L :=
  ⟨fun a w hf hw => by
    show LeavesInM Fence.wide 0 P fn a.tmps R a.defers .returning w
    rw [hf.defers]
    exact ⟨_, by
      have h1 := resO_run hT hf hw hv hc
      have h2 : (results fn a.tmps).run P w = .ok (tupV vs) w := by
        unfold results
        rw [h, Array.mapM_eq_mapM_toList]
        simp only [Sem.run_bind, Sem.run_map]
        refine (congrArg (fun r : Result (List Value) => (r.andThen fun a w' => Result.ok a.toArray w').andThen fun a w' => Sem.run P (pure (if h : a.size = 1 then a[0] else Value.tuple a)) w') h1).trans ?_
        simp only [Result.andThen_ok, Sem.run_pure]
        cases vs with
        | nil => rfl
        | cons v vs => cases vs with
          | nil => rfl
          | cons u vs => simp [tupV]
      exact h2, hR w hw⟩⟩
def Ng' (gm : Nat) (w : World) : Nat → Prop := fun j => j < w.heap.size ∧ j ≠ gm
structure Kp (gm : Nat) (w W : World) : Prop where
  below : Below gm w W
  old : ∀ j, Ng' gm w j → W.heap[j]? = w.heap[j]?
def trunc (w : World) (n : Nat) : World := { w with heap := w.heap.extract 0 n }
theorem Sys.anchorT {wE W w' : World} {L' : Lo} (hB : Below B wE W) (S : Sys B W L w') (hs : ∀ e, e ∈ L' → e ∈ L) (hn : (L'.map (·.1)).Nodup) (hle : B ≤ wE.heap.size) : Sys B (trunc wE B) L' w' := by
  have hsz : (trunc wE B).heap.size = B := by simp [trunc]; omega
  refine ⟨S.os.trans hB.os, S.tape.trans hB.tape, S.output.trans hB.output, ?_, ?_, fun k hk _ => ?_, fun e he => S.own e (hs e he), hn⟩
  · rw [hsz]; exact Nat.le_trans S.base S.size
  · rw [hsz]; exact Nat.le_refl _
  · rw [hsz] at hk
    have h1 := S.toBelow.block k hk
    have h2 := hB.block k hk
    rw [h1, h2]
    simp [trunc, Array.getElem?_extract]
    omega
theorem Sys.made {w w' : World} (S : Sys B w0 L w) (hb : Below w.heap.size w w') : Sys B w' L w' :=
  ⟨rfl, rfl, rfl, Nat.le_refl _, Nat.le_trans S.base (Nat.le_trans S.size hb.size), fun _ _ _ => rfl, fun e he => ⟨(S.own e he).1, (hb.block e.1 (S.lt he)).trans (S.own e he).2⟩, S.nd⟩
end
section
variable {P : Program} {T : TT} {N : Nat} {B : Nat} {w0 : World} {ds : List Deferred} {Q : Exit → Act → World → Prop} {F : Fr} {L : Lo} {pu : Prop} {ops : Array Oper} {rest : List Oper} {ty : TypeId} {p : String} {af : Array Edge}
end
section
variable {P : Program} {N B : Nat} {wS w0 : World} {ds : List Deferred} {Q : Exit → Act → World → Prop} {F : Fr} {L Ls : Lo} {ops : Array Oper} {rem : List (Nat × Oper)} {r : Option Nat} {n : Nat}
theorem XH.ofRS {l : List Oper} (wS : World) (Ls : Lo) (p q : List Nat) (hr : pickR l q = some rem)
    (hp : (pureOk l.toArray (Array.replicate l.length false) p && partB l.length p q) = true)
    (h : Fw P N B wS ds False (fun F' => XR P N B wS w0 ds Q Ls l.toArray rem F' L) l.toArray Ls (pickO l.toArray p) F) : XH P N B wS w0 ds Q Ls l.toArray (Array.replicate l.toArray.size false) F L := by
  simp only [Bool.and_eq_true] at hp
  refine XH.pure p (by simpa using hp.1) ?_
  have key : ∀ F', XR P N B wS w0 ds Q Ls l.toArray rem F' L → XH P N B wS w0 ds Q Ls l.toArray (setAll (Array.replicate l.toArray.size false) p) F' L := by
    intro F' hx
    have hset : ∀ (p : List Nat) (D : Array Bool) (i : Nat), i < D.size → on (setAll D p) i = (on D i || p.contains i) := by
      intro p
      induction p with
      | nil => intro D i _; simp [setAll]
      | cons j r ih =>
        intro D i hi
        rw [setAll, ih _ _ (by simpa using hi)]
        by_cases hj : j < D.size
        · rw [on_set hj]
          simp only [List.contains_cons]
          cases on D i <;> simp
        · have : D.setIfInBounds j true = D := Array.setIfInBounds_eq_of_size_le (by omega)
          rw [this]
          have hne : ¬ i = j := by omega
          simp [List.contains_cons, hne]
    have hsz : ∀ (p : List Nat) (D : Array Bool), (setAll D p).size = D.size := by
      intro p
      induction p with
      | nil => intro D; rfl
      | cons j r ih => intro D; rw [setAll, ih]; simp
    obtain ⟨h1, h2⟩ := pickR_spec hr
    have hpart := hp.2
    unfold partB at hpart
    simp only [Bool.and_eq_true, List.all_eq_true, List.mem_range, decide_eq_true_eq] at hpart
    obtain ⟨⟨h3, h4⟩, h5⟩ := hpart
    have hD : RemOk l.toArray (setAll (Array.replicate l.toArray.size false) p) rem := by
      refine ⟨by rw [hsz]; simp, fun e he => by simpa using h2 e he, fun i hi => ?_, by rw [h1]; exact h5⟩
      have hi' : i < l.length := by simpa using hi
      rw [hset _ _ _ (by simpa using hi')]
      have h6 : on (Array.replicate l.toArray.size false) i = false := by unfold on; simp [hi']
      rw [h6, Bool.false_or]
      have h7 := h3 i hi'
      have h8 : inRem rem i = q.contains i := by
        rw [Bool.eq_iff_iff, inRem_iff, List.contains_iff_mem, ← h1]
        simp only [List.mem_map, Prod.exists, exists_and_right, exists_eq_right]
      rw [h8]
      cases h9 : p.contains i <;> cases h10 : q.contains i <;> rw [h9, h10] at h7 <;> simp_all
    exact ⟨fun fuel a w hc hf hs hS => hx.run _ fuel a w hD hc hf hs hS⟩
  exact ⟨by
    have := h.run
    exact (show ∀ (ops : List Oper) (F : Fr) (K K' : Fr → Prop), (∀ F', K F' → K' F') → Fw0 P N B wS ds False l.toArray Ls K ops F → Fw0 P N B wS ds False l.toArray Ls K' ops F from by
      intro ops
      induction ops with
      | nil => intro F K K' hk h; exact hk _ h
      | cons o r ih => rintro F K K' hk ⟨v, h1, h2⟩; exact ⟨v, h1, ih _ _ _ hk h2⟩) _ _ _ _ (fun F' ⟨G', h1, h2⟩ => ⟨G', h1, key _ h2⟩) this⟩
theorem wpAnyIn_of {md : Region.Mode} {K : Act → World → Prop} {Q' : Exit → Act → World → Prop} (hd : ∀ (i : Nat) (o : Oper), ops[i]? = some o → notDefer o = true) (hK : ∀ a w, K a w → Q' .normal a w) : ∀ (fuel : Nat) (listed : Array Bool) (a : Act) (w : World), wpAny P md ops (only K) fuel listed a w → wpAnyIn (fen r) n P md ops Q' fuel listed a w := by
  intro fuel
  induction fuel with
  | zero => intro listed a w h; exact ⟨h.1, hK _ _ h.2⟩
  | succ fuel ih =>
    intro listed a w h
    refine ⟨fun h0 => hK _ _ (h.1 h0), fun i hi => ?_⟩
    have h1 := h.2 i hi
    unfold wpOp at h1
    unfold wpOpIn
    split
    · rename_i ho
      rw [ho] at h1
      exact ih _ _ _ h1
    · rename_i o ho
      rw [ho] at h1
      simp only at h1
      split
      · rename_i hw
        rw [if_pos hw] at h1
        rcases h1 with h1 | ⟨_, a0, w0, q⟩
        · refine ⟨fun f _ => fen_fn r f, ?_⟩
          rw [fen_round]
          rw [Oper.semAt_eq r a.eval o (fun c e => by have := hd i o ho; simp [notDefer, e] at this)]
          refine upon_in (Q := only K) only_normal ?_
          have h2 : o.wp P a w (wpAnyIn (fen r) n P md ops Q' fuel (listed.setIfInBounds i true)) (only K) := Oper.wp_mono (fun a w h => ih _ _ _ h) h1
          exact h2
        · exact q.elim
      · rename_i hw
        rw [if_neg hw] at h1
        exact ⟨fun f _ => fen_fn r f, ih _ _ _ h1⟩
theorem XR'.drawRS {id : Nat} {l : List Oper} (wS : World) (Ls : Lo) (p q : List Nat) (hm : P.follows .mixedOrders = true) (hL : ∀ w, Sys B w0 L w → Sys B wS Ls w) (hr : pickR l q = some rem) (hnd : l.all notDefer = true)
    (hp : (pureOk l.toArray (Array.replicate l.length false) p && partB l.length p q) = true)
    (h : Fw P N B wS ds False (fun F' => XR P N B wS w0 ds (only fun a w => Q .normal a w) Ls l.toArray rem F' L) l.toArray Ls (pickO l.toArray p) F) : XR' P N B w0 ds Q r n (.region id l.toArray true) F L :=
  ⟨fun a w hf hs => by
    have h1 := (XH.ofRS (Q := only fun a w => Q .normal a w) wS Ls p q hr hp h).run l.toArray.size a { w with drawn := w.drawn + 1 } (by simp) hf hs.drew (hL _ hs.drew)
    refine wpIn_region_any hm (wpAnyIn_of (K := fun a w => Q .normal a w) (fun i o ho => ?_) (fun _ _ h => h) _ _ _ _ (wpAny_of_held _ _ _ _ h1))
    exact List.all_eq_true.1 hnd o (List.mem_of_getElem? (by simpa using ho))⟩
theorem XR'.exit {id : Nat} (h : XE N B w0 ds Q (.exit id) F L) : XR' P N B w0 ds Q r n (.exit id) F L := ⟨fun a w hf hs => wpIn_exit (h.run a w hf hs)⟩
theorem XE.onlyN (h : XE N B w0 ds Q .normal F L) : XE N B w0 ds (only fun a w => Q .normal a w) .normal F L := ⟨h.run⟩
end
end Go.Proofs.YtmpaiphakjogjaaGreat.X
namespace Go.Proofs.YtmpaiphakjogjaaGreat.X
open Go Go.RowKit
section
variable {P : Program} {T : TT} {N : Nat} {B : Nat} {wS w0 : World} {ds : List Deferred} {Q : Exit → Act → World → Prop} {F : Fr} {L L' Ls : Lo} {ops : Array Oper} {rest : List Oper} {rem : List (Nat × Oper)} {ty : TypeId} {p : String} {af : Array Edge}
theorem XL.callFW {f : FuncId} {d : Nat} {args : Array Operand} {vs : List Value} {ats : Array TypeId} {b0 : Nat} {ks : List Nat} {rs : List RowX} {hs : List Held} {wE : World} (R : Value → List Held → Prop) (h : callOk P f = true)
    (ha : evos F args.toList = some vs) (hd : Nat.blt d N = true) (hF : Fam w0 b0 ks rs hs) (hks : ∀ k, k ∈ ks → k < w0.heap.size) (hbl : Below B wE w0)
    (hc : ∀ w, Sys B w0 L w → Fam w b0 (L.map (·.1) ++ ks) rs hs → Below B wE w → Calls P f vs.toArray w (Made w R))
    (k : ∀ w' v new, R v new → Fam w' b0 (L.map (·.1) ++ ks) rs (new ++ hs) → Below B wE w' → (∀ k, k ∈ L.map (·.1) ++ ks → k < w'.heap.size) → Sys B w0 L w' → XL P N B w' ds Q ops rest ((d, v) :: F) L)
    (hL : ∀ e, e ∈ L → e.1 ∈ ks ∨ w0.heap.size ≤ e.1 := by (intro e he; repeat (first | (cases he; done) | (rcases List.mem_cons.1 he with rfl | he; · first | (right; assumption) | (left; simp <;> fail)))) <;> fail) :
    XL P N B w0 ds Q ops ({ dst := some d, op := .call { callee := .value (.func f), args := args, argTypes := ats }, type := ty, pos := p, after := af, guard := none } :: rest) F L := by
  refine XL.call (fst := []) (cap := []) (vs := vs) h rfl ha hd (List.Sublist.refl _) (fun w v w' => ∃ new, R v new ∧ (∀ x, x ∈ new → x.p w' (Btw w.heap.size w'.heap.size)) ∧ Below w.heap.size w w') (fun w S => ?_) (fun w v w' S hR hb S' => ?_)
  · have h1 := hF.call S (Below.refl _ _) hL hks (new := []) fun _ h => by cases h
    simp only [List.nil_append, List.append_nil] at h1 ⊢
    exact (hc w S h1.1 (hbl.trans S.toBelow)).mono fun e w' ⟨v, new, e1, e2, e3, e4⟩ => ⟨v, e1, ⟨new, e2, e3, e4⟩, e4⟩
  · obtain ⟨new, e2, e3, e4⟩ := hR
    have h1 := hF.call S hb hL hks e3
    exact k w' v new e2 h1.1 (hbl.trans S'.toBelow) h1.2 S'
theorem Sys.anchor3 {W w2 w : World} {L2 : Lo} (S' : Sys B W L w2) (h : Sys B w2 L2 w) (hs : List.Sublist L L2) (hn : ∀ e, e ∈ L2 → e.1 ∈ L.map (·.1) ∨ W.heap.size ≤ e.1) : Sys B W L w :=
  ⟨h.os.trans S'.os, h.tape.trans S'.tape, h.output.trans S'.output, Nat.le_trans S'.size h.size, S'.base, fun k hk hk2 => by
    rw [h.old k (Nat.lt_of_lt_of_le hk S'.size) (fun e he e1 => by
      rcases hn e he with h1 | h1
      · obtain ⟨e', h3, h4⟩ := List.mem_map.1 h1
        exact hk2 e' h3 (by rw [h4, e1])
      · omega), S'.old k hk hk2], fun e he => ⟨(S'.own e he).1, (h.own e (hs.subset he)).2⟩, h.nd.sublist (hs.map _)⟩
theorem z5 {W w0 : World} (k : XR P N B W w0 ds Q Ls ops rem F L) (S' : Sys B W Ls w0 := by assumption) (hs : List.Sublist Ls L := by (repeat (first | exact List.Sublist.refl _ | exact List.nil_sublist _ | refine List.Sublist.cons_cons _ ?_ | refine List.Sublist.cons _ ?_)) <;> fail)
    (hn : ∀ e, e ∈ L → e.1 ∈ Ls.map (·.1) ∨ W.heap.size ≤ e.1 := by (intro e he; repeat (first | (cases he; done) | (rcases List.mem_cons.1 he with rfl | he; · first | (left; simp <;> fail) | (right; simp only; omega)))) <;> fail) :
    XE N B w0 ds (heldR P B W Q Ls ops rem) .normal F L := XE.heldR (fun _ h => Sys.anchor3 S' h hs hn) k
structure Since (W0 : World) (g : Nat) (W : World) : Prop where
  os : W.os = W0.os
  tape : W.tape = W0.tape
  output : W.output = W0.output
  size : W0.heap.size ≤ W.heap.size
  old : ∀ k, k < W0.heap.size → k ≠ g → W.heap[k]? = W0.heap[k]?
def hOld (b0 : Nat) (W0 : World) (g : Nat) : Held := ⟨fun W ok => ∀ k, b0 ≤ k → k < W0.heap.size → k ≠ g → ok k ∧ W.heap[k]? = W0.heap[k]?, fun h hk k h1 h2 h3 => ⟨(h k h1 h2 h3).1, (hk k (h k h1 h2 h3).1).trans (h k h1 h2 h3).2⟩, fun h hk k h1 h2 h3 => ⟨hk k (h k h1 h2 h3).1, (h k h1 h2 h3).2⟩⟩
theorem Sys.anchor4 {W0 W w : World} {g : Nat} {o : Obj} (hS : Since W0 g W) (hB : B ≤ W0.heap.size) (h : Sys B W L w) (hs : List.Sublist [(g, o)] L) (hn : ∀ e, e ∈ L → e.1 = g ∨ W0.heap.size ≤ e.1) : Sys B W0 [(g, o)] w :=
  ⟨h.os.trans hS.os, h.tape.trans hS.tape, h.output.trans hS.output, Nat.le_trans hS.size h.size, hB, fun k hk hk2 => by
    have hkg : k ≠ g := fun e => hk2 (g, o) (.head _) e.symm
    rw [h.old k (Nat.lt_of_lt_of_le hk hS.size) (fun e he e1 => by
      rcases hn e he with h1 | h1
      · exact hkg (e1.symm.trans h1)
      · omega), hS.old k hk hkg], fun e he => h.own e (hs.subset he), h.nd.sublist (hs.map _)⟩
theorem z6 {W0 w0 : World} {g : Nat} {o : Obj} (k : XR P N B W0 w0 ds Q [(g, o)] ops rem F L) (hS : Since W0 g w0 := by assumption) (hB : B ≤ W0.heap.size := by assumption) (hs : List.Sublist [(g, o)] L := by (repeat (first | exact List.Sublist.refl _ | exact List.nil_sublist _ | refine List.Sublist.cons_cons _ ?_ | refine List.Sublist.cons _ ?_)) <;> fail)
    (hn : ∀ e, e ∈ L → e.1 = g ∨ W0.heap.size ≤ e.1 := by (intro e he; repeat (first | (cases he; done) | (rcases List.mem_cons.1 he with rfl | he; · first | (left; rfl) | (right; simp only; omega)))) <;> fail) :
    XE N B w0 ds (heldR P B W0 Q [(g, o)] ops rem) .normal F L := XE.heldR (fun _ h => Sys.anchor4 hS hB h hs hn) k
variable {dst : Option Tmp} {gd : Option (Nat × Bool)} {pu : Prop}
theorem Ev.idxArrP {t e : TypeId} {x i : Operand} {ad : Addr} {m sz : Nat} {k : IntKind} {q : Int} (j : Nat) (ht : arrB (P.underlying t) = some (m, e)) (he : (P.info? e).map (·.size) = some sz) (hx : evo F x = some (.pointer (some ad))) (hi : evo F i = some (.int k q)) (hq : q = (j : Int)) (h1 : j < m) :
    Ev P N B w0 ds pu F L ⟨dst, .indexAddr t x i, ty, p, af, gd⟩ (.pointer (some (ad.add (j * sz)))) :=
  .of_run fun a w hf hw => by
    subst hq
    have hu : P.underlying t = some (.array m e) := by
      unfold arrB at ht
      split at ht
      · rename_i h; simp only [Option.some.injEq, Prod.mk.injEq] at ht; obtain ⟨rfl, rfl⟩ := ht; exact h
      · cases ht
    cases hi2 : P.info? e with
    | none => rw [hi2] at he; cases he
    | some z =>
      have hz := sizeOf_run hi2 w
      rw [hi2] at he
      simp only [Option.map_some, Option.some.injEq] at he
      have h2 : (j : Int) < m := by omega
      simp [execOp, hf.eval hx, hf.eval hi, Instr.indexAt, asIntOf, Instr.sureAddr, run_underlying hu, h2, hz, he]
      exact fun h9 => absurd h9 (by omega)
end
end Go.Proofs.YtmpaiphakjogjaaGreat.X
namespace Go.Proofs.YtmpaiphakjogjaaGreat.X
open Go Go.RowKit Go.Proofs.YtmpaiphakjogjaaGreat.Bs
section
variable {base B : Nat} {ks : List Nat} {row : Option Nat} {W W' W2 : World} {v : Value} {ms : List Mom} {L : Lo}
end
end Go.Proofs.YtmpaiphakjogjaaGreat.X
namespace Go.Proofs.YtmpaiphakjogjaaGreat.X
open Go Go.RowKit Go.Proofs.YtmpaiphakjogjaaGreat.Bs
structure MomRow (w : World) (ok : Nat → Prop) (r : SV) (ms : List Mom) : Prop where
  rd : ReadsP w ok 7 r.A r.n (ms.flatMap Mom.c)
  max : r.n ≤ 1000
  ins : ∀ m, m ∈ ms → IntsAt w ok m.q m.s.fil ∧ IntsAt w ok m.r m.f.taken
end Go.Proofs.YtmpaiphakjogjaaGreat.X
namespace Go.Proofs.YtmpaiphakjogjaaGreat.As
open Go Go.RowKit Go.Extern.Stop Go.Stop Go.Extern
end Go.Proofs.YtmpaiphakjogjaaGreat.As
namespace Go.Proofs.YtmpaiphakjogjaaGreat.X
open Go Go.RowKit Go.Proofs.YtmpaiphakjogjaaGreat.Bs
def RunR (b : Bas) (s : Sta) (ts : List Tick) (w : World) (v : Value) (w' : World) : Prop :=
  ((runE b s ts ≠ 0 ∧ v = .tuple ⟨[.slice none 0 0, .int .i64 (runE b s ts)]⟩) ∨
   (runE b s ts = 0 ∧ staErr b s = 0 ∧ ts.length ≤ 300 ∧ (∀ k, k < ts.length → errAt b s ts k = 0) ∧ ∃ r ms, v = .tuple ⟨[svV r, .int .i64 0]⟩ ∧ MomRow w' (Btw w.heap.size w'.heap.size) r ms ∧ ms.map Mom.p = momsAt b s ts ts.length)) ∧ Below w.heap.size w w'
end Go.Proofs.YtmpaiphakjogjaaGreat.X
namespace Go.Proofs.YtmpaiphakjogjaaGreat.X
open Go Go.RowKit Go.Proofs.YtmpaiphakjogjaaGreat.Bs
def overB (b : Bas) (lim v : Int) : Bool := decide (lim * den b v < num b v)
theorem lim_in {b : Bas} (ho : Ok b) {lim : Int} (hl : -20000 ≤ lim ∧ lim ≤ 20000) (v : Int) : i64in (lim * den b v) := by
  have hd := den_pos ho.rowsOk v
  unfold i64in
  have h1 : -(20000 * den b v) ≤ lim * den b v := by
    have := Int.mul_le_mul_of_nonneg_right hl.1 (show 0 ≤ den b v by omega)
    omega
  have h2 : lim * den b v ≤ 20000 * den b v := Int.mul_le_mul_of_nonneg_right hl.2 (show 0 ≤ den b v by omega)
  omega
section
variable {p : BV} {b : Bas} {lim : Int} {w : World} {gb gl : Nat}
def firstOver (b : Bas) (lim : Int) (ms : List Mom) : Nat := ms.findIdx fun m => overB b lim m.s.vol
end
noncomputable def stayE (b : Bas) (s : Sta) (ts : List Tick) (lim : Int) : Int := if runE b s ts ≠ 0 then runE b s ts else if outB lim (b.row 0).level 20000 = true then 7 else 0
noncomputable def stayN (b : Bas) (s : Sta) (ts : List Tick) (lim : Int) : Int := if stayE b s ts lim ≠ 0 then 0 else (((momsAt b s ts ts.length).findIdx fun x => overB b lim x.1.vol : Nat) : Int)
end Go.Proofs.YtmpaiphakjogjaaGreat.X
namespace Go.Proofs.YtmpaiphakjogjaaGreat.Bs
open Go.Proofs.YtmpaiphakjogjaaGreat.X
def exB : Bas := ⟨[⟨-1000, 0⟩, ⟨0, 1000000⟩, ⟨2000, 5000000⟩], 100, 3000, 500, [⟨⟨#[108, 111, 119]⟩, 200, 300, 50000⟩, ⟨⟨#[104, 105, 103, 104]⟩, 1000, 200, 400000⟩]⟩
def exS : Sta := ⟨1000000, [0, 0]⟩
def exT : Tick := ⟨2500, 60000, 0⟩
def exTs : List Tick := [exT, exT, exT]
end Go.Proofs.YtmpaiphakjogjaaGreat.Bs
namespace Go.Proofs.YtmpaiphakjogjaaGreat.X
open Go Go.RowKit Go.Proofs.YtmpaiphakjogjaaGreat.Bs
structure BasAtP (w : World) (ok : Nat → Prop) (p : BV) (b : Bas) : Prop where
  rows : ReadsP w ok 2 p.A p.n (b.rows.flatMap rowC)
  pols : ReadsP w ok 4 p.A2 p.n2 (b.pols.flatMap polC)
  cap : p.n ≤ p.c
  len : p.n ≤ 9223372036854775807
  len2 : p.n2 ≤ 9223372036854775807
  names : ∀ q, q ∈ b.pols → q.name.size ≤ 9223372036854775807
section
variable {w w' w0 : World} {ok ok' : Nat → Prop} {B : Nat} {p : BV} {b : Bas} {L : Lo}
theorem BasAtP.keep (h : BasAtP w ok p b) (hk : ∀ k, ok k → w'.heap[k]? = w.heap[k]?) : BasAtP w' ok p b := ⟨h.rows.keep hk, h.pols.keep hk, h.cap, h.len, h.len2, h.names⟩
theorem BasAtP.mono (h : BasAtP w ok p b) (hk : ∀ k, ok k → ok' k) : BasAtP w ok' p b := ⟨h.rows.mono hk, h.pols.mono hk, h.cap, h.len, h.len2, h.names⟩
theorem BasAtP.to (h : BasAtP w (Lt B) p b) : BasAt w B p b := ⟨h.rows.to, h.pols.to, h.cap, h.len, h.len2, h.names⟩
end
set_option maxHeartbeats 4000000 in
theorem Basin_any (w : World) : Calls Tryz.prog 72 #[] w fun e w' => ∃ v, e = .returned v ∧ (∃ p, v = basV p exB ∧ BasAtP w' (Btw w.heap.size w'.heap.size) p exB) ∧ Below w.heap.size w w' := by
  refine enter Tryz.func72 rfl Tryz.ntmps72 rfl ?_; simp only [frame, Nat.zero_add, Nat.reduceAdd]
  repeat (first | (refine M0 ?_; first | refine SL ?_ | refine SB fun _ _ => ?_ | refine XL.buildSlice tok rfl rfl rfl rfl rfl rfl rfl rfl rfl (fun _ _ => ?_)) | (refine M1 ?_; first | refine SC ?_ | refine SD ?_) | (refine M2 ?_; refine SE ?_) | (refine M3 ?_; first | refine SG ?_ | refine SF ?_) | (refine M4 ?_; refine SR ?_) | (refine M5 ?_; first | exact M7 | refine YM ?_ | refine YN ?_ ?_))
  rename_i g0 hg0 g1 hg1 g2 hg2
  refine XE.retg tok Tryz.results72 rfl (by simp only [and_self, and_true]) (fun w' S => ?_)
  refine ⟨_, rfl, ⟨⟨some ⟨g1, 0, none⟩, 3, 3, some ⟨g2, 0, none⟩, 2, 2⟩, rfl, ?_⟩, S.toBelow⟩
  exact ⟨ReadsP.block (S.own (g1, _) (List.mem_cons_of_mem _ List.mem_cons_self)).2 hg1 rfl, ReadsP.block (S.own (g2, _) List.mem_cons_self).2 hg2 rfl, Nat.le_refl _, by simp, by simp, by decide⟩
end Go.Proofs.YtmpaiphakjogjaaGreat.X
namespace Go.Proofs.YtmpaiphakjogjaaGreat.X
open Go Go.RowKit Go.Proofs.YtmpaiphakjogjaaGreat.Bs
end Go.Proofs.YtmpaiphakjogjaaGreat.X
namespace Go.Proofs.YtmpaiphakjogjaaGreat.Bs
noncomputable def runS (b : Bas) (s : Sta) (ts : List Tick) : List Sta := if runE b s ts ≠ 0 then [] else (List.range ts.length).map fun i => staAt b s ts (i + 1)
noncomputable def runF (b : Bas) (s : Sta) (ts : List Tick) : List Flo := if runE b s ts ≠ 0 then [] else (List.range ts.length).map fun i => floAt b s ts i
end Go.Proofs.YtmpaiphakjogjaaGreat.Bs
namespace Go.Proofs.YtmpaiphakjogjaaGreat.X
open Go Go.RowKit Go.Proofs.YtmpaiphakjogjaaGreat.Bs
structure StaI where
  s : Sta
  q : SV
structure FloI where
  f : Flo
  r : SV
def StaI.c (a : StaI) : List Value := staC a.q a.s
def FloI.c (a : FloI) : List Value := floC a.r a.f
def staK : Kind StaI := ⟨153, 2, StaI.c, fun a => [hInts a.q a.s.fil], fun _ => rfl⟩
def floK : Kind FloI := ⟨158, 5, FloI.c, fun a => [hInts a.r a.f.taken], fun _ => rfl⟩
def Mom.a (m : Mom) : StaI := ⟨m.s, m.q⟩
def Mom.b (m : Mom) : FloI := ⟨m.f, m.r⟩
def RunsR (b : Bas) (s : Sta) (ts : List Tick) (w : World) (v : Value) (w' : World) : Prop :=
  ∃ (r1 r2 : SV) (l1 : List StaI) (l2 : List FloI), v = .tuple ⟨[svV r1, svV r2, .int .i64 (runE b s ts)]⟩ ∧ ListAt staK w' (Btw w.heap.size w'.heap.size) r1 l1 ∧ ListAt floK w' (Btw w.heap.size w'.heap.size) r2 l2 ∧
    l1.map (·.s) = runS b s ts ∧ l2.map (·.f) = runF b s ts ∧ Below w.heap.size w w'
end Go.Proofs.YtmpaiphakjogjaaGreat.X
namespace Go.Proofs.YtmpaiphakjogjaaGreat.X
open Go Go.RowKit Go.Proofs.YtmpaiphakjogjaaGreat.Bs
def StepV (b : Bas) (s : Sta) (t : Tick) (v : Value) (new : List Held) : Prop := ∃ q r : SV, v = .tuple ⟨[staV q (outS b s t), floV r (outF b s t), .int .i64 (stepE b s t)]⟩ ∧ new = [hInts q (outS b s t).fil, hInts r (outF b s t).taken]
def RunV (b : Bas) (s : Sta) (ts : List Tick) (v : Value) (new : List Held) : Prop :=
  ∃ (r1 r2 : SV) (l1 : List StaI) (l2 : List FloI), v = .tuple ⟨[svV r1, svV r2, .int .i64 (runE b s ts)]⟩ ∧ new = [hList staK r1 l1, hList floK r2 l2] ∧ l1.map (·.s) = runS b s ts ∧ l2.map (·.f) = runF b s ts
end Go.Proofs.YtmpaiphakjogjaaGreat.X
namespace Go.Proofs.YtmpaiphakjogjaaGreat.X
open Go Go.RowKit Go.Proofs.YtmpaiphakjogjaaGreat.Bs
end Go.Proofs.YtmpaiphakjogjaaGreat.X
namespace Go.Proofs.YtmpaiphakjogjaaGreat.Bs
def Flo.t (f : Flo) (i : Nat) : Int := f.taken[i]?.getD 0
def firstF (fs : List Flo) (i : Nat) : Int := match fs.findIdx? fun f => decide (0 < f.t i) with
  | some k => ((k : Nat) : Int)
  | none => -1
noncomputable def floods (b : Bas) (s : Sta) (ts : List Tick) : List Int := if runE b s ts ≠ 0 then [] else (List.range b.pols.length).map (firstF (runF b s ts))
end Go.Proofs.YtmpaiphakjogjaaGreat.Bs
namespace Go.Proofs.YtmpaiphakjogjaaGreat.X
open Go Go.RowKit Go.Proofs.YtmpaiphakjogjaaGreat.Bs
end Go.Proofs.YtmpaiphakjogjaaGreat.X
namespace Go.Proofs.YtmpaiphakjogjaaGreat.Bs
def firstG (fs : List Flo) (i m : Nat) : Int := match (fs.drop m).findIdx? fun f => decide (0 < f.t i) with
  | some k => (((m + k : Nat)) : Int)
  | none => -1
end Go.Proofs.YtmpaiphakjogjaaGreat.Bs
namespace Go.Proofs.YtmpaiphakjogjaaGreat.X
open Go Go.RowKit Go.Proofs.YtmpaiphakjogjaaGreat.Bs
def intK : Kind Int := ⟨3, 1, fun k => [.int .i64 k], fun _ => [], fun _ => rfl⟩
def FloodV (b : Bas) (s : Sta) (ts : List Tick) (v : Value) (new : List Held) : Prop := ∃ r : SV, v = .tuple ⟨[svV r, .int .i64 (runE b s ts)]⟩ ∧ new = [hInts r (floods b s ts)]
def idxV (ms : List Mom) (P : Mom → Bool) : Int := match ms.findIdx? P with
  | some i => ((i : Nat) : Int)
  | none => -1
end Go.Proofs.YtmpaiphakjogjaaGreat.X
namespace Go.Proofs.YtmpaiphakjogjaaGreat.X
open Go Go.RowKit Go.Proofs.YtmpaiphakjogjaaGreat.Bs
structure CV where
  q : SV
  r : SV
structure Cas where
  s : Sta
  ts : List Tick
  lim : Int
def caseC (x : CV) (c : Cas) : List Value := [.int .i64 c.s.vol, .slice x.q.A x.q.n x.q.c, .slice x.r.A x.r.n x.r.c, .int .i64 c.lim]
def caseV (x : CV) (c : Cas) : Value := .agg ⟨caseC x c⟩
structure CaseAt (w : World) (ok : Nat → Prop) (x : CV) (c : Cas) : Prop where
  fil : IntsAt w ok x.q c.s.fil
  tks : TksAt w ok x.r c.ts
end Go.Proofs.YtmpaiphakjogjaaGreat.X
namespace Go.Proofs.YtmpaiphakjogjaaGreat.Bs
def lsegTo (b : Bas) (l : Int) : Nat → Nat
  | 0 => 0
  | k + 1 => if (b.row (k + 1)).level ≤ l then k + 1 else lsegTo b l k
def lseg (b : Bas) (l : Int) : Nat := lsegTo b l (b.rows.length - 2)
theorem lsegTo_spec {b : Bas} {v : Int} : ∀ (n : Nat), lsegTo b v n ≤ n ∧ (lsegTo b v n = 0 ∨ (b.row (lsegTo b v n)).level ≤ v) ∧ (∀ j, lsegTo b v n < j → j ≤ n → v < (b.row j).level) := by
  intro n
  induction n with
  | zero => exact ⟨by simp [lsegTo], .inl rfl, fun j h1 h2 => by omega⟩
  | succ n ih =>
    unfold lsegTo
    by_cases h : (b.row (n + 1)).level ≤ v
    · rw [if_pos h]; exact ⟨by omega, .inr h, fun j h1 h2 => by omega⟩
    · rw [if_neg h]
      refine ⟨by omega, ih.2.1, fun j h1 h2 => ?_⟩
      by_cases e : j = n + 1
      · subst e; omega
      · exact ih.2.2 j h1 (by omega)
def volAt (b : Bas) (l : Int) : Int := (b.row (lseg b l)).vol + (l - (b.row (lseg b l)).level) * ((b.row (lseg b l + 1)).vol - (b.row (lseg b l)).vol) / ((b.row (lseg b l + 1)).level - (b.row (lseg b l)).level)
def volOf (b : Bas) (l : Int) : Int := min 1000000000 (volAt b l)
def levLo (b : Bas) (v : Int) : Int := num b v / den b v
def levHi (b : Bas) (v : Int) : Int := -((-(num b v)) / den b v)
section
variable {b : Bas} (h : RowsOk b)
include h
theorem lseg_spec {l : Int} (hl : (b.row 0).level ≤ l) : lseg b l + 1 < b.rows.length ∧ (b.row (lseg b l)).level ≤ l ∧ ∀ j, lseg b l < j → j + 1 < b.rows.length → l < (b.row j).level := by
  obtain ⟨h1, h2, h3⟩ := lsegTo_spec (b := b) (v := l) (b.rows.length - 2)
  have hn := h.n2
  unfold lseg
  refine ⟨by omega, ?_, fun j h4 h5 => h3 j h4 (by omega)⟩
  rcases h2 with h2 | h2
  · rw [h2]; exact hl
  · exact h2
theorem seg_spec {v : Int} (hv : (b.row 0).vol ≤ v) : seg b v + 1 < b.rows.length ∧ (b.row (seg b v)).vol ≤ v ∧ ∀ j, seg b v < j → j + 1 < b.rows.length → v < (b.row j).vol :=
  ⟨seg_lt h v, seg_vol hv, fun j h4 h5 => (segTo_spec (b := b) (v := v) (b.rows.length - 2)).2.2 j h4 (by omega)⟩
theorem rows_le {i j : Nat} (hij : i ≤ j) (hj : j < b.rows.length) : (b.row i).vol ≤ (b.row j).vol ∧ (b.row i).level ≤ (b.row j).level := by
  rcases Nat.eq_or_lt_of_le hij with rfl | h1
  · exact ⟨Int.le_refl _, Int.le_refl _⟩
  · have := h.lt h1 hj; omega
theorem under_iff {l v : Int} (hl : (b.row 0).level ≤ l) (hv : (b.row 0).vol ≤ v) : num b v ≤ l * den b v ↔ v ≤ volAt b l := by
  obtain ⟨i1, i2, i3⟩ := lseg_spec h hl
  obtain ⟨s1, s2, s3⟩ := seg_spec h hv
  unfold num den volAt
  generalize lseg b l = i at i1 i2 i3 ⊢
  generalize seg b v = s at s1 s2 s3 ⊢
  have ud := h.volUp i i1
  have uD := h.levelUp i i1
  have sd := h.volUp s s1
  have sD := h.levelUp s s1
  obtain ⟨d, hd⟩ : ∃ d, d = (b.row (i + 1)).vol - (b.row i).vol := ⟨_, rfl⟩
  obtain ⟨D, hD⟩ : ∃ D, D = (b.row (i + 1)).level - (b.row i).level := ⟨_, rfl⟩
  obtain ⟨d', hd'⟩ : ∃ d, d = (b.row (s + 1)).vol - (b.row s).vol := ⟨_, rfl⟩
  obtain ⟨D', hD'⟩ : ∃ D, D = (b.row (s + 1)).level - (b.row s).level := ⟨_, rfl⟩
  rw [← hd, ← hD, ← hd', ← hD']
  rcases Nat.lt_trichotomy s i with c | c | c
  · have e1 := rows_le h (show s + 1 ≤ i by omega) (by omega)
    have e2 := s3 (s + 1) (by omega) (by omega)
    have e3 : 0 ≤ (l - (b.row i).level) * d / D := Int.ediv_nonneg (Int.mul_nonneg (by omega) (by omega)) (by omega)
    refine ⟨fun _ => by omega, fun _ => ?_⟩
    have e4 : (v - (b.row s).vol) * D' ≤ d' * D' := Int.mul_le_mul_of_nonneg_right (by omega) (by omega)
    have e5 : ((b.row s).level + D') * d' ≤ l * d' := Int.mul_le_mul_of_nonneg_right (by omega) (by omega)
    have e6 : ((b.row s).level + D') * d' = (b.row s).level * d' + d' * D' := by rw [Int.add_mul, Int.mul_comm D' d']
    omega
  · subst c
    have e0 : d' = d := by omega
    have e00 : D' = D := by omega
    subst e0 e00
    have e1 := Int.le_ediv_iff_mul_le (a := v - (b.row s).vol) (b := (l - (b.row s).level) * d') (c := D') (by omega)
    have e2 : (l - (b.row s).level) * d' = l * d' - (b.row s).level * d' := Int.sub_mul _ _ _
    constructor
    · intro h1
      have := e1.2 (by omega)
      omega
    · intro h1
      have := e1.1 (by omega)
      omega
  · have e1 := rows_le h (show i + 1 ≤ s by omega) (by omega)
    have e2 := i3 (i + 1) (by omega) (by omega)
    have e3 : (l - (b.row i).level) * d / D < d := Int.ediv_lt_of_lt_mul (by omega) (by
      have : (l - (b.row i).level) * d < D * d := Int.mul_lt_mul_of_pos_right (by omega) (by omega)
      rw [Int.mul_comm d D]; exact this)
    refine ⟨fun h1 => ?_, fun h1 => by omega⟩
    have e4 : 0 ≤ (v - (b.row s).vol) * D' := Int.mul_nonneg (by omega) (by omega)
    have e5 : (l + 1) * d' ≤ (b.row s).level * d' := Int.mul_le_mul_of_nonneg_right (by omega) (by omega)
    have e6 : (l + 1) * d' = l * d' + d' := by rw [Int.add_mul, Int.one_mul]
    omega
theorem under_of {l v : Int} (hl : (b.row 0).level ≤ l) (hv : (b.row 0).vol ≤ v ∧ v ≤ 1000000000) : num b v ≤ l * den b v ↔ v ≤ volOf b l := by
  rw [under_iff h hl hv.1]
  unfold volOf; omega
theorem volAt_ge {l : Int} (hl : (b.row 0).level ≤ l) : (b.row 0).vol ≤ volAt b l := by
  obtain ⟨i1, i2, i3⟩ := lseg_spec h hl
  have ud := h.volUp _ i1
  have uD := h.levelUp _ i1
  have e1 := (rows_le h (Nat.zero_le (lseg b l)) (by omega)).1
  have e3 : 0 ≤ (l - (b.row (lseg b l)).level) * ((b.row (lseg b l + 1)).vol - (b.row (lseg b l)).vol) / ((b.row (lseg b l + 1)).level - (b.row (lseg b l)).level) := Int.ediv_nonneg (Int.mul_nonneg (by omega) (by omega)) (by omega)
  unfold volAt
  omega
theorem volOf_ge {l : Int} (hl : (b.row 0).level ≤ l) : (b.row 0).vol ≤ volOf b l ∧ volOf b l ≤ 1000000000 := by
  have h1 := volAt_ge h hl
  have h2 := h.vol 0 (by have := h.n2; omega)
  unfold volOf; omega
theorem most_eq {l low high : Int} (hl : (b.row 0).level ≤ l) (h0 : (b.row 0).vol ≤ low) (h1 : num b low ≤ l * den b low) (h2 : low < high) (h3 : high ≤ 1000000001) (h4 : high = 1000000001 ∨ l * den b high < num b high) (h5 : ¬ 1 < high - low) : low = volOf b l := by
  have e : high = low + 1 := by omega
  subst e
  have a1 := (under_of h hl ⟨h0, by omega⟩).1 h1
  have a2 := volOf_ge h hl
  rcases h4 with h4 | h4
  · omega
  · rcases Int.lt_or_le (low + 1) 1000000001 with h6 | h6
    · have := (under_of h hl (v := low + 1) ⟨by omega, by omega⟩)
      have : ¬ (low + 1 ≤ volOf b l) := fun h7 => by have := this.2 h7; omega
      omega
    · omega
theorem most_low {l : Int} (hl : (b.row 0).level ≤ l) : num b (b.row 0).vol ≤ l * den b (b.row 0).vol := by
  have := (under_iff h hl (v := (b.row 0).vol) (Int.le_refl _)).2 (volAt_ge h hl)
  exact this
theorem lo_hi (v : Int) : levLo b v ≤ levHi b v ∧ levHi b v ≤ levLo b v + 1 := by
  have p1 := den_pos h v
  have e1 := Int.ediv_mul_le (num b v) (b := den b v) (by omega)
  have e2 := Int.ediv_mul_le (-(num b v)) (b := den b v) (by omega)
  have e3 := Int.lt_ediv_add_one_mul_self (num b v) (b := den b v) (by omega)
  have e4 := Int.lt_ediv_add_one_mul_self (-(num b v)) (b := den b v) (by omega)
  unfold levLo levHi
  obtain ⟨x, hx⟩ : ∃ x, x = num b v / den b v := ⟨_, rfl⟩
  obtain ⟨y, hy⟩ : ∃ x, x = (-(num b v)) / den b v := ⟨_, rfl⟩
  rw [← hx] at e1 e3 ⊢
  rw [← hy] at e2 e4 ⊢
  have f1 : (x + 1) * den b v = x * den b v + den b v := by rw [Int.add_mul, Int.one_mul]
  have f2 : (y + 1) * den b v = y * den b v + den b v := by rw [Int.add_mul, Int.one_mul]
  have f3 : (x + y) * den b v = x * den b v + y * den b v := Int.add_mul _ _ _
  have g1 : x + y ≤ 0 := by
    refine Int.le_of_mul_le_mul_right (a := den b v) ?_ (by omega)
    omega
  have g2 : -2 < x + y := by
    refine Int.lt_of_mul_lt_mul_right (a := den b v) ?_ (by omega)
    omega
  omega
end
end Go.Proofs.YtmpaiphakjogjaaGreat.Bs
namespace Go.Proofs.YtmpaiphakjogjaaGreat.Bs
noncomputable def lvlE (b : Bas) (v : Int) : Int := if chkE b ≠ 0 then chkE b else if outB v (b.row 0).vol 1000000000 = true then 7 else 0
noncomputable def lvlLo (b : Bas) (v : Int) : Int := if lvlE b v ≠ 0 then 0 else levLo b v
noncomputable def lvlHi (b : Bas) (v : Int) : Int := if lvlE b v ≠ 0 then 0 else levHi b v
theorem lvl_c {b : Bas} {v : Int} (h : chkE b ≠ 0) : lvlE b v = chkE b ∧ lvlLo b v = 0 ∧ lvlHi b v = 0 := by
  have : lvlE b v = chkE b := by unfold lvlE; rw [if_pos h]
  unfold lvlLo lvlHi
  rw [this, if_pos h, if_pos h]
  exact ⟨rfl, rfl, rfl⟩
theorem lvl_7 {b : Bas} {v : Int} (h : chkE b = 0) (h1 : outB v (b.row 0).vol 1000000000 = true) : lvlE b v = 7 ∧ lvlLo b v = 0 ∧ lvlHi b v = 0 := by
  have : lvlE b v = 7 := by unfold lvlE; rw [if_neg (by simp [h]), if_pos h1]
  unfold lvlLo lvlHi
  rw [this, if_pos (by decide), if_pos (by decide)]
  exact ⟨rfl, rfl, rfl⟩
theorem lvl_0 {b : Bas} {v : Int} (h : chkE b = 0) (h1 : outB v (b.row 0).vol 1000000000 = false) : lvlE b v = 0 ∧ lvlLo b v = levLo b v ∧ lvlHi b v = levHi b v := by
  have : lvlE b v = 0 := by unfold lvlE; rw [if_neg (by simp [h]), if_neg (by simp [h1])]
  unfold lvlLo lvlHi
  rw [this, if_neg (by decide), if_neg (by decide)]
  exact ⟨rfl, rfl, rfl⟩
noncomputable def volE (b : Bas) (l : Int) : Int := if chkE b ≠ 0 then chkE b else if outB l (b.row 0).level 20000 = true then 7 else 0
noncomputable def volN (b : Bas) (l : Int) : Int := if volE b l ≠ 0 then 0 else volOf b l
theorem vol_c {b : Bas} {v : Int} (h : chkE b ≠ 0) : volE b v = chkE b ∧ volN b v = 0 := by
  have : volE b v = chkE b := by unfold volE; rw [if_pos h]
  unfold volN
  rw [this, if_pos h]
  exact ⟨rfl, rfl⟩
theorem vol_7 {b : Bas} {v : Int} (h : chkE b = 0) (h1 : outB v (b.row 0).level 20000 = true) : volE b v = 7 ∧ volN b v = 0 := by
  have : volE b v = 7 := by unfold volE; rw [if_neg (by simp [h]), if_pos h1]
  unfold volN
  rw [this, if_pos (by decide)]
  exact ⟨rfl, rfl⟩
theorem vol_0 {b : Bas} {v : Int} (h : chkE b = 0) (h1 : outB v (b.row 0).level 20000 = false) : volE b v = 0 ∧ volN b v = volOf b v := by
  have : volE b v = 0 := by unfold volE; rw [if_neg (by simp [h]), if_neg (by simp [h1])]
  unfold volN
  rw [this, if_neg (by decide)]
  exact ⟨rfl, rfl⟩
end Go.Proofs.YtmpaiphakjogjaaGreat.Bs
namespace Go.Proofs.YtmpaiphakjogjaaGreat.X
open Go Go.RowKit Go.Proofs.YtmpaiphakjogjaaGreat.Bs
section
variable {N : Nat} {B : Nat} {w0 : World} {ds : List Deferred} {F : Fr} {L : Lo} {pu : Prop} {dst : Option Tmp} {ty : TypeId} {p : String} {af : Array Edge} {gd : Option (Nat × Bool)}
end
set_option maxHeartbeats 4000000 in
theorem Level_any {p : BV} {b : Bas} {v : Int} {w : World} (hb : BasAt w w.heap.size p b) :
    Calls Tryz.prog 88 #[basV p b, .int .i64 v] w fun e w' => e = .returned (.tuple ⟨[spanV (lvlLo b v) (lvlHi b v), .int .i64 (lvlE b v)]⟩) ∧ Below w.heap.size w w' := by
  obtain ⟨A, n, c, A2, n2, c2⟩ := p
  have hn := hb.n_eq
  simp only at hn
  subst hn
  have hmax := hb.len
  simp only at hmax
  simp only [basV, basC]
  refine enter Tryz.func88 rfl Tryz.ntmps88 rfl ?_; simp only [frame, Nat.zero_add, Nat.reduceAdd]
  repeat (first | (refine M0 ?_; first | refine SL ?_ | refine SB fun _ _ => ?_ | refine Y4 (Ev.call (f := 108) (ck rfl) rfl (fun w S => (valid_any (hb.sys S) :))) ?_) | (refine M1 ?_; first | refine SC ?_ | refine SD ?_) | (refine M2 ?_; refine SE ?_) | (refine M3 ?_; first | refine SG ?_ | refine SF ?_ | refine YF (Ev.call (f := 108) (ck rfl) rfl (fun w S => (valid_any (hb.sys S) :))) ?_) | (refine M4 ?_; refine SR ?_) | (refine M5 ?_; first | exact M7 | refine YM ?_ | refine YN ?_ ?_))
  refine XC.cond _ rfl (fun h => ?_) (fun h => ?_)
  · have hE : chkE b ≠ 0 := by simpa using h
    obtain ⟨e1, e2, e3⟩ := lvl_c (v := v) hE
    repeat (first | (refine M0 ?_; first | refine SL ?_ | refine SB fun _ _ => ?_) | (refine M1 ?_; first | refine SC ?_ | refine SD ?_) | (refine M2 ?_; refine SE ?_) | (refine M3 ?_; first | refine SG ?_ | refine SF ?_) | (refine M4 ?_; refine SR ?_) | (refine M5 ?_; first | exact M7 | refine YM ?_ | refine YN ?_ ?_))
    refine XE.retg tok Tryz.results88 rfl (by simp only [and_self, and_true]) (fun w' S => ?_)
    rw [e1, e2, e3]
    exact ⟨rfl, S.toBelow⟩
  have hE : chkE b = 0 := by simpa using h
  have ho := (ok_of hE).rowsOk
  have h2 := ho.n2
  obtain ⟨ad, rfl, hlt⟩ := hb.rows.addr (by simp only; omega)
  repeat (first | (refine M0 ?_; first | refine SL ?_ | refine SB fun _ _ => ?_ | refine Y4 (Ev.load_old tok rfl rfl (add_lt2 hlt) (hb.rowVol (i := 0) (by omega))) ?_ | refine Y4 (Ev.call (f := 109) (ck rfl) rfl (fun w S => out_any _ _ _ w)) ?_) | (refine M1 ?_; first | refine SC ?_ | refine SD ?_) | (refine M2 ?_; refine SE ?_) | (refine M3 ?_; first | refine SG ?_ | refine SF ?_ | refine YF (Ev.load_old tok rfl rfl (add_lt2 hlt) (hb.rowVol (i := 0) (by omega))) ?_ | refine YF (Ev.call (f := 109) (ck rfl) rfl (fun w S => out_any _ _ _ w)) ?_) | (refine M4 ?_; refine SR ?_) | (refine M5 ?_; first | exact M7 | refine YM ?_ | refine YN ?_ ?_))
  refine XC.cond _ rfl (fun h4 => ?_) (fun h4 => ?_)
  · obtain ⟨e1, e2, e3⟩ := lvl_7 hE h4
    repeat (first | (refine M0 ?_; first | refine SL ?_ | refine SB fun _ _ => ?_) | (refine M1 ?_; first | refine SC ?_ | refine SD ?_) | (refine M2 ?_; refine SE ?_) | (refine M3 ?_; first | refine SG ?_ | refine SF ?_) | (refine M4 ?_; refine SR ?_) | (refine M5 ?_; first | exact M7 | refine YM ?_ | refine YN ?_ ?_))
    refine XE.retg tok Tryz.results88 rfl (by simp only [and_self, and_true]) (fun w' S => ?_)
    rw [e1, e2, e3]
    exact ⟨rfl, S.toBelow⟩
  obtain ⟨e1, e2, e3⟩ := lvl_0 hE h4
  have hv := outB_f.1 h4
  have hd := den_pos ho v
  have hnb := num_bd ho hv
  repeat (first | (refine M0 ?_; first | refine SL ?_ | refine SB fun _ _ => ?_ | refine Y4 (Ev.call (f := 110) (ck rfl) rfl (fun w S => (exact_any (p := ⟨some ad, b.rows.length, c, A2, n2, c2⟩) (hb.sys S) ho hv :))) ?_ | refine Y4 (Ev.makeI ratio_con rfl) ?_ | refine Y4 (Ev.invoke (t := 174) span_m (ck rfl) rfl rfl (fun w S => (span_any (n := num b v) (d := den b v) hd.1 (by omega) w :))) ?_) | (refine M1 ?_; first | refine SC ?_ | refine SD ?_) | (refine M2 ?_; refine SE ?_) | (refine M3 ?_; first | refine SG ?_ | refine SF ?_ | refine YF (Ev.call (f := 110) (ck rfl) rfl (fun w S => (exact_any (p := ⟨some ad, b.rows.length, c, A2, n2, c2⟩) (hb.sys S) ho hv :))) ?_ | refine YF (Ev.makeI ratio_con rfl) ?_ | refine YF (Ev.invoke (t := 174) span_m (ck rfl) rfl rfl (fun w S => (span_any (n := num b v) (d := den b v) hd.1 (by omega) w :))) ?_) | (refine M4 ?_; refine SR ?_) | (refine M5 ?_; first | exact M7 | refine YM ?_ | refine YN ?_ ?_))
  refine XE.retg tok Tryz.results88 rfl (by simp only [and_self, and_true]) (fun w' S => ?_)
  rw [e1, e2, e3]
  exact ⟨rfl, S.toBelow⟩
set_option maxHeartbeats 4000000 in
theorem refLevel_any {p : BV} {b : Bas} {v : Int} {w : World} (hb : BasAt w w.heap.size p b) :
    Calls Tryz.prog 91 #[basV p b, .int .i64 v] w fun e w' => e = .returned (.tuple ⟨[spanV (lvlLo b v) (lvlHi b v), .int .i64 (lvlE b v)]⟩) ∧ Below w.heap.size w w' := by
  simp only [basV, basC]
  refine enter Tryz.func91 rfl Tryz.ntmps91 rfl ?_; simp only [frame, Nat.zero_add, Nat.reduceAdd]
  repeat (first | (refine M0 ?_; first | refine SL ?_ | refine SB fun _ _ => ?_ | refine Y4 (Ev.call (f := 111) (ck rfl) rfl (fun w S => (good_any (hb.sys S) :))) ?_) | (refine M1 ?_; first | refine SC ?_ | refine SD ?_) | (refine M2 ?_; refine SE ?_) | (refine M3 ?_; first | refine SG ?_ | refine SF ?_ | refine YF (Ev.call (f := 111) (ck rfl) rfl (fun w S => (good_any (hb.sys S) :))) ?_) | (refine M4 ?_; refine SR ?_) | (refine M5 ?_; first | exact M7 | refine YM ?_ | refine YN ?_ ?_))
  refine XL.split _ _ rfl (fun h0 => ?_) (fun h0 => ?_) <;> rw [h0]
  rotate_left
  · have hE : chkE b ≠ 0 := by simpa using h0
    obtain ⟨e1, e2, e3⟩ := lvl_c (v := v) hE
    repeat (first | (refine M0 ?_; first | refine SL ?_ | refine SB fun _ _ => ?_) | (refine M1 ?_; first | refine SC ?_ | refine SD ?_) | (refine M2 ?_; refine SE ?_) | (refine M3 ?_; first | refine SG ?_ | refine SF ?_) | (refine M4 ?_; refine SR ?_) | (refine M5 ?_; first | exact M7 | refine YM ?_ | refine YN ?_ ?_))
    refine XC.cond _ rfl (fun h1 => ?_) (fun h1 => absurd hE (by simpa using h1))
    repeat (first | (refine M0 ?_; first | refine SL ?_ | refine SB fun _ _ => ?_) | (refine M1 ?_; first | refine SC ?_ | refine SD ?_) | (refine M2 ?_; refine SE ?_) | (refine M3 ?_; first | refine SG ?_ | refine SF ?_) | (refine M4 ?_; refine SR ?_) | (refine M5 ?_; first | exact M7 | refine YM ?_ | refine YN ?_ ?_))
    refine XE.retg tok Tryz.results91 rfl (by simp only [and_self, and_true]) (fun w' S => ?_)
    rw [e1, e2, e3]
    exact ⟨rfl, S.toBelow⟩
  have hE : chkE b = 0 := by simpa using h0
  have ho := (ok_of hE).rowsOk
  repeat (first | (refine M0 ?_; first | refine SL ?_ | refine SB fun _ _ => ?_ | refine Y4 (Ev.call (f := 116) (ck rfl) rfl (fun w S => (stored_any (p := p) (hb.sys S) ho v :))) ?_) | (refine M1 ?_; first | refine SC ?_ | refine SD ?_) | (refine M2 ?_; refine SE ?_) | (refine M3 ?_; first | refine SG ?_ | refine SF ?_ | refine YF (Ev.call (f := 116) (ck rfl) rfl (fun w S => (stored_any (p := p) (hb.sys S) ho v :))) ?_) | (refine M4 ?_; refine SR ?_) | (refine M5 ?_; first | exact M7 | refine YM ?_ | refine YN ?_ ?_))
  refine XC.cond _ rfl (fun h1 => ?_) (fun h1 => ?_)
  · have h4 : outB v (b.row 0).vol 1000000000 = true := by simpa using h1
    obtain ⟨e1, e2, e3⟩ := lvl_7 hE h4
    repeat (first | (refine M0 ?_; first | refine SL ?_ | refine SB fun _ _ => ?_) | (refine M1 ?_; first | refine SC ?_ | refine SD ?_) | (refine M2 ?_; refine SE ?_) | (refine M3 ?_; first | refine SG ?_ | refine SF ?_) | (refine M4 ?_; refine SR ?_) | (refine M5 ?_; first | exact M7 | refine YM ?_ | refine YN ?_ ?_))
    refine XE.retg tok Tryz.results91 rfl (by simp only [and_self, and_true]) (fun w' S => ?_)
    rw [e1, e2, e3]
    exact ⟨rfl, S.toBelow⟩
  have h4 : outB v (b.row 0).vol 1000000000 = false := by simpa using h1
  obtain ⟨e1, e2, e3⟩ := lvl_0 hE h4
  have hv := outB_f.1 h4
  have hd := den_pos ho v
  have hnb := num_bd ho hv
  have hfl := floor_bd (a := -(num b v)) hd.1
  have h5 : i64in (-((-(num b v)) / den b v)) := by unfold i64in; omega
  repeat (first | (refine M0 ?_; first | refine SL ?_ | refine SB fun _ _ => ?_) | (refine M1 ?_; first | refine SC ?_ | refine SD ?_) | (refine M2 ?_; refine SE ?_) | (refine M3 ?_; first | refine SG ?_ | refine SF ?_) | (refine M4 ?_; refine SR ?_) | (refine M5 ?_; first | exact M7 | refine YM ?_ | refine YN ?_ ?_))
  refine XC.cond _ rfl (fun h => absurd hE (by simpa using h)) (fun h => ?_)
  repeat (first | (refine M0 ?_; first | refine SL ?_ | refine SB fun _ _ => ?_ | refine Y4 (Ev.call (f := 117) (ck rfl) rfl (fun w S => (refExact_any (p := p) (hb.sys S) ho hv :))) ?_ | refine Y4 (Ev.call (f := 118) (vs := [.int .i64 (num b v), .int .i64 (den b v)]) (ck rfl) rfl (fun w S => (down_any (a := num b v) (b := den b v) hd.1 (by omega) w :))) ?_ | refine Y4 (Ev.call (f := 118) (vs := [.int .i64 (-(num b v)), .int .i64 (den b v)]) (ck rfl) rfl (fun w S => (down_any (a := -(num b v)) (b := den b v) hd.1 (by omega) w :))) ?_) | (refine M1 ?_; first | refine SC ?_ | refine SD ?_) | (refine M2 ?_; refine SE ?_) | (refine M3 ?_; first | refine SG ?_ | refine SF ?_ | refine YF (Ev.call (f := 117) (ck rfl) rfl (fun w S => (refExact_any (p := p) (hb.sys S) ho hv :))) ?_ | refine YF (Ev.call (f := 118) (vs := [.int .i64 (num b v), .int .i64 (den b v)]) (ck rfl) rfl (fun w S => (down_any (a := num b v) (b := den b v) hd.1 (by omega) w :))) ?_ | refine YF (Ev.call (f := 118) (vs := [.int .i64 (-(num b v)), .int .i64 (den b v)]) (ck rfl) rfl (fun w S => (down_any (a := -(num b v)) (b := den b v) hd.1 (by omega) w :))) ?_) | (refine M4 ?_; refine SR ?_) | (refine M5 ?_; first | exact M7 | refine YM ?_ | refine YN ?_ ?_))
  refine XE.retg tok Tryz.results91 rfl (by simp only [and_self, and_true]) (fun w' S => ?_)
  rw [e1, e2, e3]
  exact ⟨rfl, S.toBelow⟩
set_option maxHeartbeats 4000000 in
theorem most_any {p : BV} {b : Bas} {l : Int} {w : World} (hb : BasAt w w.heap.size p b) (ho : Ok b) (hl : outB l (b.row 0).level 20000 = false) :
    Calls Tryz.prog 113 #[basV p b, .int .i64 l] w fun e w' => e = .returned (.int .i64 (volOf b l)) ∧ Below w.heap.size w w' := by
  obtain ⟨A, n, c, A2, n2, c2⟩ := p
  have hn := hb.n_eq
  simp only at hn
  subst hn
  have hmax := hb.len
  simp only at hmax
  have h2 := ho.rowsOk.n2
  have hl' := outB_f.1 hl
  have hl0 := ho.rowsOk.level 0 (by omega)
  have hv0 := ho.rowsOk.vol 0 (by omega)
  obtain ⟨ad, rfl, hlt⟩ := hb.rows.addr (by simp only; omega)
  simp only [basV, basC]
  refine enter Tryz.func113 rfl Tryz.ntmps113 rfl ?_; simp only [frame, Nat.zero_add, Nat.reduceAdd]
  repeat (first | (refine M0 ?_; first | refine SL ?_ | refine SB fun _ _ => ?_ | refine Y4 (Ev.load_old tok rfl rfl (add_lt2 hlt) (hb.rowVol (i := 0) (by omega))) ?_) | (refine M1 ?_; first | refine SC ?_ | refine SD ?_) | (refine M2 ?_; refine SE ?_) | (refine M3 ?_; first | refine SG ?_ | refine SF ?_ | refine YF (Ev.load_old tok rfl rfl (add_lt2 hlt) (hb.rowVol (i := 0) (by omega))) ?_) | (refine M4 ?_; refine SR ?_) | (refine M5 ?_; first | exact M7 | refine YM ?_ | refine YN ?_ ?_))
  refine XC.loopk [1, 2] rfl (fun s' : Int × Int => [(5, .int .i64 s'.1), (6, .int .i64 s'.2)]) (fun _ => [_]) (fun _ => w)
    (fun s' => (b.row 0).vol ≤ s'.1 ∧ num b s'.1 ≤ l * den b s'.1 ∧ s'.1 < s'.2 ∧ s'.2 ≤ 1000000001 ∧ (s'.2 = 1000000001 ∨ l * den b s'.2 < num b s'.2)) (fun s' => (s'.2 - s'.1).toNat) ((b.row 0).vol, 1000000001)
    ⟨Int.le_refl _, most_low ho.rowsOk (by omega), by simp only; omega, by simp only; omega, .inl rfl⟩ ZZSUB (fun _ h => h) ?_
  rintro ⟨lo, hi⟩ ⟨h3, h4, h5, h6, h7⟩
  simp only at h3 h4 h5 h6 h7
  dsimp only [List.cons_append, List.nil_append]
  repeat (first | (refine M0 ?_; first | refine SL ?_ | refine SB fun _ _ => ?_) | (refine M1 ?_; first | refine SC ?_ | refine SD ?_) | (refine M2 ?_; refine SE ?_) | (refine M3 ?_; first | refine SG ?_ | refine SF ?_) | (refine M4 ?_; refine SR ?_) | (refine M5 ?_; first | exact M7 | refine YM ?_ | refine YN ?_ ?_))
  refine XC.cond _ rfl (fun h8 => ?_) (fun h8 => ?_)
  · have h9 : 1 < hi - lo := by simpa using h8
    have hq : (lo + hi).tdiv 2 = (lo + hi) / 2 := Int.tdiv_eq_ediv_of_nonneg (by omega)
    obtain ⟨m, hm⟩ : ∃ m, m = (lo + hi).tdiv 2 := ⟨_, rfl⟩
    have hm1 : lo < m ∧ m < hi := by omega
    have hvm : (b.row 0).vol ≤ m ∧ m ≤ 1000000000 := by omega
    have hmul := lim_in ho (lim := l) (by omega) m
    repeat (first | (refine M0 ?_; first | refine SL ?_ | refine SB fun _ _ => ?_) | (refine M1 ?_; first | refine SC ?_ | refine SD ?_) | (refine M2 ?_; refine SE ?_) | (refine M3 ?_; first | refine SG ?_ | refine SF ?_) | (refine M4 ?_; refine SR ?_) | (refine M5 ?_; first | exact M7 | refine YM ?_ | refine YN ?_ ?_))
    rw [← hm]
    repeat (first | (refine M0 ?_; first | refine SL ?_ | refine SB fun _ _ => ?_ | refine Y4 (Ev.call (f := 117) (ck rfl) rfl (fun w S => (refExact_any (p := ⟨some ad, b.rows.length, c, A2, n2, c2⟩) (hb.sys S) ho.rowsOk hvm :))) ?_) | (refine M1 ?_; first | refine SC ?_ | refine SD ?_) | (refine M2 ?_; refine SE ?_) | (refine M3 ?_; first | refine SG ?_ | refine SF ?_ | refine YF (Ev.call (f := 117) (ck rfl) rfl (fun w S => (refExact_any (p := ⟨some ad, b.rows.length, c, A2, n2, c2⟩) (hb.sys S) ho.rowsOk hvm :))) ?_) | (refine M4 ?_; refine SR ?_) | (refine M5 ?_; first | exact M7 | refine YM ?_ | refine YN ?_ ?_))
    refine XC.cond _ rfl (fun h10 => ?_) (fun h10 => ?_)
    · repeat (first | (refine M0 ?_; first | refine SL ?_ | refine SB fun _ _ => ?_) | (refine M1 ?_; first | refine SC ?_ | refine SD ?_) | (refine M2 ?_; refine SE ?_) | (refine M3 ?_; first | refine SG ?_ | refine SF ?_) | (refine M4 ?_; refine SR ?_) | (refine M5 ?_; first | exact M7 | refine YM ?_ | refine YN ?_ ?_))
      refine XE.round (s := (lo, hi)) (m, hi) ⟨hvm.1, by simpa using h10, hm1.2, h6, h7⟩ (by simp only; omega) ZZSUB (fun _ h => h)
    · repeat (first | (refine M0 ?_; first | refine SL ?_ | refine SB fun _ _ => ?_) | (refine M1 ?_; first | refine SC ?_ | refine SD ?_) | (refine M2 ?_; refine SE ?_) | (refine M3 ?_; first | refine SG ?_ | refine SF ?_) | (refine M4 ?_; refine SR ?_) | (refine M5 ?_; first | exact M7 | refine YM ?_ | refine YN ?_ ?_))
      refine XE.round (s := (lo, hi)) (lo, m) ⟨h3, h4, hm1.1, by simp only; omega, .inr (by simpa using h10)⟩ (by simp only; omega) ZZSUB (fun _ h => h)
  · have h9 : ¬ 1 < hi - lo := by simpa using h8
    repeat (first | (refine M0 ?_; first | refine SL ?_ | refine SB fun _ _ => ?_) | (refine M1 ?_; first | refine SC ?_ | refine SD ?_) | (refine M2 ?_; refine SE ?_) | (refine M3 ?_; first | refine SG ?_ | refine SF ?_) | (refine M4 ?_; refine SR ?_) | (refine M5 ?_; first | exact M7 | refine YM ?_ | refine YN ?_ ?_))
    refine XE.retg tok Tryz.results113 rfl (by simp only [and_self, and_true]) (fun w' S => ?_)
    rw [most_eq ho.rowsOk (by omega) h3 h4 h5 h6 h7 h9]
    exact ⟨rfl, S.toBelow⟩
set_option maxHeartbeats 4000000 in
theorem refVolume_any {p : BV} {b : Bas} {l : Int} {w : World} (hb : BasAt w w.heap.size p b) :
    Calls Tryz.prog 89 #[basV p b, .int .i64 l] w fun e w' => e = .returned (.tuple ⟨[.int .i64 (volN b l), .int .i64 (volE b l)]⟩) ∧ Below w.heap.size w w' := by
  simp only [basV, basC]
  refine enter Tryz.func89 rfl Tryz.ntmps89 rfl ?_; simp only [frame, Nat.zero_add, Nat.reduceAdd]
  repeat (first | (refine M0 ?_; first | refine SL ?_ | refine SB fun _ _ => ?_ | refine Y4 (Ev.call (f := 111) (ck rfl) rfl (fun w S => (good_any (hb.sys S) :))) ?_) | (refine M1 ?_; first | refine SC ?_ | refine SD ?_) | (refine M2 ?_; refine SE ?_) | (refine M3 ?_; first | refine SG ?_ | refine SF ?_ | refine YF (Ev.call (f := 111) (ck rfl) rfl (fun w S => (good_any (hb.sys S) :))) ?_) | (refine M4 ?_; refine SR ?_) | (refine M5 ?_; first | exact M7 | refine YM ?_ | refine YN ?_ ?_))
  refine XL.split _ _ rfl (fun h0 => ?_) (fun h0 => ?_) <;> rw [h0]
  rotate_left
  · have hE : chkE b ≠ 0 := by simpa using h0
    obtain ⟨e1, e2⟩ := vol_c (v := l) hE
    repeat (first | (refine M0 ?_; first | refine SL ?_ | refine SB fun _ _ => ?_) | (refine M1 ?_; first | refine SC ?_ | refine SD ?_) | (refine M2 ?_; refine SE ?_) | (refine M3 ?_; first | refine SG ?_ | refine SF ?_) | (refine M4 ?_; refine SR ?_) | (refine M5 ?_; first | exact M7 | refine YM ?_ | refine YN ?_ ?_))
    refine XC.cond _ rfl (fun h1 => ?_) (fun h1 => absurd hE (by simpa using h1))
    repeat (first | (refine M0 ?_; first | refine SL ?_ | refine SB fun _ _ => ?_) | (refine M1 ?_; first | refine SC ?_ | refine SD ?_) | (refine M2 ?_; refine SE ?_) | (refine M3 ?_; first | refine SG ?_ | refine SF ?_) | (refine M4 ?_; refine SR ?_) | (refine M5 ?_; first | exact M7 | refine YM ?_ | refine YN ?_ ?_))
    refine XE.retg tok Tryz.results89 rfl (by simp only [and_self, and_true]) (fun w' S => ?_)
    rw [e1, e2]
    exact ⟨rfl, S.toBelow⟩
  have hE : chkE b = 0 := by simpa using h0
  have ho := ok_of hE
  repeat (first | (refine M0 ?_; first | refine SL ?_ | refine SB fun _ _ => ?_ | refine Y4 (Ev.call (f := 112) (ck rfl) rfl (fun w S => (limited_any (p := p) (hb.sys S) ho.rowsOk l :))) ?_) | (refine M1 ?_; first | refine SC ?_ | refine SD ?_) | (refine M2 ?_; refine SE ?_) | (refine M3 ?_; first | refine SG ?_ | refine SF ?_ | refine YF (Ev.call (f := 112) (ck rfl) rfl (fun w S => (limited_any (p := p) (hb.sys S) ho.rowsOk l :))) ?_) | (refine M4 ?_; refine SR ?_) | (refine M5 ?_; first | exact M7 | refine YM ?_ | refine YN ?_ ?_))
  refine XC.cond _ rfl (fun h1 => ?_) (fun h1 => ?_)
  · have h4 : outB l (b.row 0).level 20000 = true := by simpa using h1
    obtain ⟨e1, e2⟩ := vol_7 hE h4
    repeat (first | (refine M0 ?_; first | refine SL ?_ | refine SB fun _ _ => ?_) | (refine M1 ?_; first | refine SC ?_ | refine SD ?_) | (refine M2 ?_; refine SE ?_) | (refine M3 ?_; first | refine SG ?_ | refine SF ?_) | (refine M4 ?_; refine SR ?_) | (refine M5 ?_; first | exact M7 | refine YM ?_ | refine YN ?_ ?_))
    refine XE.retg tok Tryz.results89 rfl (by simp only [and_self, and_true]) (fun w' S => ?_)
    rw [e1, e2]
    exact ⟨rfl, S.toBelow⟩
  have h4 : outB l (b.row 0).level 20000 = false := by simpa using h1
  obtain ⟨e1, e2⟩ := vol_0 hE h4
  repeat (first | (refine M0 ?_; first | refine SL ?_ | refine SB fun _ _ => ?_) | (refine M1 ?_; first | refine SC ?_ | refine SD ?_) | (refine M2 ?_; refine SE ?_) | (refine M3 ?_; first | refine SG ?_ | refine SF ?_) | (refine M4 ?_; refine SR ?_) | (refine M5 ?_; first | exact M7 | refine YM ?_ | refine YN ?_ ?_))
  refine XC.cond _ rfl (fun h => absurd hE (by simpa using h)) (fun h => ?_)
  repeat (first | (refine M0 ?_; first | refine SL ?_ | refine SB fun _ _ => ?_ | refine Y4 (Ev.call (f := 113) (ck rfl) rfl (fun w S => (most_any (p := p) (hb.sys S) ho h4 :))) ?_) | (refine M1 ?_; first | refine SC ?_ | refine SD ?_) | (refine M2 ?_; refine SE ?_) | (refine M3 ?_; first | refine SG ?_ | refine SF ?_ | refine YF (Ev.call (f := 113) (ck rfl) rfl (fun w S => (most_any (p := p) (hb.sys S) ho h4 :))) ?_) | (refine M4 ?_; refine SR ?_) | (refine M5 ?_; first | exact M7 | refine YM ?_ | refine YN ?_ ?_))
  refine XE.retg tok Tryz.results89 rfl (by simp only [and_self, and_true]) (fun w' S => ?_)
  rw [e1, e2]
  exact ⟨rfl, S.toBelow⟩
set_option maxHeartbeats 8000000 in
theorem Volume_any {p : BV} {b : Bas} {l : Int} {w : World} (hb : BasAt w w.heap.size p b) :
    Calls Tryz.prog 106 #[basV p b, .int .i64 l] w fun e w' => e = .returned (.tuple ⟨[.int .i64 (volN b l), .int .i64 (volE b l)]⟩) ∧ Below w.heap.size w w' := by
  obtain ⟨A, n, c, A2, n2, c2⟩ := p
  have hn := hb.n_eq
  simp only at hn
  subst hn
  have hmax := hb.len
  simp only at hmax
  simp only [basV, basC]
  refine enter Tryz.func106 rfl Tryz.ntmps106 rfl ?_; simp only [frame, Nat.zero_add, Nat.reduceAdd]
  repeat (first | (refine M0 ?_; first | refine SL ?_ | refine SB fun _ _ => ?_ | refine Y4 (Ev.call (f := 108) (ck rfl) rfl (fun w S => (valid_any (hb.sys S) :))) ?_) | (refine M1 ?_; first | refine SC ?_ | refine SD ?_) | (refine M2 ?_; refine SE ?_) | (refine M3 ?_; first | refine SG ?_ | refine SF ?_ | refine YF (Ev.call (f := 108) (ck rfl) rfl (fun w S => (valid_any (hb.sys S) :))) ?_) | (refine M4 ?_; refine SR ?_) | (refine M5 ?_; first | exact M7 | refine YM ?_ | refine YN ?_ ?_))
  refine XC.cond _ rfl (fun h => ?_) (fun h => ?_)
  · have hE : chkE b ≠ 0 := by simpa using h
    obtain ⟨e1, e2⟩ := vol_c (v := l) hE
    repeat (first | (refine M0 ?_; first | refine SL ?_ | refine SB fun _ _ => ?_) | (refine M1 ?_; first | refine SC ?_ | refine SD ?_) | (refine M2 ?_; refine SE ?_) | (refine M3 ?_; first | refine SG ?_ | refine SF ?_) | (refine M4 ?_; refine SR ?_) | (refine M5 ?_; first | exact M7 | refine YM ?_ | refine YN ?_ ?_))
    refine XE.retg tok Tryz.results106 rfl (by simp only [and_self, and_true]) (fun w' S => ?_)
    rw [e1, e2]
    exact ⟨rfl, S.toBelow⟩
  have hE : chkE b = 0 := by simpa using h
  have ho := (ok_of hE).rowsOk
  have h2 := ho.n2
  have h12 := ho.n12
  obtain ⟨ad, rfl, hlt⟩ := hb.rows.addr (by simp only; omega)
  repeat (first | (refine M0 ?_; first | refine SL ?_ | refine SB fun _ _ => ?_ | refine Y4 (Ev.load_old tok rfl rfl (add_lt2 hlt) (hb.rowLevel (i := 0) (by omega))) ?_ | refine Y4 (Ev.call (f := 109) (ck rfl) rfl (fun w S => out_any _ _ _ w)) ?_) | (refine M1 ?_; first | refine SC ?_ | refine SD ?_) | (refine M2 ?_; refine SE ?_) | (refine M3 ?_; first | refine SG ?_ | refine SF ?_ | refine YF (Ev.load_old tok rfl rfl (add_lt2 hlt) (hb.rowLevel (i := 0) (by omega))) ?_ | refine YF (Ev.call (f := 109) (ck rfl) rfl (fun w S => out_any _ _ _ w)) ?_) | (refine M4 ?_; refine SR ?_) | (refine M5 ?_; first | exact M7 | refine YM ?_ | refine YN ?_ ?_))
  refine XC.cond _ rfl (fun h4 => ?_) (fun h4 => ?_)
  · obtain ⟨e1, e2⟩ := vol_7 hE h4
    repeat (first | (refine M0 ?_; first | refine SL ?_ | refine SB fun _ _ => ?_) | (refine M1 ?_; first | refine SC ?_ | refine SD ?_) | (refine M2 ?_; refine SE ?_) | (refine M3 ?_; first | refine SG ?_ | refine SF ?_) | (refine M4 ?_; refine SR ?_) | (refine M5 ?_; first | exact M7 | refine YM ?_ | refine YN ?_ ?_))
    refine XE.retg tok Tryz.results106 rfl (by simp only [and_self, and_true]) (fun w' S => ?_)
    rw [e1, e2]
    exact ⟨rfl, S.toBelow⟩
  obtain ⟨e1, e2⟩ := vol_0 hE h4
  have hl := outB_f.1 h4
  obtain ⟨i1, i2, i3⟩ := lseg_spec ho hl.1
  repeat (first | (refine M0 ?_; first | refine SL ?_ | refine SB fun _ _ => ?_) | (refine M1 ?_; first | refine SC ?_ | refine SD ?_) | (refine M2 ?_; refine SE ?_) | (refine M3 ?_; first | refine SG ?_ | refine SF ?_) | (refine M4 ?_; refine SR ?_) | (refine M5 ?_; first | exact M7 | refine YM ?_ | refine YN ?_ ?_))
  refine XC.loopk [1, 2] rfl (fun i : Int => [(7, .int .i64 i)]) (fun _ => [_]) (fun _ => w)
    (fun i => (lseg b l : Int) ≤ i ∧ i ≤ (b.rows.length : Int) - 2 ∧ ∀ j : Nat, i < j → (j : Int) ≤ (b.rows.length : Int) - 2 → l < (b.row j).level) (fun i => i.toNat) ((b.rows.length : Int) - 2)
    ⟨by omega, Int.le_refl _, fun j h5 h6 => by omega⟩ ZZSUB (fun _ h => h) ?_
  rintro i ⟨h5, h6, h7⟩
  obtain ⟨k, rfl⟩ : ∃ k : Nat, i = (k : Int) := ⟨i.toNat, by omega⟩
  have hk : k + 1 < b.rows.length := by omega
  dsimp only [List.cons_append, List.nil_append]
  repeat (first | (refine M0 ?_; first | refine SL ?_ | refine SB fun _ _ => ?_ | refine Y4 (Ev.load_old tok rfl rfl (add_lt2 hlt) (hb.rowLevel (i := k) (by omega))) ?_) | (refine M1 ?_; first | refine SC ?_ | refine SD ?_) | (refine M2 ?_; refine SE ?_) | (refine M3 ?_; first | refine SG ?_ | refine SF ?_ | refine YF (Ev.load_old tok rfl rfl (add_lt2 hlt) (hb.rowLevel (i := k) (by omega))) ?_) | (refine M4 ?_; refine SR ?_) | (refine M5 ?_; first | exact M7 | refine YM ?_ | refine YN ?_ ?_))
  refine XC.cond _ rfl (fun h8 => ?_) (fun h8 => ?_)
  · have h9 : l < (b.row k).level := by simpa using h8
    have h10 : lseg b l ≠ k := fun e => by rw [← e] at h9; omega
    repeat (first | (refine M0 ?_; first | refine SL ?_ | refine SB fun _ _ => ?_) | (refine M1 ?_; first | refine SC ?_ | refine SD ?_) | (refine M2 ?_; refine SE ?_) | (refine M3 ?_; first | refine SG ?_ | refine SF ?_) | (refine M4 ?_; refine SR ?_) | (refine M5 ?_; first | exact M7 | refine YM ?_ | refine YN ?_ ?_))
    refine XE.round (s := (k : Int)) ((k : Int) - 1) ⟨by omega, by omega, fun j hj hj2 => ?_⟩ (by omega) ZZSUB (fun _ h => h)
    by_cases e : j = k
    · subst e; exact h9
    · exact h7 j (by omega) hj2
  · have h9 : (b.row k).level ≤ l := by
      have : ¬ l < (b.row k).level := by simpa using h8
      omega
    have hki : lseg b l = k := by
      rcases Nat.lt_or_ge (lseg b l) k with h10 | h10
      · have := i3 k h10 hk; omega
      · omega
    have hup := ho.levelUp k hk
    have hvp := ho.volUp k hk
    have v1 := ho.vol k (by omega)
    have v2 := ho.vol (k + 1) hk
    have l1 := ho.level k (by omega)
    have l2 := ho.level (k + 1) hk
    have hmul := mul_bd (X := 40000) (Y := 1000000000) (x := l - (b.row k).level) (y := (b.row (k + 1)).vol - (b.row k).vol) (by omega) (by omega)
    have hnn : 0 ≤ (l - (b.row k).level) * ((b.row (k + 1)).vol - (b.row k).vol) := Int.mul_nonneg (by omega) (by omega)
    have hdiv : ((l - (b.row k).level) * ((b.row (k + 1)).vol - (b.row k).vol)).tdiv ((b.row (k + 1)).level - (b.row k).level) = (l - (b.row k).level) * ((b.row (k + 1)).vol - (b.row k).vol) / ((b.row (k + 1)).level - (b.row k).level) := Int.tdiv_eq_ediv_of_nonneg hnn
    have hd0 : 0 ≤ (l - (b.row k).level) * ((b.row (k + 1)).vol - (b.row k).vol) / ((b.row (k + 1)).level - (b.row k).level) := Int.ediv_nonneg hnn (by omega)
    have hd1 : (l - (b.row k).level) * ((b.row (k + 1)).vol - (b.row k).vol) / ((b.row (k + 1)).level - (b.row k).level) ≤ (l - (b.row k).level) * ((b.row (k + 1)).vol - (b.row k).vol) := Int.ediv_le_self _ hnn
    repeat (first | (refine M0 ?_; first | refine SL ?_ | refine SB fun _ _ => ?_) | (refine M1 ?_; first | refine SC ?_ | refine SD ?_) | (refine M2 ?_; refine SE ?_) | (refine M3 ?_; first | refine SG ?_ | refine SF ?_) | (refine M4 ?_; refine SR ?_) | (refine M5 ?_; first | exact M7 | refine YM ?_ | refine YN ?_ ?_))
    refine XC.cutln [1] rfl (fun s : Nat × Nat => [(8, .pointer (some ⟨s.1, 0, none⟩)), (9, .pointer (some ⟨s.2, 0, none⟩))]) (fun s => [(s.1, cel 155 (rowC (b.row k))), (s.2, cel 155 (rowC (b.row (k + 1))))]) (fun s => w.heap.size ≤ s.1 ∧ w.heap.size ≤ s.2) ?_ ?_
    · refine XC.drawR _ [0, 1, 2, 3, 4, 5, 6, 7, 8, 9, 10] [11, 12, 13, 14] mixed (fun _ h => h) rfl (by kernel_rfl) ?_
      repeat (any_goals (first | (refine M0 ?_; first | refine SL ?_ | refine SB fun _ _ => ?_ | (refine XL.split _ _ rfl (fun h => ?_) (fun h => ?_) <;> rw [h]) | refine Y4 (Ev.load_old_agg tok (rowC (b.row k)) rfl rfl rfl (add_lt hlt) (hb.row (by omega))) ?_ | refine Y4 (Ev.load_old_agg tok (rowC (b.row (k + 1))) rfl rfl rfl (add_lt hlt) (hb.row hk)) ?_) | (refine M1 ?_; first | refine SC ?_ | refine SD ?_ | refine XC.cond _ rfl (fun h => ?_) (fun h => ?_)) | (refine M2 ?_; refine SE ?_) | (refine M3 ?_; first | refine SG ?_ | refine SF ?_ | (refine Fw.split _ _ rfl (fun h => ?_) (fun h => ?_) <;> rw [h]) | refine YF (Ev.load_old_agg tok (rowC (b.row k)) rfl rfl rfl (add_lt hlt) (hb.row (by omega))) ?_ | refine YF (Ev.load_old_agg tok (rowC (b.row (k + 1))) rfl rfl rfl (add_lt hlt) (hb.row hk)) ?_) | (refine M4 ?_; refine SR ?_) | (refine M5 ?_; first | exact M7 | refine YM ?_ | refine YN ?_ ?_)))
      all_goals
        refine XE.leaf (_, _) ZZSUB (fun _ S' => by first | exact S' | exact S'.perm (by repeat (first | exact List.Perm.refl _ | refine perm1 ?_ | refine List.Perm.cons _ ?_ | refine perm2 ?_)) | exact (S'.pop (by assumption)) | exact (S'.pop2 (by assumption))) ?_
        exact ⟨by assumption, by assumption⟩
    rintro ⟨g8, g9⟩ ⟨hg8, hg9⟩
    simp only at hg8 hg9
    simp only [rowC]
    dsimp only [List.cons_append, List.nil_append]
    refine XC.hint 8 2 (XC.hint 9 1 ?_)
    have hm1 : i64in ((l - (b.row k).level) * ((b.row (k + 1)).vol - (b.row k).vol)) := by unfold i64in; omega
    have hm2 : i64in ((b.row k).vol + ((l - (b.row k).level) * ((b.row (k + 1)).vol - (b.row k).vol)).tdiv ((b.row (k + 1)).level - (b.row k).level)) := by rw [hdiv]; unfold i64in; omega
    repeat (first | (refine M0 ?_; first | refine SL ?_ | refine SB fun _ _ => ?_) | (refine M1 ?_; first | refine SC ?_ | refine SD ?_) | (refine M2 ?_; refine SE ?_) | (refine M3 ?_; first | refine SG ?_ | refine SF ?_) | (refine M4 ?_; refine SR ?_) | (refine M5 ?_; first | exact M7 | refine YM ?_ | refine YN ?_ ?_))
    refine XE.retg tok Tryz.results106 rfl (by simp only [and_self, and_true]) (fun w' S => ?_)
    rw [e1, e2]
    refine ⟨?_, S.toBelow⟩
    unfold volOf volAt
    rw [hki, hdiv]
    rfl
end Go.Proofs.YtmpaiphakjogjaaGreat.X
namespace Go.Proofs.YtmpaiphakjogjaaGreat.Bs
section
variable {b : Bas} (h : Ok b)
include h
def takeQ (b : Bas) (i : Nat) (v : Int) : Int := (b.pol i).take * (num b v - (b.pol i).sill * den b v) / den b v
structure StaLe (b : Bas) (s s' : Sta) : Prop where
  vol : s.vol ≤ s'.vol
  fil : ∀ i, i < b.pols.length → s.f i ≤ s'.f i
structure TickLe (t t' : Tick) : Prop where
  outer : t.outer ≤ t'.outer
  river : t.river ≤ t'.river
  out : t'.out ≤ t.out
end
end Go.Proofs.YtmpaiphakjogjaaGreat.Bs
namespace Go.Proofs.YtmpaiphakjogjaaGreat.Bs
open Go Go.Proofs.YtmpaiphakjogjaaGreat.X
structure His where
  from_ : Int
  vals : List Int
structure CTk where
  b : Bas
  fil : List Int
  his : List His
  river : List Int
  out : Int
  limit : Int
  delay : Int
structure CPl where
  close : Int
  open_ : Int
deriving DecidableEq
def hs0 : His := ⟨0, []⟩
def CTk.h (t : CTk) (k : Nat) : His := t.his[k]?.getD hs0
def CTk.m (t : CTk) : Nat := t.his.length
def CTk.n (t : CTk) : Nat := (t.h 0).vals.length
def CTk.from_ (t : CTk) : Int := (t.h 0).from_
def CTk.v (t : CTk) (k i : Nat) : Int := at0 (t.h k).vals i
def hisErr (t : CTk) (k : Nat) : Int :=
  if (t.h k).from_ ≠ t.from_ ∨ (t.h k).vals.length ≠ t.n then 2
  else if outB (t.h k).from_ 0 (200000 - t.n + 1) || (t.h k).vals.any highB then 7 else 0
def filBad (t : CTk) : Bool := (List.range t.fil.length).any fun i => outB (at0 t.fil i) 0 (t.b.pol i).room
noncomputable def chkC (t : CTk) : Int × Int × Int :=
  if chkE t.b ≠ 0 then (1, 0, chkE t.b) else
  if outB t.m 1 8 || outB t.n 1 60 then (2, 0, 3) else
  match firstN (hisErr t) t.m with
  | some i => (2, i, hisErr t i)
  | none =>
    if t.river.length ≠ t.n then (3, 0, 2) else
    if (t.river.any fun v => outB v 0 10000000) = true then (3, 0, 7) else
    if t.fil.length ≠ t.b.pols.length then (4, 0, 2) else
    if outB t.out 0 10000000 || (outB t.limit (t.b.row 0).level 20000 || outB t.delay 0 30) then (4, 0, 7) else
    if filBad t = true then (4, 0, 7) else (0, 0, 0)
noncomputable def ctE (t : CTk) : Int := (chkC t).2.2
structure CtOk (t : CTk) : Prop where
  ok : Ok t.b
  chk : chkE t.b = 0
  m1 : 1 ≤ t.m
  m8 : t.m ≤ 8
  n1 : 1 ≤ t.n
  n60 : t.n ≤ 60
  from_ : ∀ k, k < t.m → (t.h k).from_ = t.from_
  len : ∀ k, k < t.m → (t.h k).vals.length = t.n
  frm : 0 ≤ t.from_ ∧ t.from_ ≤ 200000 - t.n + 1
  val : ∀ k i, k < t.m → i < t.n → -20000 ≤ t.v k i ∧ t.v k i ≤ 20000
  river : t.river.length = t.n
  riv : ∀ i, i < t.n → 0 ≤ at0 t.river i ∧ at0 t.river i ≤ 10000000
  filn : t.fil.length = t.b.pols.length
  fil : ∀ i, i < t.fil.length → 0 ≤ at0 t.fil i ∧ at0 t.fil i ≤ (t.b.pol i).room
  out : 0 ≤ t.out ∧ t.out ≤ 10000000
  lim : (t.b.row 0).level ≤ t.limit ∧ t.limit ≤ 20000
  dly : 0 ≤ t.delay ∧ t.delay ≤ 30
theorem any_at {l : List Int} {p : Int → Bool} (h : l.any p = false) {i : Nat} (hi : i < l.length) : p (at0 l i) = false := by
  rw [List.any_eq_false] at h
  have := h l[i] (List.getElem_mem hi)
  unfold at0
  rw [List.getElem?_eq_getElem hi]
  simpa using this
theorem firstC_val {f : Nat → Int} {n i : Nat} (h : firstN f n = some i) : i < n ∧ f i ≠ 0 ∧ ∀ j, j < i → f j = 0 := by
  induction n with
  | zero => cases h
  | succ n ih =>
    simp only [firstN] at h
    cases hx : firstN f n with
    | some j =>
      rw [hx] at h
      cases h
      obtain ⟨a, b, c⟩ := ih hx
      exact ⟨by omega, b, c⟩
    | none =>
      rw [hx] at h
      simp only at h
      by_cases hf : f n = 0
      · rw [if_pos hf] at h; cases h
      · rw [if_neg hf] at h
        cases h
        exact ⟨by omega, hf, firstN_none_iff hx⟩
theorem hisErr_0 {t : CTk} {k : Nat} (h : hisErr t k = 0) : (t.h k).from_ = t.from_ ∧ (t.h k).vals.length = t.n ∧ (0 ≤ t.from_ ∧ t.from_ ≤ 200000 - t.n + 1) ∧ ∀ i, i < t.n → -20000 ≤ t.v k i ∧ t.v k i ≤ 20000 := by
  unfold hisErr at h
  split at h
  · cases h
  rename_i h1
  split at h
  · cases h
  rename_i h2
  simp only [Bool.or_eq_true, not_or, Bool.not_eq_true] at h2
  have h3 : (t.h k).from_ = t.from_ ∧ (t.h k).vals.length = t.n := ⟨Decidable.byContradiction fun h => h1 (.inl h), Decidable.byContradiction fun h => h1 (.inr h)⟩
  have h4 := outB_f.1 h2.1
  rw [h3.1] at h4
  exact ⟨h3.1, h3.2, h4, fun i hi => outB_f.1 (any_at h2.2 (by rw [h3.2]; exact hi))⟩
theorem ctOk_of {t : CTk} (h : ctE t = 0) : CtOk t := by
  unfold ctE chkC at h
  split at h
  · rename_i h1; exact absurd h h1
  rename_i h1
  have hc : chkE t.b = 0 := by simpa using h1
  split at h
  · cases h
  rename_i h2
  simp only [Bool.or_eq_true, not_or, Bool.not_eq_true] at h2
  have a1 := outB_f.1 h2.1
  have a2 := outB_f.1 h2.2
  split at h
  · rename_i i hi
    exact absurd h (firstC_val hi).2.1
  rename_i h3
  have h3' := firstN_none_iff h3
  split at h
  · cases h
  rename_i h4
  split at h
  · cases h
  rename_i h5
  split at h
  · cases h
  rename_i h6
  split at h
  · cases h
  rename_i h7
  split at h
  · cases h
  rename_i h8
  simp only [Bool.or_eq_true, not_or, Bool.not_eq_true] at h7
  have hr : t.river.length = t.n := by simpa using h4
  refine ⟨ok_of hc, hc, by omega, by omega, by omega, by omega, fun k hk => (hisErr_0 (h3' k hk)).1, fun k hk => (hisErr_0 (h3' k hk)).2.1, (hisErr_0 (h3' 0 (by omega))).2.2.1, fun k i hk hi => (hisErr_0 (h3' k hk)).2.2.2 i hi, hr,
    fun i hi => outB_f.1 (any_at (p := fun v => outB v 0 10000000) (by simpa using h5) (by rw [hr]; exact hi)), by simpa using h6, fun i hi => ?_, outB_f.1 h7.1, outB_f.1 h7.2.1, outB_f.1 h7.2.2⟩
  unfold filBad at h8
  rw [Bool.not_eq_true, List.any_eq_false] at h8
  exact outB_f.1 (by simpa using h8 i (by simpa using hi))
def CTk.highAt (t : CTk) (i : Nat) : Bool := (List.range t.m).any fun k => decide (t.limit < t.v k i)
def CTk.qTo (t : CTk) : Nat → Nat
  | 0 => 0
  | i + 1 => if t.highAt i = true then i + 1 else t.qTo i
def CTk.q (t : CTk) : Nat := t.qTo t.n
theorem qTo_spec (t : CTk) : ∀ n, t.qTo n ≤ n ∧ (t.qTo n = 0 ∨ ∃ i, t.qTo n = i + 1 ∧ t.highAt i = true) ∧ ∀ i, t.qTo n ≤ i → i < n → t.highAt i = false := by
  intro n
  induction n with
  | zero => exact ⟨Nat.le_refl _, .inl rfl, fun i _ h => by omega⟩
  | succ n ih =>
    unfold CTk.qTo
    split
    · rename_i h
      exact ⟨Nat.le_refl _, .inr ⟨n, rfl, h⟩, fun i h1 h2 => by omega⟩
    · rename_i h
      refine ⟨by omega, ih.2.1, fun i h1 h2 => ?_⟩
      rcases Nat.lt_or_ge i n with h3 | h3
      · exact ih.2.2 i h1 h3
      · have : i = n := by omega
        subst this
        simpa using h
theorem q_eq {t : CTk} {q : Nat} (h1 : q ≤ t.n) (h2 : q = 0 ∨ ∃ i, q = i + 1 ∧ t.highAt i = true) (h3 : ∀ i, q ≤ i → i < t.n → t.highAt i = false) : q = t.q := by
  obtain ⟨a1, a2, a3⟩ := qTo_spec t t.n
  show q = t.qTo t.n
  rcases Nat.lt_trichotomy q (t.qTo t.n) with h | h | h
  · rcases a2 with a2 | ⟨i, a2, a4⟩
    · omega
    · rw [h3 i (by omega) (by omega)] at a4; cases a4
  · exact h
  · rcases h2 with h2 | ⟨i, h2, h4⟩
    · omega
    · rw [a3 i (by omega) (by omega)] at h4; cases h4
theorem high_f {t : CTk} {i : Nat} : t.highAt i = false ↔ ∀ k, k < t.m → t.v k i ≤ t.limit := by
  unfold CTk.highAt
  rw [List.any_eq_false]
  simp
theorem high_t {t : CTk} {i : Nat} : t.highAt i = true ↔ ∃ k, k < t.m ∧ t.limit < t.v k i := by
  unfold CTk.highAt
  rw [List.any_eq_true]
  simp
def CTk.last (t : CTk) : Int := t.n - 1 - t.delay
def nev : CPl := ⟨-1, -1⟩
def CTk.plan (t : CTk) (i : Int) : CPl := ⟨t.from_ + i, t.from_ + max (t.q : Int) (i + t.delay + 1)⟩
def CTk.strange (t : CTk) (p : CPl) : Bool := decide (p ≠ nev) && (outB p.close t.from_ (t.from_ + t.last) || outB p.open_ (p.close + t.delay + 1) (t.from_ + t.n))
def CTk.tick (t : CTk) (k i : Nat) : Tick := ⟨t.v k i, at0 t.river i, t.out⟩
def CTk.vol0 (t : CTk) (k s : Nat) : Int := volOf t.b (max (t.v k s) (t.b.row 0).level)
def CTk.rs (t : CTk) (k s : Nat) : Nat → Option Sta
  | 0 => some ⟨t.vol0 k s, t.fil⟩
  | j + 1 => match t.rs k s j with
    | none => none
    | some st => if stepE t.b st (t.tick k (s + j)) = 0 then some (outS t.b st (t.tick k (s + j))) else none
def CTk.vols (t : CTk) (k s m : Nat) : List Int := (List.range m).filterMap fun j => (t.rs k s j).map (·.vol)
theorem rs_none {t : CTk} {k s : Nat} {i j : Nat} (hij : i ≤ j) (h : t.rs k s i = none) : t.rs k s j = none := by
  induction j with
  | zero => have : i = 0 := by omega
            subst this; exact h
  | succ j ih =>
    rcases Nat.lt_or_ge i (j + 1) with h1 | h1
    · unfold CTk.rs; rw [ih (by omega)]
    · have : i = j + 1 := by omega
      subst this; exact h
theorem vols_succ (t : CTk) (k s m : Nat) : t.vols k s (m + 1) = t.vols k s m ++ ((t.rs k s m).map (·.vol)).toList := by
  unfold CTk.vols
  rw [List.range_succ, List.filterMap_append]
  cases h : t.rs k s m <;> simp [h]
theorem vols_len {t : CTk} {k s : Nat} : ∀ {m j : Nat} {st : Sta}, j ≤ m → t.rs k s j = some st → j ≤ (t.vols k s m).length := by
  intro m
  induction m with
  | zero => intro j st hj _; omega
  | succ m ih =>
    intro j st hj h
    rw [vols_succ, List.length_append]
    rcases Nat.lt_or_ge m j with h1 | h1
    · have : j = m + 1 := by omega
      subst this
      cases hm : t.rs k s m with
      | none => rw [rs_none (by omega) hm] at h; cases h
      | some x => have := ih (Nat.le_refl m) hm; simp; omega
    · have := ih h1 h; omega
theorem vols_le {t : CTk} {k s : Nat} : ∀ {m : Nat}, (t.vols k s m).length ≤ m := by
  intro m
  induction m with
  | zero => simp [CTk.vols]
  | succ m ih =>
    rw [vols_succ, List.length_append]
    have : ((t.rs k s m).map (·.vol)).toList.length ≤ 1 := by cases t.rs k s m <;> simp
    omega
theorem vols_full {t : CTk} {k s m : Nat} {st : Sta} (h : t.rs k s m = some st) : (t.vols k s m).length = m := by
  have := vols_len (Nat.le_refl m) h
  have := @vols_le t k s m
  omega
theorem vols_at {t : CTk} {k s : Nat} : ∀ {m j : Nat}, j < m → (t.vols k s m)[j]? = (t.rs k s j).map (·.vol) := by
  intro m
  induction m with
  | zero => intro j h; omega
  | succ m ih =>
    intro j hj
    rw [vols_succ]
    rcases Nat.lt_or_ge j m with h | h
    · cases hr : t.rs k s j with
      | none =>
        have h1 := ih h
        rw [hr] at h1
        have h2 : (t.vols k s m).length ≤ j := by simpa using h1
        have h3 : t.rs k s m = none := rs_none (by omega) hr
        rw [h3]
        simpa using h2
      | some st =>
        have h1 := ih h
        rw [hr] at h1
        rw [List.getElem?_append_left (List.getElem?_eq_some_iff.1 h1).1, h1]
    · have : j = m := by omega
      subst this
      cases hr : t.rs k s j with
      | none =>
        have h2 := @vols_le t k s j
        simp only [Option.map_none, Option.toList_none, List.append_nil]
        exact List.getElem?_eq_none h2
      | some st =>
        have h2 := vols_full hr
        rw [List.getElem?_append_right (by omega), h2]
        simp
theorem vols_stop {t : CTk} {k s m m' : Nat} (h : t.rs k s m = none) (hm : m ≤ m') : t.vols k s m' = t.vols k s m := by
  induction m' with
  | zero => have : m = 0 := by omega
            subst this; rfl
  | succ m' ih =>
    rcases Nat.lt_or_ge m (m' + 1) with h1 | h1
    · rw [vols_succ, ih (by omega), rs_none (by omega) h]; simp
    · have : m = m' + 1 := by omega
      subst this; rfl
theorem rs_ok {t : CTk} (ho : CtOk t) {k s : Nat} (hk : k < t.m) (hs : s < t.n) : ∀ {j : Nat} {st : Sta}, t.rs k s j = some st → StaOk t.b st := by
  intro j
  induction j with
  | zero =>
    intro st h
    simp only [CTk.rs, Option.some.injEq] at h
    subst h
    have h1 : (t.b.row 0).level ≤ max (t.v k s) (t.b.row 0).level := by omega
    exact ⟨ho.filn, volOf_ge ho.ok.rowsOk h1, fun i hi => ho.fil i (by rw [ho.filn]; exact hi)⟩
  | succ j ih =>
    intro st h
    simp only [CTk.rs] at h
    cases hr : t.rs k s j with
    | none => rw [hr] at h; cases h
    | some x =>
      rw [hr] at h
      simp only at h
      split at h
      · rename_i he
        cases h
        rw [outS, if_pos he]
        exact stepS_ok ho.ok (ih hr) he
      · cases h
structure Lv where
  shut : Bool
  n : Int
def CTk.shutI (t : CTk) (p : CPl) : Int := p.close - t.from_ + t.delay
def CTk.isOpen (t : CTk) (p : CPl) (i : Nat) : Bool := decide (p = nev) || (decide ((i : Int) ≤ t.shutI p) || decide (p.open_ - t.from_ ≤ (i : Int)))
def CTk.ins (t : CTk) (k : Nat) (p : CPl) (i : Nat) : Option Lv :=
  if t.isOpen p i = true then some ⟨false, t.v k i⟩
  else (t.rs k (t.shutI p).toNat (i - (t.shutI p).toNat)).map fun st => ⟨true, st.vol⟩
noncomputable def CTk.lo (t : CTk) (x : Lv) : Int := if x.shut = true then lvlLo t.b x.n else x.n
noncomputable def CTk.hi (t : CTk) (x : Lv) : Int := if x.shut = true then lvlHi t.b x.n else x.n
noncomputable def CTk.above (t : CTk) (k : Nat) (p : CPl) (i : Nat) : Bool := match t.ins k p i with
  | none => true
  | some x => decide (t.limit < t.hi x)
def firstB (f : Nat → Bool) : Nat → Option Nat
  | 0 => none
  | n + 1 => match firstB f n with
    | some i => some i
    | none => if f n = true then some n else none
theorem firstB_none {f : Nat → Bool} : ∀ {n : Nat}, firstB f n = none ↔ ∀ j, j < n → f j = false := by
  intro n
  induction n with
  | zero => simp [firstB]
  | succ n ih =>
    unfold firstB
    cases hx : firstB f n with
    | some i =>
      constructor
      · intro h; cases h
      · intro h
        rw [ih.2 fun j hj => h j (by omega)] at hx; cases hx
    | none =>
      simp only
      have h0 := ih.1 hx
      constructor
      · intro h j hj
        rcases Nat.lt_or_ge j n with h1 | h1
        · exact h0 j h1
        · have : j = n := by omega
          subst this
          by_cases h2 : f j = true
          · rw [if_pos h2] at h; cases h
          · simpa using h2
      · intro h
        rw [if_neg (by simp [h n (by omega)])]
theorem firstB_some {f : Nat → Bool} : ∀ {n i : Nat}, firstB f n = some i ↔ i < n ∧ f i = true ∧ ∀ j, j < i → f j = false := by
  intro n
  induction n with
  | zero => intro i; simp [firstB]
  | succ n ih =>
    intro i
    unfold firstB
    cases hx : firstB f n with
    | some i' =>
      obtain ⟨a1, a2, a3⟩ := ih.1 hx
      constructor
      · intro h; cases h; exact ⟨by omega, a2, a3⟩
      · rintro ⟨b1, b2, b3⟩
        show some i' = some i
        congr 1
        rcases Nat.lt_trichotomy i' i with h | h | h
        · rw [b3 i' h] at a2; cases a2
        · exact h
        · rw [a3 i h] at b2; cases b2
    | none =>
      have h0 := firstB_none.1 hx
      simp only
      constructor
      · intro h
        by_cases h2 : f n = true
        · rw [if_pos h2] at h; cases h; exact ⟨by omega, h2, h0⟩
        · rw [if_neg h2] at h; cases h
      · rintro ⟨b1, b2, b3⟩
        have : i = n := by
          rcases Nat.lt_or_ge i n with h1 | h1
          · rw [h0 i h1] at b2; cases b2
          · omega
        subst this
        rw [if_pos b2]
noncomputable def CTk.fails (t : CTk) (k : Nat) (p : CPl) : Option Nat := firstB (t.above k p) t.n
noncomputable def CTk.holds (t : CTk) (k : Nat) (p : CPl) : Bool := (t.fails k p).isNone
noncomputable def CTk.holdL (t : CTk) (p : CPl) : List Bool := (List.range t.m).map fun k => t.holds k p
def CTk.alone (t : CTk) (k : Nat) : CTk := { t with his := [t.h k] }
def lastB (f : Nat → Bool) : Nat → Option Nat
  | 0 => none
  | n + 1 => if f n = true then some n else lastB f n
theorem lastB_none {f : Nat → Bool} : ∀ {n : Nat}, lastB f n = none ↔ ∀ j, j < n → f j = false := by
  intro n
  induction n with
  | zero => simp [lastB]
  | succ n ih =>
    unfold lastB
    by_cases h : f n = true
    · rw [if_pos h]
      constructor
      · intro h1; cases h1
      · intro h1; rw [h1 n (by omega)] at h; cases h
    · rw [if_neg h, ih]
      constructor
      · intro h1 j hj
        rcases Nat.lt_or_ge j n with h2 | h2
        · exact h1 j h2
        · have : j = n := by omega
          subst this; simpa using h
      · intro h1 j hj; exact h1 j (by omega)
theorem lastB_some {f : Nat → Bool} : ∀ {n i : Nat}, lastB f n = some i ↔ i < n ∧ f i = true ∧ ∀ j, i < j → j < n → f j = false := by
  intro n
  induction n with
  | zero => intro i; simp [lastB]
  | succ n ih =>
    intro i
    unfold lastB
    by_cases h : f n = true
    · rw [if_pos h]
      constructor
      · intro h1; cases h1; exact ⟨by omega, h, fun j h2 h3 => by omega⟩
      · rintro ⟨b1, b2, b3⟩
        congr 1
        rcases Nat.lt_or_ge i n with h2 | h2
        · rw [b3 n h2 (by omega)] at h; cases h
        · omega
    · rw [if_neg h, ih]
      constructor
      · rintro ⟨b1, b2, b3⟩
        refine ⟨by omega, b2, fun j h2 h3 => ?_⟩
        rcases Nat.lt_or_ge j n with h4 | h4
        · exact b3 j h2 h4
        · have : j = n := by omega
          subst this; simpa using h
      · rintro ⟨b1, b2, b3⟩
        have : i < n := by
          rcases Nat.lt_or_ge i n with h2 | h2
          · exact h2
          · have : i = n := by omega
            subst this; exact absurd b2 h
        exact ⟨this, b2, fun j h2 h3 => b3 j h2 (by omega)⟩
def CTk.beg (t : CTk) : Nat := (t.last + 1).toNat
end Go.Proofs.YtmpaiphakjogjaaGreat.Bs
namespace Go.Proofs.YtmpaiphakjogjaaGreat.Bs
open Go Go.Proofs.YtmpaiphakjogjaaGreat.X
structure CRu where
  count : Int
  early : Int
noncomputable def ruE (t : CTk) (r : CRu) : Int := if ctE t ≠ 0 then ctE t else if outB r.count 1 8 || outB r.early 0 60 then 7 else 0
structure RuOk (r : CRu) : Prop where
  count : 1 ≤ r.count ∧ r.count ≤ 8
  early : 0 ≤ r.early ∧ r.early ≤ 60
theorem ruE_0 {t : CTk} {r : CRu} (h : ruE t r = 0) : ctE t = 0 ∧ CtOk t ∧ RuOk r := by
  unfold ruE at h
  split at h
  · rename_i h1; exact absurd h h1
  rename_i h1
  split at h
  · cases h
  rename_i h2
  have h1' : ctE t = 0 := by simpa using h1
  simp only [Bool.or_eq_true, not_or, Bool.not_eq_true] at h2
  exact ⟨h1', ctOk_of h1', outB_f.1 h2.1, outB_f.1 h2.2⟩
def CTk.fst (t : CTk) (k : Nat) : Option Nat := firstB (fun i => decide (t.limit < t.v k i)) t.n
def CTk.fldTo (t : CTk) (k : Nat) : List Nat := (List.range k).filter fun j => (t.fst j).isSome
def CTk.fld (t : CTk) : List Nat := t.fldTo t.m
def CTk.lstTo (t : CTk) : Nat → Nat
  | 0 => t.n
  | k + 1 => match t.fst k with
    | none => t.lstTo k
    | some i => min (t.lstTo k) i
def CTk.lst (t : CTk) : Nat := t.lstTo t.m
theorem fldTo_succ (t : CTk) (k : Nat) : t.fldTo (k + 1) = t.fldTo k ++ (if (t.fst k).isSome = true then [k] else []) := by
  unfold CTk.fldTo
  rw [List.range_succ, List.filter_append]
  congr 1
  rw [List.filter_cons, List.filter_nil]
theorem lstTo_le (t : CTk) : ∀ k, t.lstTo k ≤ t.n := by
  intro k
  induction k with
  | zero => exact Nat.le_refl _
  | succ k ih =>
    unfold CTk.lstTo
    split
    · exact ih
    · omega
theorem fldTo_len (t : CTk) : ∀ k, (t.fldTo k).length ≤ k := by
  intro k
  have := List.length_filter_le (fun j => (t.fst j).isSome) (List.range k)
  simpa [CTk.fldTo] using this
def CTk.called (t : CTk) (r : CRu) : Bool := decide (r.count ≤ (t.fld.length : Int))
def CTk.frmI (t : CTk) (r : CRu) : Int := max 0 ((t.lst : Int) - r.early)
def CTk.may (t : CTk) (r : CRu) (i : Int) : Bool := t.called r && !outB i (t.frmI r) t.last
def CTk.allowed (t : CTk) (r : CRu) (tick : Int) : Bool := !outB tick t.from_ (t.from_ + t.n - 1) && t.may r (tick - t.from_)
noncomputable def CTk.wit (t : CTk) (i : Int) : Option (Nat × Nat) := match firstB (fun k => (t.fails k (t.plan i)).isSome) t.m with
  | none => none
  | some k => (t.fails k (t.plan i)).map fun a => (k, a)
noncomputable def CTk.notL (t : CTk) (i : Int) : List Nat := (List.range t.m).filter fun k => (t.fails k (t.plan i)).isSome
theorem wit_none {t : CTk} {i : Int} : t.wit i = none ↔ ∀ k, k < t.m → t.holds k (t.plan i) = true := by
  unfold CTk.wit
  cases h : firstB (fun k => (t.fails k (t.plan i)).isSome) t.m with
  | none =>
    have := firstB_none.1 h
    refine ⟨fun _ k hk => ?_, fun _ => rfl⟩
    have h1 := this k hk
    unfold CTk.holds
    cases hf : t.fails k (t.plan i) with
    | none => rfl
    | some a => rw [hf] at h1; cases h1
  | some k =>
    obtain ⟨a1, a2, a3⟩ := firstB_some.1 h
    obtain ⟨a, ha⟩ := Option.isSome_iff_exists.1 a2
    simp only
    rw [ha]
    constructor
    · intro h1; cases h1
    · intro h1
      have := h1 k a1
      unfold CTk.holds at this
      rw [ha] at this; cases this
theorem notL_nil {t : CTk} {i : Int} : t.notL i = [] ↔ t.wit i = none := by
  rw [wit_none]
  unfold CTk.notL CTk.holds
  rw [List.filter_eq_nil_iff]
  constructor
  · intro h k hk
    have := h k (by simpa using hk)
    cases hf : t.fails k (t.plan i) with
    | none => rfl
    | some a => rw [hf] at this; exact absurd rfl this
  · intro h k hk
    have := h k (by simpa using hk)
    cases hf : t.fails k (t.plan i) with
    | none => simp
    | some a => rw [hf] at this; cases this
def lvD : Option Lv → Lv
  | none => ⟨true, 0⟩
  | some x => x
noncomputable def CTk.gt (t : CTk) (x y : Lv) : Bool :=
  if x.shut = y.shut then decide (y.n < x.n) else if x.shut = true then decide (y.n < t.hi x) else decide (t.lo y < x.n)
noncomputable def CTk.pkTo (t : CTk) (k : Nat) (p : CPl) : Nat → Nat
  | 0 => 0
  | i + 1 => if 0 < i ∧ t.gt (lvD (t.ins k p i)) (lvD (t.ins k p (t.pkTo k p i))) = true then i else t.pkTo k p i
theorem pkTo_lt (t : CTk) (k : Nat) (p : CPl) : ∀ i, 0 < i → t.pkTo k p i < i := by
  intro i
  induction i with
  | zero => intro h; omega
  | succ i ih =>
    intro _
    unfold CTk.pkTo
    split
    · omega
    · rcases Nat.eq_zero_or_pos i with h | h
      · subst h; unfold CTk.pkTo; omega
      · have := ih h; omega
noncomputable def CTk.pkAt (t : CTk) (k : Nat) (p : CPl) : Int := t.from_ + t.pkTo k p t.n
noncomputable def CTk.pkLv (t : CTk) (k : Nat) (p : CPl) : Int := t.hi (lvD (t.ins k p (t.pkTo k p t.n)))
abbrev II := Int × Int
noncomputable def CTk.peak (t : CTk) (p : CPl) (k : Nat) : II := (t.pkAt k p, t.pkLv k p)
noncomputable def CTk.peaks (t : CTk) (p : CPl) : List II := (List.range t.m).map (t.peak p)
noncomputable def CTk.witC (t : CTk) (i : Int) : II := match t.wit i with
  | none => (0, 0)
  | some (k, a) => ((k : Nat), t.from_ + (a : Nat))
structure CDe where
  plan : CPl
  peaks : List II
  later : List II
def CDe.zero : CDe := ⟨⟨0, 0⟩, [], []⟩
noncomputable def CTk.lastOk (t : CTk) : Option Nat := lastB (fun i => (t.wit (i : Nat)).isNone) t.beg
noncomputable def CTk.laterL (t : CTk) (i : Nat) : List II := (List.range (t.beg - (i + 1))).map fun j => t.witC ((i + 1 + j : Nat) : Int)
noncomputable def CTk.decE (t : CTk) (r : CRu) : Int :=
  if ruE t r ≠ 0 then ruE t r else if t.called r = false then 0 else match t.lastOk with
  | none => 9
  | some i => if t.may r (i : Nat) = true then 0 else 9
noncomputable def CTk.decD (t : CTk) (r : CRu) : CDe :=
  if ruE t r ≠ 0 then CDe.zero else if t.called r = false then ⟨nev, t.peaks nev, []⟩ else match t.lastOk with
  | none => CDe.zero
  | some i => if t.may r (i : Nat) = true then ⟨t.plan (i : Nat), t.peaks (t.plan (i : Nat)), t.laterL i⟩ else CDe.zero
noncomputable def CTk.rules (t : CTk) (i : Int) (w : II) : Bool :=
  !outB w.1 0 ((t.m : Int) - 1) && (!outB w.2 t.from_ (t.from_ + t.n - 1) && t.above w.1.toNat (t.plan i) (w.2 - t.from_).toNat)
noncomputable def CTk.acc (t : CTk) (r : CRu) (d : CDe) : Int × Int :=
  if ruE t r ≠ 0 then (0, ruE t r) else
  if t.strange d.plan = true ∨ d.peaks.length ≠ t.m then (0, 2) else
  if (if d.plan = nev then t.called r else !t.may r (d.plan.close - t.from_)) = true then (0, 150) else
  if d.plan ≠ nev ∧ (d.plan ≠ t.plan (d.plan.close - t.from_) ∨ t.wit (d.plan.close - t.from_) ≠ none) then (0, 151) else
  match firstB (fun k => decide (d.peaks[k]?.getD (0, 0) ≠ t.peak d.plan k)) t.m with
  | some k => ((k : Nat), 152)
  | none =>
    if (d.later.length : Int) ≠ (if d.plan = nev then 0 else t.last - (d.plan.close - t.from_)) then (0, 2) else
    match firstB (fun k => !t.rules (d.plan.close - t.from_ + 1 + (k : Nat)) (d.later[k]?.getD (0, 0))) d.later.length with
    | some k => ((k : Nat), 153)
    | none => (0, 0)
noncomputable def CTk.bstTo (t : CTk) (r : CRu) : Nat → Option Nat
  | 0 => none
  | i + 1 => if t.may r (i : Nat) = true then match t.bstTo r i with
      | none => some i
      | some j => if (t.notL (i : Nat)).length ≤ (t.notL (j : Nat)).length then some i else some j
    else t.bstTo r i
noncomputable def CTk.bst (t : CTk) (r : CRu) : Option Nat := t.bstTo r t.n
noncomputable def CTk.bstE (t : CTk) (r : CRu) : Int :=
  if ruE t r ≠ 0 then ruE t r else if t.called r = false then 0 else match t.bst r with
  | none => 9
  | some _ => 0
noncomputable def CTk.bstP (t : CTk) (r : CRu) : CPl :=
  if ruE t r ≠ 0 then ⟨0, 0⟩ else if t.called r = false then nev else match t.bst r with
  | none => ⟨0, 0⟩
  | some i => t.plan (i : Nat)
noncomputable def CTk.bstN (t : CTk) (r : CRu) : List Int :=
  if ruE t r ≠ 0 then [] else if t.called r = false then t.fld.map fun k => ((k : Nat) : Int) else match t.bst r with
  | none => []
  | some i => (t.notL (i : Nat)).map fun k => ((k : Nat) : Int)
noncomputable def CTk.lasI (t : CTk) (k : Nat) : Option Nat := lastB (fun i => (t.alone k).holds 0 ((t.alone k).plan (i : Nat))) t.beg
noncomputable def CTk.lasE (t : CTk) (k : Int) : Int :=
  if ctE t ≠ 0 then ctE t else if outB k 0 ((t.m : Int) - 1) then 4 else match t.lasI k.toNat with
  | none => 9
  | some _ => 0
noncomputable def CTk.lasN (t : CTk) (k : Int) : Int :=
  if ctE t ≠ 0 then 0 else if outB k 0 ((t.m : Int) - 1) then 0 else match t.lasI k.toNat with
  | none => 0
  | some i => t.from_ + (i : Nat)
theorem alone_ok {t : CTk} (h : CtOk t) {k : Nat} (hk : k < t.m) : CtOk (t.alone k) := by
  have e0 : (t.alone k).h 0 = t.h k := rfl
  have en : (t.alone k).n = t.n := h.len k hk
  have ef : (t.alone k).from_ = t.from_ := h.from_ k hk
  refine ⟨h.ok, h.chk, Nat.le_refl _, by show 1 ≤ 8; decide, by rw [en]; exact h.n1, by rw [en]; exact h.n60, fun j hj => ?_, fun j hj => ?_, by rw [en, ef]; exact h.frm, fun j i hj hi => ?_, by rw [en]; exact h.river, fun i hi => h.riv i (by rw [en] at hi; exact hi), h.filn, h.fil, h.out, h.lim, h.dly⟩
  · have : j = 0 := by have : j < 1 := hj; omega
    subst this; rfl
  · have : j = 0 := by have : j < 1 := hj; omega
    subst this; rfl
  · have : j = 0 := by have : j < 1 := hj; omega
    subst this
    rw [en] at hi
    exact h.val k i hk hi
end Go.Proofs.YtmpaiphakjogjaaGreat.Bs
namespace Go.Proofs.YtmpaiphakjogjaaGreat.Bs
open Go Go.Proofs.YtmpaiphakjogjaaGreat.X
structure Same5 (t u : CTk) : Prop where
  b : u.b = t.b
  fil : u.fil = t.fil
  river : u.river = t.river
  out : u.out = t.out
  delay : u.delay = t.delay
  n : u.n = t.n
  from_ : u.from_ = t.from_
theorem lvl_in {t : CTk} (ht : CtOk t) {st : Sta} (h : StaOk t.b st) : lvlLo t.b st.vol = levLo t.b st.vol ∧ lvlHi t.b st.vol = levHi t.b st.vol := (lvl_0 ht.chk (outB_f.2 h.vol)).2
theorem holds_iff {t : CTk} {k : Nat} {p : CPl} : t.holds k p = true ↔ ∀ i, i < t.n → t.above k p i = false := by
  unfold CTk.holds CTk.fails
  rw [Option.isNone_iff_eq_none]
  exact firstB_none
theorem above_f {t : CTk} {k : Nat} {p : CPl} {i : Nat} : t.above k p i = false ↔ ∃ x, t.ins k p i = some x ∧ t.hi x ≤ t.limit := by
  unfold CTk.above
  cases h : t.ins k p i with
  | none => simp
  | some x => simp
theorem strange_f {t : CTk} {p : CPl} (hp : t.strange p = false) (hn : p ≠ nev) : (t.from_ ≤ p.close ∧ p.close ≤ t.from_ + t.last) ∧ (p.close + t.delay + 1 ≤ p.open_ ∧ p.open_ ≤ t.from_ + t.n) := by
  unfold CTk.strange at hp
  rw [decide_eq_true hn, Bool.true_and, Bool.or_eq_false_iff] at hp
  exact ⟨outB_f.1 hp.1, outB_f.1 hp.2⟩
theorem q_le (t : CTk) : t.q ≤ t.n := (qTo_spec t t.n).1
theorem plan_ok {t : CTk} (ht : CtOk t) {i : Int} (h0 : 0 ≤ i) (h1 : i ≤ t.last) : t.strange (t.plan i) = false ∧ t.plan i ≠ nev := by
  have hf := ht.frm
  have hd := ht.dly
  have hq := q_le t
  constructor
  · unfold CTk.strange
    rw [Bool.and_eq_false_iff]
    right
    rw [Bool.or_eq_false_iff]
    unfold CTk.last at h1
    constructor
    · exact outB_f.2 (by unfold CTk.plan CTk.last; simp only; omega)
    · exact outB_f.2 (by unfold CTk.plan; simp only; omega)
  · intro h
    have : (t.plan i).close = -1 := by rw [h]; rfl
    unfold CTk.plan at this
    simp only at this
    omega
end Go.Proofs.YtmpaiphakjogjaaGreat.Bs
namespace Go.Proofs.YtmpaiphakjogjaaGreat.Bs
open Go Go.Proofs.YtmpaiphakjogjaaGreat.X
theorem nev_ok (t : CTk) : t.strange nev = false := by unfold CTk.strange; simp
theorem beg_lt {t : CTk} {i : Nat} : i < t.beg ↔ (i : Int) ≤ t.last := by unfold CTk.beg; omega
theorem lastOk_some {t : CTk} {i : Nat} : t.lastOk = some i ↔ (i : Int) ≤ t.last ∧ t.wit (i : Nat) = none ∧ ∀ j : Nat, i < j → (j : Int) ≤ t.last → t.wit (j : Nat) ≠ none := by
  unfold CTk.lastOk
  rw [lastB_some, beg_lt]
  simp only [Option.isNone_iff_eq_none]
  constructor
  · rintro ⟨a, b, c⟩
    refine ⟨a, b, fun j h1 h2 h3 => ?_⟩
    have := c j h1 (beg_lt.2 h2)
    rw [h3] at this; cases this
  · rintro ⟨a, b, c⟩
    refine ⟨a, b, fun j h1 h2 => ?_⟩
    have := c j h1 (beg_lt.1 h2)
    cases h : t.wit (j : Nat) with
    | none => exact absurd h this
    | some _ => rfl
theorem decE_0 {t : CTk} {r : CRu} (h : t.decE r = 0) : ruE t r = 0 ∧ ((t.called r = false ∧ t.decD r = ⟨nev, t.peaks nev, []⟩) ∨ (t.called r = true ∧ ∃ i : Nat, t.lastOk = some i ∧ t.may r (i : Nat) = true ∧ t.decD r = ⟨t.plan (i : Nat), t.peaks (t.plan (i : Nat)), t.laterL i⟩)) := by
  unfold CTk.decE at h
  unfold CTk.decD
  split at h
  · rename_i h1; exact absurd h h1
  rename_i h1
  rw [if_neg h1]
  refine ⟨by simpa using h1, ?_⟩
  split at h
  · rename_i h2
    rw [if_pos h2]
    exact .inl ⟨h2, rfl⟩
  rename_i h2
  rw [if_neg h2]
  right
  refine ⟨by simpa using h2, ?_⟩
  cases hl : t.lastOk with
  | none => rw [hl] at h; cases h
  | some i =>
    rw [hl] at h
    simp only at h ⊢
    split at h
    · rename_i h3
      exact ⟨i, rfl, h3, by rw [if_pos h3]⟩
    · cases h
theorem may_in {t : CTk} {r : CRu} {i : Int} (h : t.may r i = true) : t.called r = true ∧ 0 ≤ i ∧ i ≤ t.last ∧ t.frmI r ≤ i := by
  unfold CTk.may at h
  simp only [Bool.and_eq_true, Bool.not_eq_true'] at h
  have := outB_f.1 h.2
  refine ⟨h.1, ?_, this.2, this.1⟩
  have h2 : 0 ≤ t.frmI r := by unfold CTk.frmI; omega
  omega
end Go.Proofs.YtmpaiphakjogjaaGreat.Bs
namespace Go.Proofs.YtmpaiphakjogjaaGreat.Bs
open Go Go.Proofs.YtmpaiphakjogjaaGreat.X
theorem any_of {l : List Int} {p : Int → Bool} (h : ∀ i, i < l.length → p (at0 l i) = false) : l.any p = false := by
  rw [List.any_eq_false]
  intro x hx
  obtain ⟨i, hi, rfl⟩ := List.mem_iff_getElem.1 hx
  have := h i hi
  unfold at0 at this
  rw [List.getElem?_eq_getElem hi] at this
  simpa using this
theorem ctE_of {t : CTk} (h : CtOk t) : ctE t = 0 := by
  have hf := h.frm
  unfold ctE chkC
  rw [if_neg (by simp [h.chk]), outB_f.2 (by have := h.m1; have := h.m8; omega), outB_f.2 (by have := h.n1; have := h.n60; omega), if_neg (by simp)]
  rw [show firstN (hisErr t) t.m = none from firstN_none fun k hk => ?_]
  · simp only
    rw [if_neg (by simp [h.river]), if_neg (by rw [any_of (p := fun v => outB v 0 10000000) fun i hi => outB_f.2 (h.riv i (by rw [h.river] at hi; exact hi))]; simp), if_neg (by simp [h.filn]), outB_f.2 h.out, outB_f.2 h.lim, outB_f.2 h.dly, if_neg (by simp)]
    rw [show filBad t = false from ?_]
    · simp
    · unfold filBad
      rw [List.any_eq_false]
      intro i hi
      rw [outB_f.2 (h.fil i (by simpa using hi))]; simp
  · unfold hisErr
    rw [if_neg (by rw [h.from_ k hk, h.len k hk]; simp), h.from_ k hk, outB_f.2 hf, show (t.h k).vals.any highB = false from any_of fun i hi => outB_f.2 (h.val k i hk (by rw [h.len k hk] at hi; exact hi))]
    simp
structure Sub5 (t u : CTk) : Prop extends Same5 t u where
  lim : u.limit = t.limit
  m1 : 1 ≤ u.m
  m : u.m ≤ t.m
  h : ∀ j, j < u.m → ∃ k, k < t.m ∧ u.h j = t.h k
def CTk.more (t : CTk) (l : Int) : CTk := { t with limit := l }
end Go.Proofs.YtmpaiphakjogjaaGreat.Bs
namespace Go.Proofs.YtmpaiphakjogjaaGreat.Bs
open Go Go.Proofs.YtmpaiphakjogjaaGreat.X
noncomputable def CTk.tl (t : CTk) (k : Nat) (p : CPl) : Nat → Int
  | 0 => 0
  | i + 1 => t.lo (lvD (t.ins k p (t.pkTo k p (i + 1))))
noncomputable def CTk.th (t : CTk) (k : Nat) (p : CPl) : Nat → Int
  | 0 => 0
  | i + 1 => t.hi (lvD (t.ins k p (t.pkTo k p (i + 1))))
theorem open_f {t : CTk} (ht : CtOk t) {p : CPl} (hp : t.strange p = false) {i : Nat} (ho : t.isOpen p i = false) : ∃ s : Nat, t.shutI p = (s : Nat) ∧ s < i := by
  simp only [CTk.isOpen, Bool.or_eq_false_iff, decide_eq_false_iff_not] at ho
  obtain ⟨g1, g2, g3⟩ := ho
  have hshut : 0 ≤ t.shutI p := by
    unfold CTk.strange at hp
    rw [decide_eq_true g1, Bool.true_and, Bool.or_eq_false_iff] at hp
    have h1 := outB_f.1 hp.1
    have := ht.dly
    unfold CTk.shutI; omega
  exact ⟨(t.shutI p).toNat, by omega, by omega⟩
theorem ins_vol {t : CTk} (ht : CtOk t) {k : Nat} {p : CPl} (hp : t.strange p = false) {i : Nat} (hi : i < t.n) {x : Lv} (h : t.ins k p i = some x) (ho : t.isOpen p i = false) {s : Nat} (hs : t.shutI p = (s : Nat)) :
    x.shut = true ∧ (t.vols k s (t.n - s))[i - s]? = some x.n ∧ ∃ st, t.rs k s (i - s) = some st ∧ st.vol = x.n := by
  obtain ⟨s', e, hlt⟩ := open_f ht hp ho
  have e1 : (t.shutI p).toNat = s := by omega
  unfold CTk.ins at h
  rw [if_neg (by simp [ho]), e1] at h
  cases hr : t.rs k s (i - s) with
  | none => rw [hr] at h; cases h
  | some st =>
    rw [hr] at h
    cases h
    exact ⟨rfl, by rw [vols_at (by omega), hr]; rfl, st, rfl, rfl⟩
theorem ins_open {t : CTk} {k : Nat} {p : CPl} {i : Nat} {x : Lv} (h : t.ins k p i = some x) (ho : t.isOpen p i = true) : x = ⟨false, t.v k i⟩ := by
  unfold CTk.ins at h
  rw [if_pos ho] at h
  cases h; rfl
theorem ins_shut {t : CTk} {k : Nat} {p : CPl} {i : Nat} {x : Lv} (h : t.ins k p i = some x) : x.shut = !t.isOpen p i := by
  cases ho : t.isOpen p i with
  | true => rw [ins_open h ho]; rfl
  | false =>
    unfold CTk.ins at h
    rw [if_neg (by simp [ho])] at h
    cases hr : t.rs k (t.shutI p).toNat (i - (t.shutI p).toNat) with
    | none => rw [hr] at h; cases h
    | some st => rw [hr] at h; cases h; rfl
theorem lo_hi_in {t : CTk} (ht : CtOk t) {k : Nat} (hk : k < t.m) {p : CPl} (hp : t.strange p = false) {i : Nat} (hi : i < t.n) {x : Lv} (h : t.ins k p i = some x) : t.lo x ≤ t.hi x ∧ t.hi x ≤ t.lo x + 1 := by
  cases ho : t.isOpen p i with
  | true => rw [ins_open h ho]; exact ⟨Int.le_refl _, by show t.v k i ≤ t.v k i + 1; omega⟩
  | false =>
    obtain ⟨s, e, hlt⟩ := open_f ht hp ho
    obtain ⟨h1, _, st, h2, h3⟩ := ins_vol ht hp hi h ho e
    have o1 := rs_ok ht hk (by omega) h2
    have o2 := lvl_in ht o1
    unfold CTk.lo CTk.hi
    rw [if_pos h1, if_pos h1, ← h3, o2.1, o2.2]
    exact lo_hi ht.ok.rowsOk _
theorem gt_span {t : CTk} {x y : Lv} (hx : t.lo x ≤ t.hi x ∧ t.hi x ≤ t.lo x + 1) (hy : t.lo y ≤ t.hi y ∧ t.hi y ≤ t.lo y + 1) (hn : ¬(x.shut = true ∧ y.shut = true)) :
    t.gt x y = (decide (t.hi y < t.hi x) || (decide (t.hi x = t.hi y) && decide (t.lo y < t.lo x))) := by
  obtain ⟨xs, xn⟩ := x
  obtain ⟨ys, yn⟩ := y
  cases xs <;> cases ys
  · show decide (yn < xn) = (decide (yn < xn) || (decide (xn = yn) && decide (yn < xn)))
    by_cases h : yn < xn <;> simp [h]
  · have e1 : t.lo ⟨false, xn⟩ = xn := rfl
    have e2 : t.hi ⟨false, xn⟩ = xn := rfl
    rw [e1, e2]
    have e3 : t.gt ⟨false, xn⟩ ⟨true, yn⟩ = decide (t.lo ⟨true, yn⟩ < xn) := rfl
    rw [e3, Bool.eq_iff_iff]
    simp only [Bool.or_eq_true, Bool.and_eq_true, decide_eq_true_eq]
    omega
  · have e1 : t.lo ⟨false, yn⟩ = yn := rfl
    have e2 : t.hi ⟨false, yn⟩ = yn := rfl
    rw [e1, e2]
    have e3 : t.gt ⟨true, xn⟩ ⟨false, yn⟩ = decide (yn < t.hi ⟨true, xn⟩) := rfl
    rw [e3, Bool.eq_iff_iff]
    simp only [Bool.or_eq_true, Bool.and_eq_true, decide_eq_true_eq]
    omega
  · exact absurd ⟨rfl, rfl⟩ hn
theorem pk_step {t : CTk} {k : Nat} {p : CPl} {i : Nat} {b : Bool} {y : Lv} (hy : t.ins k p i = some y) (hb : 0 < i → b = t.gt y (lvD (t.ins k p (t.pkTo k p i)))) :
    ((decide (i = 0) || b) = true → t.pkTo k p (i + 1) = i ∧ t.tl k p (i + 1) = t.lo y ∧ t.th k p (i + 1) = t.hi y) ∧ ((decide (i = 0) || b) = false → t.pkTo k p (i + 1) = t.pkTo k p i ∧ t.tl k p (i + 1) = t.tl k p i ∧ t.th k p (i + 1) = t.th k p i) := by
  have e0 : t.pkTo k p (i + 1) = if 0 < i ∧ t.gt (lvD (t.ins k p i)) (lvD (t.ins k p (t.pkTo k p i))) = true then i else t.pkTo k p i := rfl
  have el : t.tl k p (i + 1) = t.lo (lvD (t.ins k p (t.pkTo k p (i + 1)))) := rfl
  have eh : t.th k p (i + 1) = t.hi (lvD (t.ins k p (t.pkTo k p (i + 1)))) := rfl
  rw [el, eh]
  rw [hy] at e0
  refine ⟨fun h => ?_, fun h => ?_⟩
  · have e1 : t.pkTo k p (i + 1) = i := by
      rw [e0]
      rcases Nat.eq_zero_or_pos i with h1 | h1
      · subst h1
        split
        · rfl
        · rfl
      · rw [decide_eq_false (by omega), Bool.false_or, hb h1] at h
        rw [if_pos ⟨h1, h⟩]
    rw [e1, hy]
    exact ⟨rfl, rfl, rfl⟩
  · simp only [Bool.or_eq_false_iff, decide_eq_false_iff_not] at h
    have h1 : 0 < i := by omega
    have e1 : t.pkTo k p (i + 1) = t.pkTo k p i := by
      rw [e0, if_neg (fun h2 => ?_)]
      have h3 : t.gt y (lvD (t.ins k p (t.pkTo k p i))) = true := h2.2
      have h4 := h.2
      rw [hb h1, h3] at h4
      cases h4
    rw [e1]
    obtain ⟨j, rfl⟩ : ∃ j, i = j + 1 := ⟨i - 1, by omega⟩
    exact ⟨rfl, rfl, rfl⟩
end Go.Proofs.YtmpaiphakjogjaaGreat.Bs
namespace Go.Proofs.YtmpaiphakjogjaaGreat.Bs
open Go Go.Proofs.YtmpaiphakjogjaaGreat.X
theorem firstB_congr {f g : Nat → Bool} : ∀ {n : Nat}, (∀ i, i < n → f i = g i) → firstB f n = firstB g n := by
  intro n
  induction n with
  | zero => intro _; rfl
  | succ n ih =>
    intro h
    unfold firstB
    rw [ih fun i hi => h i (by omega), h n (by omega)]
def CTk.hiC (t : CTk) (x : Lv) : Int := if x.shut = true then levHi t.b x.n else x.n
def CTk.loC (t : CTk) (x : Lv) : Int := if x.shut = true then levLo t.b x.n else x.n
def CTk.aboveC (t : CTk) (k : Nat) (p : CPl) (i : Nat) : Bool := match t.ins k p i with
  | none => true
  | some x => decide (t.limit < t.hiC x)
def CTk.failsC (t : CTk) (k : Nat) (p : CPl) : Option Nat := firstB (t.aboveC k p) t.n
theorem hi_c {t : CTk} (ht : CtOk t) {k : Nat} (hk : k < t.m) {p : CPl} (hp : t.strange p = false) {i : Nat} (hi : i < t.n) {x : Lv} (h : t.ins k p i = some x) : t.hi x = t.hiC x ∧ t.lo x = t.loC x := by
  cases ho : t.isOpen p i with
  | true => rw [ins_open h ho]; exact ⟨rfl, rfl⟩
  | false =>
    obtain ⟨s, e, hlt⟩ := open_f ht hp ho
    obtain ⟨h1, _, st, h2, h3⟩ := ins_vol ht hp hi h ho e
    have o2 := lvl_in ht (rs_ok ht hk (by omega) h2)
    unfold CTk.hi CTk.hiC CTk.lo CTk.loC
    rw [if_pos h1, if_pos h1, if_pos h1, if_pos h1, ← h3, o2.1, o2.2]
    exact ⟨rfl, rfl⟩
theorem above_c {t : CTk} (ht : CtOk t) {k : Nat} (hk : k < t.m) {p : CPl} (hp : t.strange p = false) {i : Nat} (hi : i < t.n) : t.above k p i = t.aboveC k p i := by
  unfold CTk.above CTk.aboveC
  cases h : t.ins k p i with
  | none => rfl
  | some x => simp only; rw [(hi_c ht hk hp hi h).1]
theorem fails_c {t : CTk} (ht : CtOk t) {k : Nat} (hk : k < t.m) {p : CPl} (hp : t.strange p = false) : t.fails k p = t.failsC k p := firstB_congr fun i hi => above_c ht hk hp hi
theorem holds_c {t : CTk} (ht : CtOk t) {k : Nat} (hk : k < t.m) {p : CPl} (hp : t.strange p = false) : t.holds k p = (t.failsC k p).isNone := by unfold CTk.holds; rw [fails_c ht hk hp]
theorem cx_all3 {P : Nat → Prop} (h0 : P 0) (h1 : P 1) (h2 : P 2) : ∀ j, j < 3 → P j := by
  intro j hj
  match j, hj with
  | 0, _ => exact h0
  | 1, _ => exact h1
  | 2, _ => exact h2
theorem cx_all2 {P : Nat → Prop} (h0 : P 0) (h1 : P 1) : ∀ j, j < 2 → P j := by
  intro j hj
  match j, hj with
  | 0, _ => exact h0
  | 1, _ => exact h1
def cxB : Bas := ⟨[⟨-1000, 0⟩, ⟨0, 1000000⟩, ⟨2000, 5000000⟩], 100, 3000, 500, []⟩
def cxT : CTk := ⟨cxB, [], [⟨10, [0, 500, 1500, 2500, 1500, 500]⟩, ⟨10, [0, 0, 0, 0, 0, 0]⟩], [60000, 60000, 60000, 60000, 60000, 60000], 0, 800, 1⟩
def cxR : CRu := ⟨1, 3⟩
theorem cx_chk : chkE cxB = 0 := by
  have h1 : firstN (rowErr cxB) cxB.rows.length = none := firstN_none (cx_all3 (by kernel_rfl) (by kernel_rfl) (by kernel_rfl))
  have h2 : firstN (polErr cxB) cxB.pols.length = none := firstN_none (fun j hj => absurd hj (by show ¬ j < 0; omega))
  have h3 : wide cxB (great cxB cxB.pols.length) := fun i hi => by
    have : ∀ j, j < 2 → wideAt cxB (great cxB cxB.pols.length) j := cx_all2 (of_decide_eq_true (by kernel_rfl)) (of_decide_eq_true (by kernel_rfl))
    exact this i (by have : i + 1 < 3 := hi; omega)
  unfold chkE chk
  rw [if_neg (by decide), h1]
  simp only
  rw [if_neg (by decide), if_neg (by decide), h2]
  simp only
  rw [if_pos h3]
theorem cx_e : ctE cxT = 0 := by
  unfold ctE chkC
  rw [if_neg (by rw [show chkE cxT.b = 0 from cx_chk]; decide), if_neg (by rw [show (outB (cxT.m : Int) 1 8 || outB (cxT.n : Int) 1 60) = false from by kernel_rfl]; decide)]
  rw [show firstN (hisErr cxT) cxT.m = none from firstN_none (cx_all2 (by kernel_rfl) (by kernel_rfl))]
  simp only
  rw [if_neg (by decide), if_neg (by rw [show (cxT.river.any fun v => outB v 0 10000000) = false from by kernel_rfl]; decide), if_neg (by decide), if_neg (by rw [show (outB cxT.out 0 10000000 || (outB cxT.limit (cxT.b.row 0).level 20000 || outB cxT.delay 0 30)) = false from by kernel_rfl]; decide), if_neg (by rw [show filBad cxT = false from by kernel_rfl]; decide)]
theorem cx_ok : CtOk cxT := ctOk_of cx_e
theorem cx_ru : ruE cxT cxR = 0 := by
  unfold ruE
  rw [if_neg (by simp [cx_e]), if_neg (by rw [show (outB cxR.count 1 8 || outB cxR.early 0 60) = false from by kernel_rfl]; decide)]
theorem cx_last : cxT.last = 4 := by kernel_rfl
theorem cx_beg : cxT.beg = 5 := by kernel_rfl
theorem cx_pl {i : Nat} (hi : i ≤ 4) : cxT.strange (cxT.plan (i : Nat)) = false := (plan_ok cx_ok (Int.natCast_nonneg i) (by rw [cx_last]; omega)).1
theorem cx_h0 : cxT.holds 0 (cxT.plan ((0 : Nat) : Int)) = true := by rw [holds_c cx_ok (by decide) (cx_pl (by omega))]; kernel_rfl
theorem cx_h1 : cxT.holds 1 (cxT.plan ((0 : Nat) : Int)) = true := by rw [holds_c cx_ok (by decide) (cx_pl (by omega))]; kernel_rfl
theorem cx_n1 : (cxT.failsC 0 (cxT.plan ((1 : Nat) : Int))).isNone = false := by kernel_rfl
theorem cx_n2 : (cxT.failsC 0 (cxT.plan ((2 : Nat) : Int))).isNone = false := by kernel_rfl
theorem cx_n3 : (cxT.failsC 0 (cxT.plan ((3 : Nat) : Int))).isNone = false := by kernel_rfl
theorem cx_n4 : (cxT.failsC 0 (cxT.plan ((4 : Nat) : Int))).isNone = false := by kernel_rfl
theorem cx_a1 : ((cxT.alone 0).failsC 0 ((cxT.alone 0).plan ((1 : Nat) : Int))).isNone = false := by kernel_rfl
theorem cx_a2 : ((cxT.alone 0).failsC 0 ((cxT.alone 0).plan ((2 : Nat) : Int))).isNone = false := by kernel_rfl
theorem cx_a3 : ((cxT.alone 0).failsC 0 ((cxT.alone 0).plan ((3 : Nat) : Int))).isNone = false := by kernel_rfl
theorem cx_a4 : ((cxT.alone 0).failsC 0 ((cxT.alone 0).plan ((4 : Nat) : Int))).isNone = false := by kernel_rfl
theorem cx_no : ∀ j : Nat, 0 < j → j ≤ 4 → cxT.holds 0 (cxT.plan (j : Nat)) = false := by
  intro j h0 h1
  rw [holds_c cx_ok (by decide) (cx_pl h1)]
  have h9 : j = 1 ∨ j = 2 ∨ j = 3 ∨ j = 4 := by omega
  rcases h9 with rfl | rfl | rfl | rfl
  · exact cx_n1
  · exact cx_n2
  · exact cx_n3
  · exact cx_n4
theorem cx_lastOk : cxT.lastOk = some 0 := by
  refine lastOk_some.2 ⟨by rw [cx_last]; omega, wit_none.2 (cx_all2 cx_h0 cx_h1), fun j h1 h2 hw => ?_⟩
  rw [cx_last] at h2
  have := wit_none.1 hw 0 (by decide)
  rw [cx_no j h1 (by omega)] at this
  cases this
theorem cx_called : cxT.called cxR = true := by kernel_rfl
theorem cx_may : cxT.may cxR ((0 : Nat) : Int) = true := by kernel_rfl
theorem cx_dec : cxT.decE cxR = 0 ∧ (cxT.decD cxR).plan = ⟨10, 15⟩ ∧ (cxT.decD cxR).later.length = 4 := by
  have h1 : cxT.decE cxR = 0 := by
    unfold CTk.decE
    rw [if_neg (by simp [cx_ru]), if_neg (by simp [cx_called]), cx_lastOk]
    simp only
    rw [if_pos cx_may]
  have h2 : cxT.decD cxR = ⟨cxT.plan ((0 : Nat) : Int), cxT.peaks (cxT.plan ((0 : Nat) : Int)), cxT.laterL 0⟩ := by
    unfold CTk.decD
    rw [if_neg (by simp [cx_ru]), if_neg (by simp [cx_called]), cx_lastOk]
    simp only
    rw [if_pos cx_may]
  refine ⟨h1, by rw [h2]; exact (by kernel_rfl : cxT.plan ((0 : Nat) : Int) = ⟨10, 15⟩), ?_⟩
  rw [h2]
  simp [CTk.laterL, cx_beg]
theorem cx_al : CtOk (cxT.alone 0) := alone_ok cx_ok (by decide)
theorem cx_las : cxT.lasN 0 = 10 ∧ cxT.lasE 0 = 0 := by
  have hp : ∀ i : Nat, i ≤ 4 → (cxT.alone 0).strange ((cxT.alone 0).plan (i : Nat)) = false := fun i hi => (plan_ok cx_al (Int.natCast_nonneg i) (by rw [show (cxT.alone 0).last = 4 from by kernel_rfl]; omega)).1
  have hb : outB 0 0 ((cxT.m : Int) - 1) = false := by kernel_rfl
  have h : cxT.lasI (0 : Int).toNat = some 0 := by
    unfold CTk.lasI
    refine lastB_some.2 ⟨by rw [cx_beg]; omega, ?_, fun j h1 h2 => ?_⟩
    · show (cxT.alone 0).holds 0 ((cxT.alone 0).plan ((0 : Nat) : Int)) = true
      rw [holds_c cx_al (by decide) (hp 0 (by omega))]; kernel_rfl
    · rw [cx_beg] at h2
      show (cxT.alone 0).holds 0 ((cxT.alone 0).plan (j : Nat)) = false
      rw [holds_c cx_al (by decide) (hp j (by omega))]
      have h9 : j = 1 ∨ j = 2 ∨ j = 3 ∨ j = 4 := by omega
      rcases h9 with rfl | rfl | rfl | rfl
      · exact cx_a1
      · exact cx_a2
      · exact cx_a3
      · exact cx_a4
  refine ⟨?_, ?_⟩
  · unfold CTk.lasN
    rw [if_neg (by simp [cx_e]), if_neg (by simp [hb]), h]; kernel_rfl
  · unfold CTk.lasE
    rw [if_neg (by simp [cx_e]), if_neg (by simp [hb]), h]
theorem cx_las2 : cxT.lasE 2 = 4 := by
  have hb : outB 2 0 ((cxT.m : Int) - 1) = true := by kernel_rfl
  unfold CTk.lasE
  rw [if_neg (by simp [cx_e]), if_pos hb]
end Go.Proofs.YtmpaiphakjogjaaGreat.Bs
namespace Go.Proofs.YtmpaiphakjogjaaGreat.Bs
open Go Go.Proofs.YtmpaiphakjogjaaGreat.X
structure RL where
  shut : Bool
  great : Bool
  n : Int
def CTk.rl (t : CTk) (k : Nat) (p : CPl) (i : Nat) : RL :=
  if t.isOpen p i = true then ⟨false, false, t.v k i⟩
  else match t.rs k (t.shutI p).toNat (i - (t.shutI p).toNat) with
    | none => ⟨true, true, 0⟩
    | some st => ⟨true, false, st.vol⟩
def lsO : Option Sta → Sta × Bool
  | none => (⟨0, []⟩, true)
  | some st => (st, false)
def CTk.ls (t : CTk) (k : Nat) (p : CPl) (i : Nat) : Sta × Bool :=
  if p = nev ∨ (i : Int) ≤ t.shutI p then (⟨0, []⟩, false) else lsO (t.rs k (t.shutI p).toNat (i - (t.shutI p).toNat))
theorem rl_open {t : CTk} {k : Nat} {p : CPl} {i : Nat} (h : t.isOpen p i = true) : t.rl k p i = ⟨false, false, t.v k i⟩ := by unfold CTk.rl; rw [if_pos h]
theorem rl_shut {t : CTk} (ht : CtOk t) {k : Nat} {p : CPl} (hp : t.strange p = false) {i : Nat} (h : t.isOpen p i = false) : t.rl k p i = ⟨true, (t.ls k p i).2, (t.ls k p i).1.vol⟩ := by
  have h0 := h
  simp only [CTk.isOpen, Bool.or_eq_false_iff, decide_eq_false_iff_not] at h0
  unfold CTk.rl CTk.ls
  rw [if_neg (by simp [h]), if_neg (fun h1 => h1.elim h0.1 h0.2.1)]
  cases t.rs k (t.shutI p).toNat (i - (t.shutI p).toNat) <;> rfl
theorem ls_0 {t : CTk} {k : Nat} {p : CPl} {i : Nat} (h : p = nev ∨ (i : Int) ≤ t.shutI p) : t.ls k p i = (⟨0, []⟩, false) := by unfold CTk.ls; rw [if_pos h]
theorem ls_eq {t : CTk} {k : Nat} {p : CPl} {i : Nat} (hn : p ≠ nev) (h : t.shutI p < (i : Int)) {x : Option Sta} (hx : t.rs k (t.shutI p).toNat (i - (t.shutI p).toNat) = x)  : t.ls k p i = lsO x := by
  unfold CTk.ls
  rw [if_neg (fun h1 => h1.elim hn (by omega)), hx]
theorem stepO (b : Bas) (st : Sta) (c : Tick) : lsO (if stepE b st c = 0 then some (outS b st c) else none) = (outS b st c, decide (stepE b st c ≠ 0)) := by
  by_cases he : stepE b st c = 0
  · rw [if_pos he]; simp [he, lsO]
  · rw [if_neg he]; simp [he, outS, lsO]
theorem ls_at {t : CTk} {k : Nat} {p : CPl} {i : Nat} (hn : p ≠ nev) (h : (i : Int) = t.shutI p) :
    t.ls k p (i + 1) = (outS t.b ⟨t.vol0 k i, t.fil⟩ (t.tick k i), decide (stepE t.b ⟨t.vol0 k i, t.fil⟩ (t.tick k i) ≠ 0)) := by
  have e1 : (t.shutI p).toNat = i := by omega
  have hx : t.rs k (t.shutI p).toNat (i + 1 - (t.shutI p).toNat) = if stepE t.b ⟨t.vol0 k i, t.fil⟩ (t.tick k i) = 0 then some (outS t.b ⟨t.vol0 k i, t.fil⟩ (t.tick k i)) else none := by
    rw [e1, show i + 1 - i = 0 + 1 from by omega]
    rfl
  rw [ls_eq hn (by omega) hx, stepO]
theorem ls_step {t : CTk} {k : Nat} {p : CPl} {i : Nat} (h0 : 0 ≤ t.shutI p) (hn : p ≠ nev) (h : t.shutI p < (i : Int)) :
    t.ls k p (i + 1) = if (t.ls k p i).2 = true then t.ls k p i else (outS t.b (t.ls k p i).1 (t.tick k i), decide (stepE t.b (t.ls k p i).1 (t.tick k i) ≠ 0)) := by
  have e1 : i + 1 - (t.shutI p).toNat = (i - (t.shutI p).toNat) + 1 := by omega
  have e2 : (t.shutI p).toNat + (i - (t.shutI p).toNat) = i := by omega
  cases hr : t.rs k (t.shutI p).toNat (i - (t.shutI p).toNat) with
  | none =>
    have hx : t.rs k (t.shutI p).toNat (i + 1 - (t.shutI p).toNat) = none := by rw [e1]; unfold CTk.rs; rw [hr]
    rw [ls_eq hn (by omega) hx, ls_eq hn h hr]; rfl
  | some st =>
    have hx : t.rs k (t.shutI p).toNat (i + 1 - (t.shutI p).toNat) = if stepE t.b st (t.tick k i) = 0 then some (outS t.b st (t.tick k i)) else none := by
      rw [e1]
      show (match t.rs k (t.shutI p).toNat (i - (t.shutI p).toNat) with | none => none | some st => if stepE t.b st (t.tick k ((t.shutI p).toNat + (i - (t.shutI p).toNat))) = 0 then some (outS t.b st (t.tick k ((t.shutI p).toNat + (i - (t.shutI p).toNat)))) else none) = _
      rw [hr, e2]
    rw [ls_eq hn (by omega) hx, ls_eq hn h hr, stepO, if_neg (by simp [lsO])]; rfl
theorem ls_ok {t : CTk} (ht : CtOk t) {k : Nat} (hk : k < t.m) {p : CPl} (hp : t.strange p = false) {i : Nat} (hn : p ≠ nev) (h : t.shutI p < (i : Int)) (hi : i ≤ t.n) (hg : (t.ls k p i).2 = false) : StaOk t.b (t.ls k p i).1 := by
  have hc := strange_f hp hn
  have hd := ht.dly
  have hs : 0 ≤ t.shutI p := by unfold CTk.shutI; omega
  have hs2 : (t.shutI p).toNat < t.n := by
    have e : t.shutI p ≤ t.last + t.delay := by unfold CTk.shutI; omega
    unfold CTk.last at e; omega
  unfold CTk.ls at hg ⊢
  rw [if_neg (fun h1 => h1.elim hn (by omega))] at hg ⊢
  cases hr : t.rs k (t.shutI p).toNat (i - (t.shutI p).toNat) with
  | none => rw [hr] at hg; cases hg
  | some st => exact rs_ok ht hk hs2 hr
theorem rl_ins {t : CTk} {k : Nat} {p : CPl} {i : Nat} : (t.rl k p i).great = (t.ins k p i).isNone ∧ (t.rl k p i).shut = (lvD (t.ins k p i)).shut ∧ (t.rl k p i).n = (lvD (t.ins k p i)).n := by
  unfold CTk.rl CTk.ins
  split
  · exact ⟨rfl, rfl, rfl⟩
  · cases t.rs k (t.shutI p).toNat (i - (t.shutI p).toNat) <;> exact ⟨rfl, rfl, rfl⟩
noncomputable def CTk.fits (t : CTk) (x : RL) (l : Int) : Bool := if x.shut = true then (if x.great = true then false else decide (lvlHi t.b x.n ≤ l)) else decide (x.n ≤ l)
theorem fits_above {t : CTk} {k : Nat} {p : CPl} {i : Nat} : t.fits (t.rl k p i) t.limit = !t.above k p i := by
  unfold CTk.rl CTk.above CTk.ins
  split
  · show decide (t.v k i ≤ t.limit) = !decide (t.limit < t.v k i)
    by_cases h : t.v k i ≤ t.limit
    · simp [h, Int.not_lt.2 h]
    · simp [h, Int.not_le.1 h]
  · cases t.rs k (t.shutI p).toNat (i - (t.shutI p).toNat) with
    | none => rfl
    | some st =>
      show decide (lvlHi t.b st.vol ≤ t.limit) = !decide (t.limit < lvlHi t.b st.vol)
      by_cases h : lvlHi t.b st.vol ≤ t.limit
      · simp [h, Int.not_lt.2 h]
      · simp [h, Int.not_le.1 h]
theorem holds_firstB {t : CTk} {k : Nat} {p : CPl} : t.holds k p = (firstB (fun i => !t.fits (t.rl k p i) t.limit) t.n).isNone := by
  unfold CTk.holds CTk.fails
  congr 2
  funext i
  rw [fits_above, Bool.not_not]
end Go.Proofs.YtmpaiphakjogjaaGreat.Bs
namespace Go.Proofs.YtmpaiphakjogjaaGreat.X
open Go Go.RowKit Go.Proofs.YtmpaiphakjogjaaGreat.Bs
def hisC (q : SV) (h : His) : List Value := [.int .i64 h.from_, svV q]
def hisK : Kind (SV × His) := ⟨133, 2, fun e => hisC e.1 e.2, fun e => [hInts e.1 e.2.vals], fun _ => rfl⟩
structure CTV where
  p : BV
  f : SV
  h : SV
  r : SV
def ctkC (v : CTV) (t : CTk) : List Value :=
  [.slice v.p.A v.p.n v.p.c, .int .i64 t.b.leak, .int .i64 t.b.crest, .int .i64 t.b.over, .slice v.p.A2 v.p.n2 v.p.c2, .slice v.f.A v.f.n v.f.c, .slice v.h.A v.h.n v.h.c, .slice v.r.A v.r.n v.r.c, .int .i64 t.out, .int .i64 t.limit, .int .i64 t.delay]
def ctkV (v : CTV) (t : CTk) : Value := .agg ⟨ctkC v t⟩
structure CtAt (w : World) (B : Nat) (v : CTV) (t : CTk) : Prop where
  bas : BasAt w B v.p t.b
  fil : IntsAt w (Lt B) v.f t.fil
  his : ∃ es : List (SV × His), ListAt hisK w (Lt B) v.h es ∧ es.map (·.2) = t.his
  river : IntsAt w (Lt B) v.r t.river
  cap : v.h.n ≤ v.h.c
section
variable {w w' w0 : World} {B B' : Nat} {v : CTV} {t : CTk} {L : Lo}
theorem CtAt.below (h : CtAt w B v t) (hb : Below B w w') : CtAt w' B v t := by
  obtain ⟨es, h1, h2⟩ := h.his
  exact ⟨h.bas.below hb, h.fil.keep fun k hk => hb.block k hk, ⟨es, h1.below hb, h2⟩, h.river.keep fun k hk => hb.block k hk, h.cap⟩
theorem CtAt.more (h : CtAt w B v t) (hB : B ≤ B') : CtAt w B' v t := by
  obtain ⟨es, h1, h2⟩ := h.his
  exact ⟨h.bas.more hB, h.fil.mono fun k hk => Nat.lt_of_lt_of_le hk hB, ⟨es, h1.mono fun k hk => Nat.lt_of_lt_of_le hk hB, h2⟩, h.river.mono fun k hk => Nat.lt_of_lt_of_le hk hB, h.cap⟩
theorem CtAt.sys (h : CtAt w0 B v t) (S : Sys B w0 L w) : CtAt w w.heap.size v t := (h.below S.toBelow).more (Nat.le_trans S.base S.size)
theorem CtAt.hn (h : CtAt w B v t) : v.h.n = t.m := by
  obtain ⟨es, h1, h2⟩ := h.his
  rw [h1.len (by decide)]
  show es.length = t.his.length
  rw [← h2]; simp
theorem CtAt.hmax (h : CtAt w B v t) : v.h.n ≤ 9223372036854775807 := by
  obtain ⟨es, h1, h2⟩ := h.his
  exact h1.max
theorem CtAt.hisAt (h : CtAt w B v t) {k : Nat} (hk : k < t.m) : ∃ (ad : Addr) (q : SV), v.h.A = some ad ∧ ad.block < B ∧ (∀ j u, (hisC q (t.h k))[j]? = some u → w.cell? ((ad.add (k * 2)).add j) = some u) ∧ IntsAt w (Lt B) q (t.h k).vals := by
  obtain ⟨es, h1, h2⟩ := h.his
  have hl : k < es.length := by
    have : es.length = t.his.length := by rw [← h2]; simp
    rw [this]; exact hk
  obtain ⟨ad, e1, e2⟩ := ListAt.addr (A := v.h.A) (n := v.h.n) (c := v.h.c) h1 (by decide) (by omega)
  have hek : es[k]? = some es[k] := List.getElem?_eq_getElem hl
  have eh : t.h k = es[k].2 := by
    unfold CTk.h
    rw [← h2, List.getElem?_map, hek]; rfl
  refine ⟨ad, es[k].1, e1, e2, fun j u hj => ?_, ?_⟩
  · have h1' : ListAt hisK w (Lt B) ⟨some ad, v.h.n, v.h.c⟩ es := by rw [← e1]; exact h1
    rw [eh] at hj
    exact h1'.elem hek j u hj
  · rw [eh]
    exact h1.ins es[k] (List.getElem_mem hl) (hInts es[k].1 es[k].2.vals) (List.mem_singleton.2 rfl)
end
def keyC (k s : Nat) : List Value := [.int .i64 (k : Nat), .int .i64 (s : Nat)]
def keyV (k s : Nat) : Value := .agg ⟨keyC k s⟩
theorem keyV_inj {k s k' s' : Nat} (h : keyV k s = keyV k' s') : k = k' ∧ s = s' := by
  simp only [keyV, keyC, Value.agg.injEq, Array.mk.injEq, List.cons.injEq, Value.int.injEq, true_and, and_true] at h
  omega
theorem run_law : WideMaps.KeyLaw Tryz.prog 149 := deep_law (m := 4) (by decide) (by kernel_rfl) (by kernel_rfl) (by kernel_rfl)
theorem run_fuel : ∃ d, Tryz.prog.types.size + 1 = d + 3 := by
  have h : Nat.ble 2 Tryz.prog.types.size = true := by kernel_rfl
  have := Nat.le_of_ble_eq_true h
  exact ⟨Tryz.prog.types.size - 2, by omega⟩
def intT5 (P : Program) (t : TypeId) : Bool := match P.underlying t with
  | some (.int .i64) => P.cellsOf t == 1
  | _ => false
theorem keyLits_int5 {P : Program} {t : TypeId} (ht : intT5 P t = true) (d : Nat) {n : Int} (h : i64in n) : P.keyLits (d + 1) t [.int .i64 n] = some [.int .i64 n] := by
  unfold intT5 at ht
  split at ht
  · rename_i hu
    have h1 : (Lit.int .i64 n).wf = true := by
      have e1 : IntKind.i64.min = -9223372036854775808 := rfl
      have e2 : IntKind.i64.max = 9223372036854775807 := rfl
      unfold i64in at h
      simp only [Lit.wf, e1, e2, Bool.and_eq_true, decide_eq_true_eq]
      omega
    simp [Program.keyLits, hu, h1]
  · cases ht
theorem intT5_1 {P : Program} {t : TypeId} (ht : intT5 P t = true) : P.cellsOf t = 1 := by
  unfold intT5 at ht
  split at ht
  · simpa using ht
  · cases ht
theorem keyLits_str5 {P : Program} {t : TypeId} {fs : Array Field} {d : Nat} {cs : List Value} (hu : P.underlying t = some (.struct fs)) : P.keyLits (d + 1) t cs = if cs.length = P.cellsOf t ∧ fs.all (·.name != "_") = true then (fs.toList.mapM fun f => P.keyLits d f.type ((cs.drop f.offset).take (P.cellsOf f.type))).map List.flatten else none := by
  conv => lhs; unfold Program.keyLits
  simp only [hu]
def pairT (P : Program) (t : TypeId) : Bool := match P.underlying t with
  | some (.struct ⟨[a, b]⟩) => intT5 P a.type && (intT5 P b.type && (a.offset == 0 && (b.offset == 1 && (a.name != "_" && (b.name != "_" && (P.cellsOf t == 2 && P.keyType t))))))
  | _ => false
theorem keyOf_pair {P : Program} {t : TypeId} (ht : pairT P t = true) {D : Nat} (hD : P.types.size + 1 = D + 3) {x y : Int} (hx : i64in x) (hy : i64in y) : ∃ l, keyOf P t (.agg ⟨[.int .i64 x, .int .i64 y]⟩) = some l := by
  unfold pairT at ht
  split at ht
  · rename_i f1 f2 hu
    simp only [Bool.and_eq_true, beq_iff_eq, bne_iff_ne, ne_eq] at ht
    obtain ⟨t1, t2, o1, o2, n1, n2, c2, hk⟩ := ht
    have h1 : P.keyLits (P.types.size + 1) t [.int .i64 x, .int .i64 y] = some [.int .i64 x, .int .i64 y] := by
      rw [hD]
      rw [keyLits_str5 hu]
      simp [c2, n1, n2, o1, o2, intT5_1 t1, intT5_1 t2, keyLits_int5 t1 (D + 1) hx, keyLits_int5 t2 (D + 1) hy]
    refine ⟨.string (keyBytes [.int .i64 x, .int .i64 y]), ?_⟩
    unfold keyOf
    simp only [hu]
    rw [if_pos (by simp [hk, Value.formed, hu, c2])]
    simp only [Value.cells]
    rw [h1]
    rfl
  · cases ht
theorem run_t : pairT Tryz.prog 149 = true := by kernel_rfl
theorem run_key {k s : Nat} (hk : k ≤ 1000) (hs : s ≤ 1000) : ∃ l, keyOf Tryz.prog 149 (keyV k s) = some l := by
  obtain ⟨d, hd⟩ := run_fuel
  exact keyOf_pair run_t hd (by unfold i64in; omega) (by unfold i64in; omega)
def gamC (v : CTV) (t : CTk) (gm : Nat) : List Value :=
  [.slice v.p.A v.p.n v.p.c, .int .i64 t.b.leak, .int .i64 t.b.crest, .int .i64 t.b.over, .slice v.p.A2 v.p.n2 v.p.c2, .slice v.f.A v.f.n v.f.c, .slice v.h.A v.h.n v.h.c, .slice v.r.A v.r.n v.r.c, .int .i64 t.out, .int .i64 t.limit, .int .i64 t.delay,
   .int .i64 t.from_, .int .i64 (t.n : Nat), .int .i64 (t.q : Nat), .map (some gm)]
abbrev gamO (v : CTV) (t : CTk) (gm : Nat) : Obj := cel 84 (gamC v t gm)
def RunE (t : CTk) (w : World) (ok : Nat → Prop) (e : Value × Value) : Prop := ∃ (k s : Nat) (q : SV), e.1 = keyV k s ∧ e.2 = svV q ∧ k < t.m ∧ s < t.n ∧ IntsAt w ok q (t.vols k s (t.n - s))
def Mem5 (t : CTk) (gm : Nat) (w : World) (ok : Nat → Prop) : Prop := ∃ kvs : List (Value × Value), w.heap[gm]? = some (mapO kvs) ∧ KeysOk Tryz.prog 149 kvs ∧ ∀ e, e ∈ kvs → RunE t w ok e
theorem Mem5.keep {t : CTk} {gm : Nat} {w w' : World} {ok : Nat → Prop} (h : Mem5 t gm w ok) (hk : ∀ k, ok k ∨ k = gm → w'.heap[k]? = w.heap[k]?) : Mem5 t gm w' ok := by
  obtain ⟨kvs, h1, h2, h3⟩ := h
  refine ⟨kvs, (hk gm (.inr rfl)).trans h1, h2, fun e he => ?_⟩
  obtain ⟨k, s, q, a1, a2, a3, a4, a5⟩ := h3 e he
  exact ⟨k, s, q, a1, a2, a3, a4, a5.keep fun j hj => hk j (.inl hj)⟩
theorem Mem5.mono {t : CTk} {gm : Nat} {w : World} {ok ok' : Nat → Prop} (h : Mem5 t gm w ok) (hk : ∀ k, ok k → ok' k) : Mem5 t gm w ok' := by
  obtain ⟨kvs, h1, h2, h3⟩ := h
  refine ⟨kvs, h1, h2, fun e he => ?_⟩
  obtain ⟨k, s, q, a1, a2, a3, a4, a5⟩ := h3 e he
  exact ⟨k, s, q, a1, a2, a3, a4, a5.mono hk⟩
structure Gam (t : CTk) (v : CTV) (b0 g gm : Nat) (ks : List Nat) (rs : List RowX) (hs : List Held) (w : World) : Prop where
  fam : Fam w b0 (gm :: ks) rs hs
  nin : gm ∉ ks
  gin : g ∈ ks
  lt : ∀ k, k ∈ gm :: ks → k < w.heap.size
  bg : b0 ≤ g
  bm : b0 ≤ gm
  game : w.heap[g]? = some (gamO v t gm)
  task : CtAt w b0 v t
  memo : Mem5 t gm w (Free w b0 (gm :: ks) rs)
section
variable {t : CTk} {v : CTV} {b0 g gm : Nat} {ks ks' : List Nat} {rs : List RowX} {hs hs' new : List Held} {w w' wE w0 w1 w2 : World} {L : Lo} {B : Nat}
theorem Gam.ne (h : Gam t v b0 g gm ks rs hs w) : g ≠ gm := fun e => h.nin (e ▸ h.gin)
theorem Gam.sys (h : Gam t v b0 g gm ks rs hs w0) (S : Sys b0 w0 L w) (hg : (g, gamO v t gm) ∈ L) (hL : ∀ e, e ∈ L → e.1 ∈ ks ∨ w0.heap.size ≤ e.1) : Gam t v b0 g gm ks rs hs w := by
  have hL' : ∀ e, e ∈ L → e.1 ∈ gm :: ks ∨ w0.heap.size ≤ e.1 := fun e he => (hL e he).imp (fun h => List.mem_cons_of_mem _ h) id
  have hgm : w.heap[gm]? = w0.heap[gm]? := S.old gm (h.lt gm (.head _)) fun e he e1 => by
    rcases hL e he with h1 | h1
    · exact h.nin (e1 ▸ h1)
    · have := h.lt gm (.head _); omega
  refine ⟨h.fam.sys S hL', h.nin, h.gin, fun k hk => Nat.lt_of_lt_of_le (h.lt k hk) S.size, h.bg, h.bm, (S.own _ hg).2, h.task.below S.toBelow, ?_⟩
  refine (h.memo.keep (w' := w) fun k hk => ?_).mono fun k hk => ⟨hk.1, Nat.lt_of_lt_of_le hk.2.1 S.size, hk.2.2⟩
  rcases hk with hk | rfl
  · exact S.old k hk.2.1 fun e he e1 => by
      rcases hL' e he with h1 | h1
      · exact hk.2.2.1 (e1 ▸ h1)
      · have := hk.2.1; omega
  · exact hgm
theorem Gam.made (h : Gam t v b0 g gm ks rs hs w1) (hb : Below w1.heap.size w1 w2) (hx : ∀ x, x ∈ new → x.p w2 (Btw w1.heap.size w2.heap.size)) : Gam t v b0 g gm ks rs (new ++ hs) w2 := by
  have hF : Fam w2 b0 (gm :: ks) rs (new ++ hs) := by
    have h1 := Fam.call (L := []) (w1 := w1) (w2 := w2) (new := new) h.fam (Sys.enter w1) hb (fun e he => by cases he) h.lt hx
    simpa using h1.1
  refine ⟨hF, h.nin, h.gin, fun k hk => Nat.lt_of_lt_of_le (h.lt k hk) hb.size, h.bg, h.bm, (hb.block g (h.lt g (List.mem_cons_of_mem _ h.gin))).trans h.game, h.task.below (hb.mono h.fam.base), ?_⟩
  refine (h.memo.keep (w' := w2) fun k hk => ?_).mono fun k hk => ⟨hk.1, Nat.lt_of_lt_of_le hk.2.1 hb.size, hk.2.2⟩
  rcases hk with hk | rfl
  · exact hb.block k hk.2.1
  · exact hb.block k (h.lt k (.head _))
theorem Gam.forget (h : Gam t v b0 g gm ks rs hs w) (hh : ∀ x, x ∈ hs' → x ∈ hs) : Gam t v b0 g gm ks rs hs' w := ⟨h.fam.forget hh, h.nin, h.gin, h.lt, h.bg, h.bm, h.game, h.task, h.memo⟩
theorem Gam.add (h : Gam t v b0 g gm ks rs hs w) (S : Sys b0 w L w') (hg : (g, gamO v t gm) ∈ L) (hL : ∀ e, e ∈ L → e.1 ∈ ks ∨ w.heap.size ≤ e.1) : Gam t v b0 g gm (L.map (·.1) ++ ks) rs hs w' := by
  have h1 := h.sys S hg hL
  have hmem : ∀ k, k ∈ L.map (·.1) ++ ks → k ∈ ks ∨ w.heap.size ≤ k := fun k hk => by
    rcases List.mem_append.1 hk with hk | hk
    · obtain ⟨e, he, rfl⟩ := List.mem_map.1 hk
      exact hL e he
    · exact .inl hk
  have hlt : ∀ k, k ∈ gm :: (L.map (·.1) ++ ks) → k < w'.heap.size := fun k hk => by
    rcases List.mem_cons.1 hk with rfl | hk
    · exact h1.lt k (.head _)
    · rcases List.mem_append.1 hk with hk | hk
      · exact S.keyLt k hk
      · exact h1.lt k (List.mem_cons_of_mem _ hk)
  have hold : ∀ x, x ∈ ks → x ∈ gm :: (L.map (·.1) ++ ks) := fun x hx => List.mem_cons_of_mem _ (List.mem_append_right _ hx)
  have hks : ∀ k, k ∈ gm :: (L.map (·.1) ++ ks) → k ∈ gm :: ks ∨ w.heap.size ≤ k := fun k hk => by
    rcases List.mem_cons.1 hk with rfl | hk
    · exact .inl (.head _)
    · exact (hmem k hk).imp (fun h => List.mem_cons_of_mem _ h) id
  have hF : Fam w' b0 (gm :: (L.map (·.1) ++ ks)) rs hs := (h.fam.add hks).sys S fun e he => .inl (List.mem_cons_of_mem _ (List.mem_append_left _ (List.mem_map.2 ⟨e, he, rfl⟩)))
  refine ⟨hF, fun hk => ?_, List.mem_append_right _ h.gin, hlt, h.bg, h.bm, h1.game, h1.task, ?_⟩
  · rcases hmem gm hk with h2 | h2
    · exact h.nin h2
    · have := h.lt gm (.head _); omega
  · obtain ⟨kvs, a1, a2, a3⟩ := h.memo
    have hgm : w'.heap[gm]? = w.heap[gm]? := S.old gm (h.lt gm (.head _)) fun e he e1 => by
      rcases hL e he with h2 | h2
      · exact h.nin (e1 ▸ h2)
      · have := h.lt gm (.head _); omega
    refine ⟨kvs, hgm.trans a1, a2, fun e he => ?_⟩
    obtain ⟨k, s, q, c1, c2, c3, c4, c5⟩ := a3 e he
    refine ⟨k, s, q, c1, c2, c3, c4, (c5.keep fun j hj => ?_).mono fun j hj => ⟨hj.1, Nat.lt_of_lt_of_le hj.2.1 S.size, fun hk => ?_, hj.2.2.2⟩⟩
    · exact S.old j hj.2.1 fun e he e1 => by
        rcases hL e he with h2 | h2
        · exact hj.2.2.1 (e1 ▸ List.mem_cons_of_mem _ h2)
        · have := hj.2.1; omega
    · rcases hks j hk with h2 | h2
      · exact hj.2.2.1 h2
      · have := hj.2.1; omega
def rowKs (rs : List RowX) : List Nat := rs.filterMap fun r => r.v.ownBlock
theorem mem_rowKs {k : Nat} : k ∈ rowKs rs ↔ ∃ r, r ∈ rs ∧ r.v.ownBlock = some k := by
  unfold rowKs
  rw [List.mem_filterMap]
theorem Gam.down (h : Gam t v b0 g gm ks rs hs w) : Gam t v b0 g gm (rowKs rs ++ ks) [] [] w := by
  have hlt : ∀ k, k ∈ rowKs rs → k < w.heap.size ∧ b0 ≤ k ∧ k ∉ gm :: ks := fun k hk => by
    obtain ⟨r, hr, e⟩ := mem_rowKs.1 hk
    exact ⟨(h.fam.lt hr e).2, (h.fam.lt hr e).1, h.fam.sep r hr k e⟩
  refine ⟨⟨h.fam.base, fun r hr => (by cases hr), fun r hr => (by cases hr), .nil, fun r hr => (by cases hr), fun x hx => (by cases hx)⟩, ?_, List.mem_append_right _ h.gin, ?_, h.bg, h.bm, h.game, h.task, ?_⟩
  · intro hk
    rcases List.mem_append.1 hk with hk | hk
    · exact (hlt gm hk).2.2 (.head _)
    · exact h.nin hk
  · intro k hk
    rcases List.mem_cons.1 hk with rfl | hk
    · exact h.lt k (.head _)
    · rcases List.mem_append.1 hk with hk | hk
      · exact (hlt k hk).1
      · exact h.lt k (List.mem_cons_of_mem _ hk)
  · refine h.memo.mono fun j hj => ⟨hj.1, hj.2.1, fun hk => ?_, fun r hr => by cases hr⟩
    rcases List.mem_cons.1 hk with rfl | hk
    · exact hj.2.2.1 (.head _)
    · rcases List.mem_append.1 hk with hk | hk
      · obtain ⟨r, hr, e⟩ := mem_rowKs.1 hk
        exact hj.2.2.2 r hr e
      · exact hj.2.2.1 (List.mem_cons_of_mem _ hk)
theorem Since.sys {W : World} (h : Since wE gm W) (S : Sys B W L w') (hL : ∀ e, e ∈ L → (e.1 < wE.heap.size → W.heap[e.1]? = some e.2) ∧ e.1 ≠ gm) : Since wE gm w' :=
  ⟨S.os.trans h.os, S.tape.trans h.tape, S.output.trans h.output, Nat.le_trans h.size S.size, fun k hk hne => by
    rw [← h.old k hk hne]
    by_cases he : ∃ e, e ∈ L ∧ e.1 = k
    · obtain ⟨e, he, rfl⟩ := he
      rw [(S.own e he).2]
      exact ((hL e he).1 hk).symm
    · exact S.old k (Nat.lt_of_lt_of_le hk h.size) fun e h1 h2 => he ⟨e, h1, h2⟩⟩
theorem Since.refl {W : World} {gm : Nat} : Since W gm W := ⟨rfl, rfl, rfl, Nat.le_refl _, fun _ _ _ => rfl⟩
theorem Since.trans {A C D : World} (h : Since A gm C) (k : Since C gm D) : Since A gm D :=
  ⟨k.os.trans h.os, k.tape.trans h.tape, k.output.trans h.output, Nat.le_trans h.size k.size, fun j hj hne => (k.old j (Nat.lt_of_lt_of_le hj h.size) hne).trans (h.old j hj hne)⟩
theorem Since.made {A C D : World} (h : Since A gm C) (k : Below C.heap.size C D) : Since A gm D :=
  ⟨k.os.trans h.os, k.tape.trans h.tape, k.output.trans h.output, Nat.le_trans h.size k.size, fun j hj hne => (k.block j (Nat.lt_of_lt_of_le hj h.size)).trans (h.old j hj hne)⟩
theorem Since.below {A C : World} (h : Since A gm C) {b : Nat} (hb : b ≤ gm) (hs : b ≤ A.heap.size) : Below b A C :=
  ⟨h.os, h.tape, h.output, h.size, fun k hk => h.old k (Nat.lt_of_lt_of_le hk hs) (by omega)⟩
def GamR (t : CTk) (b0 gm : Nat) (ks : List Nat) (R : Value → List Held → Prop) (w : World) (e : Ending) (w' : World) : Prop :=
  ∃ x new, e = .returned x ∧ R x new ∧ Since w gm w' ∧ Mem5 t gm w' (Free w' b0 (gm :: ks) []) ∧ ∀ y, y ∈ new → y.p w' (Free w' b0 (gm :: ks) [])
theorem Gam.after (h : Gam t v b0 g gm ks rs hs w) {kk : List Nat} (hkk : kk = rowKs rs ++ ks) (hs' : Since w gm w') (hm : Mem5 t gm w' (Free w' b0 (gm :: kk) [])) (hx : ∀ y, y ∈ new → y.p w' (Free w' b0 (gm :: kk) [])) : Gam t v b0 g gm ks rs (new ++ hs) w' := by
  subst hkk
  have hfree : ∀ j, Free w' b0 (gm :: (rowKs rs ++ ks)) [] j → Free w' b0 (gm :: ks) rs j := fun j hj => ⟨hj.1, hj.2.1, fun hk => hj.2.2.1 (by
    rcases List.mem_cons.1 hk with rfl | hk
    · exact .head _
    · exact List.mem_cons_of_mem _ (List.mem_append_right _ hk)), fun r hr e => hj.2.2.1 (List.mem_cons_of_mem _ (List.mem_append_left _ (mem_rowKs.2 ⟨r, hr, e⟩)))⟩
  have hF : Fam w' b0 (gm :: ks) rs hs := h.fam.move hs'.size fun j hj hk => hs'.old j hj fun e => hk (e ▸ .head _)
  refine ⟨⟨hF.base, hF.row, hF.sep, hF.two, hF.ins, fun x hx' => ?_⟩, h.nin, h.gin, fun k hk => Nat.lt_of_lt_of_le (h.lt k hk) hs'.size, h.bg, h.bm, ?_, h.task.below (hs'.below h.bm h.fam.base), hm.mono hfree⟩
  · rcases List.mem_append.1 hx' with h1 | h1
    · exact x.mono (hx x h1) hfree
    · exact hF.held x h1
  · rw [hs'.old g (h.lt g (List.mem_cons_of_mem _ h.gin)) h.ne]; exact h.game
variable {P : Program} {N : Nat} {ds : List Deferred} {Q : Exit → Act → World → Prop} {F : Fr} {ops : Array Oper} {rest : List Oper} {ty : TypeId} {p : String} {af : Array Edge}
theorem XL.callG {f : FuncId} {d : Nat} {args : Array Operand} {vs : List Value} {ats : Array TypeId} (R : Value → List Held → Prop) (h : callOk P f = true)
    (ha : evos F args.toList = some vs) (hd : Nat.blt d N = true) (hG : Gam t v b0 g gm ks rs hs w0) (hSn : Since wE gm w0) (hg : (g, gamO v t gm) ∈ L)
    (hc : ∀ w ks2, Gam t v b0 g gm ks2 [] [] w → Calls P f vs.toArray w (GamR t b0 gm ks2 R w))
    (k : ∀ w' x new, R x new → Gam t v b0 g gm (L.map (·.1) ++ ks) rs (new ++ hs) w' → Since wE gm w' → XL P N b0 w' ds Q ops rest ((d, x) :: F) L)
    (hL : ∀ e, e ∈ L → e.1 ∈ ks ∨ w0.heap.size ≤ e.1 := by exact ZZHM) (hLE : ∀ e, e ∈ L → e.1 ∈ [g] ∨ wE.heap.size ≤ e.1 := by exact ZZHM) :
    XL P N b0 w0 ds Q ops ({ dst := some d, op := .call { callee := .value (.func f), args := args, argTypes := ats }, type := ty, pos := p, after := af, guard := none } :: rest) F L := by
  refine XL.callr (fst := []) (cap := []) (fun w x w' => ∃ new, R x new ∧ Gam t v b0 g gm (L.map (·.1) ++ ks) rs (new ++ hs) w' ∧ Since w gm w') h rfl ha hd (fun w S => ?_) (fun w x w' S hR => ?_)
  · have hA := hG.add S hg hL
    have := hc w _ hA.down
    simp only [List.nil_append, List.append_nil]
    exact this.mono fun e w' ⟨x, new, e1, e2, e3, e4, e5⟩ => ⟨x, e1, new, e2, hA.after rfl e3 e4 e5, e3⟩
  · obtain ⟨new, e2, hG', e3⟩ := hR
    have hne : ∀ e, e ∈ L → e.1 ≠ gm := fun e he e1 => by
      rcases hL e he with h1 | h1
      · exact hG.nin (e1 ▸ h1)
      · have := hG.lt gm (.head _); omega
    have S' : Sys b0 w' L w' := Sys.start hG'.fam.base (fun e he => ⟨(S.own e he).1, by rw [e3.old e.1 (S.lt he) (hne e he)]; exact (S.own e he).2⟩) S.nd
    refine ⟨L, w', S', k w' x new e2 hG' ((hSn.sys S fun e he => ⟨fun hlt => ?_, hne e he⟩).trans e3)⟩
    rcases hLE e he with h1 | h1
    · rw [List.mem_singleton] at h1
      have h2 : e = (g, gamO v t gm) := by
        have a1 := (S.own e he).2
        have a2 := (S.own _ hg).2
        rw [h1] at a1
        simp only at a2
        rw [a1] at a2
        exact Prod.ext h1 (Option.some.inj a2)
      rw [h2]; exact hG.game
    · omega
end
end Go.Proofs.YtmpaiphakjogjaaGreat.X
