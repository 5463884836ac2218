/-
  The walks of the document's never, planned, fits, span, ruled and first (closure).
-/
import Derived.Test.YtmpaiphakjogjaaGreatPart5
import Derived.Test.YtmpaiphakjogjaaGreatPart3
import Derived.Test.YtmpaiphakjogjaaGreatPart4
set_option linter.unusedVariables false
set_option linter.unusedSimpArgs false
namespace Go.Proofs.YtmpaiphakjogjaaGreat.Bs
open Go Go.Proofs.YtmpaiphakjogjaaGreat.X
def CTk.fstI (t : CTk) (k : Nat) : Int := match t.fst k with
  | none => -1
  | some i => t.from_ + (i : Nat)
noncomputable def CTk.rspan (t : CTk) (x : RL) : Int × Int := if x.shut = true then (lvlLo t.b x.n, lvlHi t.b x.n) else (x.n, x.n)
theorem plan_b {p : CPl} : decide (p = nev) = (decide (p.close = -1) && decide (p.open_ = -1)) := by
  obtain ⟨c, o⟩ := p
  by_cases h1 : c = -1 <;> by_cases h2 : o = -1 <;> simp [nev, h1, h2]
end Go.Proofs.YtmpaiphakjogjaaGreat.Bs
namespace Go.Proofs.YtmpaiphakjogjaaGreat.X
open Go Go.RowKit Go.Proofs.YtmpaiphakjogjaaGreat.Bs
section
variable {v : CTV} {t : CTk} {w : World}
def rlV (x : RL) : Value := .agg ⟨[.bool x.shut, .bool x.great, .int .i64 x.n]⟩
theorem rnever5_any (w : World) : Calls Tryz.prog 51 #[] w fun e w' => e = .returned (.agg ⟨[.int .i64 (-1), .int .i64 (-1)]⟩) ∧ Below w.heap.size w w' := by
  refine enter Tryz.func51 rfl Tryz.ntmps51 rfl ?_; simp only [frame, Nat.zero_add, Nat.reduceAdd]
  repeat (first | (refine M0 ?_; first | refine SL ?_ | refine SB fun _ _ => ?_) | (refine M1 ?_; refine SC ?_) | (refine M2 ?_; refine SE ?_))
  refine XE.retg tok Tryz.results51 rfl (by simp only [and_self, and_true]) (fun w' S => ?_)
  exact ⟨rfl, S.toBelow⟩
theorem ruled5_any {r : CRu} (hT : CtAt w w.heap.size v t) :
    Calls Tryz.prog 43 #[ctkV v t, ruV r] w fun e w' => e = .returned (.int .i64 (ruE t r)) ∧ Below w.heap.size w w' := by
  have hgo := fun {L : Lo} (w5 : World) (S5 : Sys w.heap.size w L w5) => good5_any (hT.sys S5)
  simp only [ctkV, ctkC, ruV] at hgo ⊢
  unfold ruE
  refine enter Tryz.func43 rfl Tryz.ntmps43 rfl ?_; simp only [frame, Nat.zero_add, Nat.reduceAdd]
  repeat (first | (refine M0 ?_; first | refine SL ?_ | refine SB fun _ _ => ?_ | refine Y4 (Ev.call (f := 34) (ck rfl) rfl (fun w5 S5 => hgo w5 S5)) ?_) | (refine M1 ?_; refine SC ?_) | (refine M2 ?_; refine SE ?_))
  by_cases hc : ctE t = 0
  rotate_left
  · rw [show decide (ctE t = 0) = false from decide_eq_false hc, if_pos hc]
    repeat (first | (refine M0 ?_; first | refine SL ?_ | refine SB fun _ _ => ?_) | (refine M1 ?_; refine SC ?_) | (refine M2 ?_; refine SE ?_))
    refine XE.retg tok Tryz.results43 rfl (by simp only [and_self, and_true]) (fun w' S => ?_)
    exact ⟨rfl, S.toBelow⟩
  rw [show decide (ctE t = 0) = true from decide_eq_true hc, if_neg (fun h => h hc)]
  repeat (first | (refine M0 ?_; first | refine SL ?_ | refine SB fun _ _ => ?_ | refine Y4 (Ev.call (f := 35) (ck rfl) rfl (fun w _ => in5_any _ _ _ w)) ?_) | (refine M1 ?_; refine SC ?_) | (refine M2 ?_; refine SE ?_))
  cases hb1 : outB r.count 1 8 with
  | true =>
    repeat (first | (refine M0 ?_; first | refine SL ?_ | refine SB fun _ _ => ?_) | (refine M1 ?_; refine SC ?_) | (refine M2 ?_; refine SE ?_))
    refine XE.retg tok Tryz.results43 rfl (by simp only [and_self, and_true]) (fun w' S => ?_)
    exact ⟨rfl, S.toBelow⟩
  | false =>
    repeat (first | (refine M0 ?_; first | refine SL ?_ | refine SB fun _ _ => ?_ | refine Y4 (Ev.call (f := 35) (ck rfl) rfl (fun w _ => in5_any _ _ _ w)) ?_) | (refine M1 ?_; refine SC ?_) | (refine M2 ?_; refine SE ?_))
    cases hb2 : outB r.early 0 60 with
    | true =>
      repeat (first | (refine M0 ?_; first | refine SL ?_ | refine SB fun _ _ => ?_) | (refine M1 ?_; refine SC ?_) | (refine M2 ?_; refine SE ?_))
      refine XE.retg tok Tryz.results43 rfl (by simp only [and_self, and_true]) (fun w' S => ?_)
      exact ⟨rfl, S.toBelow⟩
    | false =>
      repeat (first | (refine M0 ?_; first | refine SL ?_ | refine SB fun _ _ => ?_) | (refine M1 ?_; refine SC ?_) | (refine M2 ?_; refine SE ?_))
      refine XE.retg tok Tryz.results43 rfl (by simp only [and_self, and_true]) (fun w' S => ?_)
      exact ⟨by rw [hc]; rfl, S.toBelow⟩
set_option maxHeartbeats 4000000 in
theorem planned5_any {p : CPl} (hT : CtAt w w.heap.size v t) (ho : CtOk t) :
    Calls Tryz.prog 61 #[ctkV v t, plnV p] w fun e w' => e = .returned (.bool (!t.strange p)) ∧ Below w.heap.size w w' := by
  have hca := fun {L : Lo} (w5 : World) (S5 : Sys w.heap.size w L w5) => can5_any (i := p.close) (hT.sys S5) ho
  have hen := fun {L : Lo} (w5 : World) (S5 : Sys w.heap.size w L w5) => end5_any (hT.sys S5) ho
  have h2 := ho.dly
  have h3 := ho.frm
  have h4 := ho.n60
  obtain ⟨c, o⟩ := p
  simp only [ctkV, ctkC, plnV] at hca hen ⊢
  by_cases hn : (⟨c, o⟩ : CPl) = nev
  · obtain ⟨rfl, rfl⟩ : c = -1 ∧ o = -1 := ⟨congrArg CPl.close hn, congrArg CPl.open_ hn⟩
    rw [show t.strange ⟨-1, -1⟩ = false from nev_ok t]
    refine enter Tryz.func61 rfl Tryz.ntmps61 rfl ?_; simp only [frame, Nat.zero_add, Nat.reduceAdd]
    repeat (first | (refine M0 ?_; first | refine SL ?_ | refine SB fun _ _ => ?_) | (refine M1 ?_; refine SC ?_) | (refine M2 ?_; refine SE ?_))
    refine XE.retg tok Tryz.results61 rfl (by simp only [and_self, and_true]) (fun w' S => ?_)
    exact ⟨rfl, S.toBelow⟩
  have hs : t.strange ⟨c, o⟩ = (outB c t.from_ (t.from_ + t.last) || outB o (c + t.delay + 1) (t.from_ + t.n)) := by
    unfold CTk.strange
    rw [decide_eq_true hn, Bool.true_and]
  rw [hs]
  by_cases h1 : c = -1
  · have ho1 : ¬ o = -1 := fun h => hn (by rw [h1, h]; rfl)
    subst h1
    have hb : outB (-1) t.from_ (t.from_ + t.last) = true := by
      cases hx : outB (-1) t.from_ (t.from_ + t.last) with
      | true => rfl
      | false => have := outB_f.1 hx; omega
    rw [hb] at hca ⊢
    refine enter Tryz.func61 rfl Tryz.ntmps61 rfl ?_; simp only [frame, Nat.zero_add, Nat.reduceAdd]
    repeat (first | (refine M0 ?_; first | refine SL ?_ | refine SB fun _ _ => ?_) | (refine M1 ?_; refine SC ?_) | (refine M2 ?_; refine SE ?_))
    rw [show decide (o = -1) = false from decide_eq_false ho1]
    repeat (first | (refine M0 ?_; first | refine SL ?_ | refine SB fun _ _ => ?_) | (refine M1 ?_; refine SC ?_) | (refine M2 ?_; refine SE ?_))
    refine XC.drawT mixed rfl rfl (by kernel_rfl) ?_
    repeat (first | (refine M0 ?_; first | refine SL ?_ | refine SB fun _ _ => ?_ | refine Y4 (Ev.call (f := 81) (ck rfl) rfl (fun w5 S5 => hca w5 S5)) ?_) | (refine M2 ?_; refine SE ?_) | (refine M3 ?_; first | refine SG ?_ | refine SF ?_ | refine YF (Ev.call (f := 81) (ck rfl) rfl (fun w5 S5 => hca w5 S5)) ?_) | (refine M4 ?_; refine SR ?_) | (refine M5 ?_; first | exact M7 | refine YM ?_ | refine YN ?_ ?_))
    repeat (first | (refine M0 ?_; first | refine SL ?_ | refine SB fun _ _ => ?_) | (refine M1 ?_; refine SC ?_) | (refine M2 ?_; refine SE ?_))
    refine XE.retg tok Tryz.results61 rfl (by simp only [and_self, and_true]) (fun w' S => ?_)
    exact ⟨rfl, S.toBelow⟩
  · cases hb : outB c t.from_ (t.from_ + t.last) with
    | true =>
      simp only [hb] at hca
      refine enter Tryz.func61 rfl Tryz.ntmps61 rfl ?_; simp only [frame, Nat.zero_add, Nat.reduceAdd]
      repeat (first | (refine M0 ?_; first | refine SL ?_ | refine SB fun _ _ => ?_) | (refine M1 ?_; refine SC ?_) | (refine M2 ?_; refine SE ?_))
      rw [show decide (c = -1) = false from decide_eq_false h1]
      repeat (first | (refine M0 ?_; first | refine SL ?_ | refine SB fun _ _ => ?_) | (refine M1 ?_; refine SC ?_) | (refine M2 ?_; refine SE ?_))
      refine XC.drawT mixed rfl rfl (by kernel_rfl) ?_
      repeat (first | (refine M0 ?_; first | refine SL ?_ | refine SB fun _ _ => ?_ | refine Y4 (Ev.call (f := 81) (ck rfl) rfl (fun w5 S5 => hca w5 S5)) ?_) | (refine M2 ?_; refine SE ?_) | (refine M3 ?_; first | refine SG ?_ | refine SF ?_ | refine YF (Ev.call (f := 81) (ck rfl) rfl (fun w5 S5 => hca w5 S5)) ?_) | (refine M4 ?_; refine SR ?_) | (refine M5 ?_; first | exact M7 | refine YM ?_ | refine YN ?_ ?_))
      repeat (first | (refine M0 ?_; first | refine SL ?_ | refine SB fun _ _ => ?_) | (refine M1 ?_; refine SC ?_) | (refine M2 ?_; refine SE ?_))
      refine XE.retg tok Tryz.results61 rfl (by simp only [and_self, and_true]) (fun w' S => ?_)
      exact ⟨rfl, S.toBelow⟩
    | false =>
      have hb1 := outB_f.1 hb
      have hl : t.last ≤ 60 := by unfold CTk.last; omega
      simp only [hb] at hca
      refine enter Tryz.func61 rfl Tryz.ntmps61 rfl ?_; simp only [frame, Nat.zero_add, Nat.reduceAdd]
      repeat (first | (refine M0 ?_; first | refine SL ?_ | refine SB fun _ _ => ?_) | (refine M1 ?_; refine SC ?_) | (refine M2 ?_; refine SE ?_))
      rw [show decide (c = -1) = false from decide_eq_false h1]
      repeat (first | (refine M0 ?_; first | refine SL ?_ | refine SB fun _ _ => ?_) | (refine M1 ?_; refine SC ?_) | (refine M2 ?_; refine SE ?_))
      refine XC.drawT mixed rfl rfl (by kernel_rfl) ?_
      repeat (first | (refine M0 ?_; first | refine SL ?_ | refine SB fun _ _ => ?_ | refine Y4 (Ev.call (f := 81) (ck rfl) rfl (fun w5 S5 => hca w5 S5)) ?_ | refine Y4 (Ev.call (f := 36) (ck rfl) rfl (fun w5 S5 => hen w5 S5)) ?_ | refine Y4 (Ev.call (f := 35) (ck rfl) rfl (fun w _ => in5_any _ _ _ w)) ?_) | (refine M2 ?_; refine SE ?_) | (refine M3 ?_; first | refine SG ?_ | refine SF ?_ | refine YF (Ev.call (f := 81) (ck rfl) rfl (fun w5 S5 => hca w5 S5)) ?_ | refine YF (Ev.call (f := 36) (ck rfl) rfl (fun w5 S5 => hen w5 S5)) ?_ | refine YF (Ev.call (f := 35) (ck rfl) rfl (fun w _ => in5_any _ _ _ w)) ?_) | (refine M4 ?_; refine SR ?_) | (refine M5 ?_; first | exact M7 | refine YM ?_ | refine YN ?_ ?_))
      repeat (first | (refine M0 ?_; first | refine SL ?_ | refine SB fun _ _ => ?_) | (refine M1 ?_; refine SC ?_) | (refine M2 ?_; refine SE ?_))
      refine XE.retg tok Tryz.results61 rfl (by simp only [and_self, and_true]) (fun w' S => ?_)
      exact ⟨rfl, S.toBelow⟩
theorem fits5_any {x : RL} {l : Int} (hT : CtAt w w.heap.size v t) :
    Calls Tryz.prog 79 #[ctkV v t, rlV x, .int .i64 l] w fun e w' => e = .returned (.bool (t.fits x l)) ∧ Below w.heap.size w w' := by
  have hlv := fun {L : Lo} (w5 : World) (S5 : Sys w.heap.size w L w5) => refLevel_any (v := x.n) (hT.sys S5).bas
  obtain ⟨s, g, n⟩ := x
  unfold CTk.fits
  simp only [ctkV, ctkC, rlV, basV, basC, spanV] at hlv ⊢
  refine enter Tryz.func79 rfl Tryz.ntmps79 rfl ?_; simp only [frame, Nat.zero_add, Nat.reduceAdd]
  cases s with
  | false =>
    repeat (first | (refine M0 ?_; first | refine SL ?_ | refine SB fun _ _ => ?_) | (refine M1 ?_; refine SC ?_) | (refine M2 ?_; refine SE ?_))
    refine XE.retg tok Tryz.results79 rfl (by simp only [and_self, and_true]) (fun w' S => ?_)
    exact ⟨rfl, S.toBelow⟩
  | true =>
    cases g with
    | true =>
      repeat (first | (refine M0 ?_; first | refine SL ?_ | refine SB fun _ _ => ?_) | (refine M1 ?_; refine SC ?_) | (refine M2 ?_; refine SE ?_))
      refine XE.retg tok Tryz.results79 rfl (by simp only [and_self, and_true]) (fun w' S => ?_)
      exact ⟨rfl, S.toBelow⟩
    | false =>
      repeat (first | (refine M0 ?_; first | refine SL ?_ | refine SB fun _ _ => ?_ | refine Y4 (Ev.call (f := 91) (ck rfl) rfl (fun w5 S5 => hlv w5 S5)) ?_) | (refine M1 ?_; refine SC ?_) | (refine M2 ?_; refine SE ?_))
      refine XE.retg tok Tryz.results79 rfl (by simp only [and_self, and_true]) (fun w' S => ?_)
      exact ⟨rfl, S.toBelow⟩
theorem rspan5_any {x : RL} (hT : CtAt w w.heap.size v t) :
    Calls Tryz.prog 63 #[ctkV v t, rlV x] w fun e w' => e = .returned (.agg ⟨[.int .i64 (t.rspan x).1, .int .i64 (t.rspan x).2]⟩) ∧ Below w.heap.size w w' := by
  have hlv := fun {L : Lo} (w5 : World) (S5 : Sys w.heap.size w L w5) => refLevel_any (v := x.n) (hT.sys S5).bas
  obtain ⟨s, g, n⟩ := x
  unfold CTk.rspan
  simp only [ctkV, ctkC, rlV, basV, basC, spanV] at hlv ⊢
  refine enter Tryz.func63 rfl Tryz.ntmps63 rfl ?_; simp only [frame, Nat.zero_add, Nat.reduceAdd]
  cases s with
  | false =>
    repeat (first | (refine M0 ?_; first | refine SL ?_ | refine SB fun _ _ => ?_) | (refine M1 ?_; refine SC ?_) | (refine M2 ?_; refine SE ?_))
    refine XE.retg tok Tryz.results63 rfl (by simp only [and_self, and_true]) (fun w' S => ?_)
    exact ⟨rfl, S.toBelow⟩
  | true =>
    repeat (first | (refine M0 ?_; first | refine SL ?_ | refine SB fun _ _ => ?_ | refine Y4 (Ev.call (f := 91) (ck rfl) rfl (fun w5 S5 => hlv w5 S5)) ?_) | (refine M1 ?_; refine SC ?_) | (refine M2 ?_; refine SE ?_))
    refine XE.retg tok Tryz.results63 rfl (by simp only [and_self, and_true]) (fun w' S => ?_)
    exact ⟨rfl, S.toBelow⟩
theorem first5_any {k : Nat} (hT : CtAt w w.heap.size v t) (ho : CtOk t) (hk : k < t.m) :
    Calls Tryz.prog 82 #[ctkV v t, .int .i64 (k : Nat)] w fun e w' => e = .returned (.int .i64 (t.fstI k)) ∧ Below w.heap.size w w' := by
  have hfr := fun (w5 : World) (hB : Below w.heap.size w w5) => from5_any (hT.sys (Sys.ofBelow hB)) ho
  have hen := fun (w5 : World) (hB : Below w.heap.size w w5) => end5_any (hT.sys (Sys.ofBelow hB)) ho
  have hhi := fun (i : Nat) (hi : i < t.n) (w5 : World) (hB : Below w.heap.size w w5) => high5_any (k := k) (i := i) (hT.sys (Sys.ofBelow hB)) ho hk hi rfl
  have h1 := ho.frm
  have h3 := ho.n60
  simp only [ctkV, ctkC] at hfr hen hhi ⊢
  refine enter Tryz.func82 rfl Tryz.ntmps82 rfl ?_; simp only [frame, Nat.zero_add, Nat.reduceAdd]
  repeat (first | (refine M0 ?_; first | refine SL ?_ | refine SB fun _ _ => ?_ | refine Y4 (Ev.call (f := 37) (ck rfl) rfl (fun w5 S5 => hfr w5 S5.toBelow)) ?_) | (refine M1 ?_; refine SC ?_) | (refine M2 ?_; refine SE ?_))
  rename_i g2 hg2
  refine XC.loopk [1, 2] rfl (fun i : Nat => [(5, .int .i64 (t.from_ + (i : Nat)))]) (fun _ => [(g2, cel 29 (ctkC v t))]) (fun _ => w) (fun i => i ≤ t.n ∧ ∀ j, j < i → ¬ t.limit < t.v k j) (fun i => t.n - i) 0 ⟨Nat.zero_le _, fun j hj => absurd hj (by simp)⟩ ?_ (fun _ h => h) ?_
  · have e0 : t.from_ + ((0 : Nat) : Int) = t.from_ := by omega
    simp only [e0]
    exact ZZSUB
  rintro i ⟨hi, hno⟩
  simp only [ctkC]
  dsimp only [List.cons_append, List.nil_append]
  repeat (first | (refine M0 ?_; first | refine SL ?_ | refine SB fun _ _ => ?_ | refine Y4 (Ev.call (f := 36) (ck rfl) rfl (fun w5 S5 => hen w5 S5.toBelow)) ?_) | (refine M1 ?_; refine SC ?_) | (refine M2 ?_; refine SE ?_))
  refine XC.cond _ rfl (fun h2 => ?_) (fun h2 => ?_)
  rotate_left
  · have hin : i = t.n := by have := of_decide_eq_false h2; omega
    subst hin
    repeat (first | (refine M0 ?_; first | refine SL ?_ | refine SB fun _ _ => ?_) | (refine M1 ?_; refine SC ?_) | (refine M2 ?_; refine SE ?_))
    refine XE.retg tok Tryz.results82 rfl (by simp only [and_self, and_true]) (fun w' S => ?_)
    have e1 : t.fstI k = -1 := by
      unfold CTk.fstI CTk.fst
      rw [firstB_none.2 fun j hj => decide_eq_false (hno j hj)]
    rw [e1]
    exact ⟨rfl, S.toBelow⟩
  have hin : i < t.n := by have := of_decide_eq_true h2; omega
  have hhi := hhi i hin
  by_cases hh : t.limit < t.v k i
  · simp only [decide_eq_true hh] at hhi
    repeat (first | (refine M0 ?_; first | refine SL ?_ | refine SB fun _ _ => ?_ | refine Y4 (Ev.call (f := 98) (ck rfl) rfl (fun w5 S5 => hhi w5 S5.toBelow)) ?_) | (refine M1 ?_; refine SC ?_) | (refine M2 ?_; refine SE ?_))
    refine XE.retg tok Tryz.results82 rfl (by simp only [and_self, and_true]) (fun w' S => ?_)
    have e1 : t.fstI k = t.from_ + (i : Nat) := by
      unfold CTk.fstI CTk.fst
      rw [firstB_some.2 ⟨hin, decide_eq_true hh, fun j hj => decide_eq_false (hno j hj)⟩]
    rw [e1]
    exact ⟨rfl, S.toBelow⟩
  · simp only [decide_eq_false hh] at hhi
    repeat (first | (refine M0 ?_; first | refine SL ?_ | refine SB fun _ _ => ?_ | refine Y4 (Ev.call (f := 98) (ck rfl) rfl (fun w5 S5 => hhi w5 S5.toBelow)) ?_) | (refine M1 ?_; refine SC ?_) | (refine M2 ?_; refine SE ?_))
    refine XE.round (s := i) (i + 1) ⟨hin, fun j hj => ?_⟩ (by omega) ?_ (fun _ h => h)
    · rcases Nat.lt_or_ge j i with h5 | h5
      · exact hno j h5
      · have : j = i := by omega
        subst this; exact hh
    · rw [show t.from_ + ((i + 1 : Nat) : Int) = t.from_ + (i : Int) + 1 by omega]
      exact ZZSUB
end
end Go.Proofs.YtmpaiphakjogjaaGreat.X
namespace Go.Proofs.YtmpaiphakjogjaaGreat.X
open Go Go.RowKit Go.Proofs.YtmpaiphakjogjaaGreat.Bs
def rlK5 : Kind RL := ⟨121, 3, fun x => [.bool x.shut, .bool x.great, .int .i64 x.n], fun _ => [], fun _ => rfl⟩
theorem rl5_el : elemOk Tryz.prog 118 rlK5.ty rlK5.m 16 = true := by kernel_rfl
def RlsV (t : CTk) (k : Nat) (p : CPl) (x : Value) (new : List Held) : Prop := ∃ q : SV, x = svV q ∧ new = [hList rlK5 q ((List.range t.n).map (t.rl k p))]
def StepMV5 (b : Bas) (s : Sta) (t : Tick) (v : Value) (new : List Held) : Prop := ∃ q r : SV, v = .tuple ⟨[staV q (outS b s t), floV r (outF b s t), .int .i64 (stepE b s t)]⟩ ∧ new = [hInts q (outS b s t).fil, hInts r (outF b s t).taken]
theorem refStep_made5 {p : BV} {b : Bas} {q : SV} {s : Sta} {t : Tick} {w : World} (hb : BasAt w w.heap.size p b) (hq : IntsAt w (Lt w.heap.size) q s.fil) (hc : chkE b = 0) (hs : StaOk b s) :
    Calls Tryz.prog 90 #[basV p b, staV q s, tickV t] w (Made w (StepMV5 b s t)) :=
  (refStepC_any (t := t) hb hq).mono fun e w' ⟨v, h1, ⟨q2, r2, h2, h3, h4, h5⟩⟩ => by
    obtain ⟨f1, f2, f3⟩ := full_0 (t := t) (staErr_ok hc hs)
    rw [f1, f2, f3] at h2
    rw [f2] at h3
    rw [f3] at h4
    exact ⟨v, _, h1, ⟨q2, r2, h2, rfl⟩, fun x hx => by
      rcases List.mem_cons.1 hx with rfl | hx
      · exact h3
      · rw [List.mem_singleton.1 hx]; exact h4, h5⟩
theorem intArg {w W : World} {b0 : Nat} {ks : List Nat} {rs : List RowX} {hs : List Held} {q : SV} {l : List Int} (hF : Fam W b0 ks rs hs) (hB : Below w.heap.size w W) (h : hInts q l ∈ hs ∨ IntsAt w (Lt w.heap.size) q l) : IntsAt W (Lt W.heap.size) q l := by
  rcases h with h | h
  · exact Held.lt (x := hInts q l) (hF.get h)
  · exact (h.below hB).mono fun j hj => Nat.lt_of_lt_of_le hj hB.size
theorem vol0_ok {t : CTk} {k i : Nat} (ho : CtOk t) (hk : k < t.m) (hin : i < t.n) : StaOk t.b ⟨t.vol0 k i, t.fil⟩ := rs_ok ho hk hin (j := 0) rfl
set_option maxHeartbeats 16000000 in
theorem levels5_made {v : CTV} {t : CTk} {k : Nat} {p : CPl} {w : World} (hT : CtAt w w.heap.size v t) (ho : CtOk t) (hk : k < t.m) (hp : t.strange p = false) :
    Calls Tryz.prog 62 #[ctkV v t, .int .i64 (k : Nat), plnV p] w (Made w (RlsV t k p)) := by
  have hfr := fun (w5 : World) (hB : Below w.heap.size w w5) => from5_any (hT.sys (Sys.ofBelow hB)) ho
  obtain ⟨vp, vf, vh, vr⟩ := v
  have hhn := hT.hn
  have h1n := ho.n1
  have h60 := ho.n60
  have hdl := ho.dly
  have hfm := ho.frm
  have hm8 := ho.m8
  obtain ⟨ah, ⟨Ak, nk, ck1⟩, e1, hlth, hck, hqk⟩ := hT.hisAt hk
  have hlk := hqk.len
  simp only at hlk e1 hhn
  have hlen : (t.h k).vals.length = t.n := ho.len k hk
  rw [hlen] at hlk
  subst hlk
  obtain ⟨ak, rfl, hltk, hvk⟩ := hqk.at_ (by omega)
  have dV : ∀ i, i < t.n → w.cell? (ak.add (i * 1)) = some (.int .i64 (t.v k i)) := fun i hi => hvk i (by rw [hlen]; exact hi)
  have hbas := hT.bas
  have hrows := hbas.n_eq
  obtain ⟨A1, n1, cb, Ab2, nb2, cb2⟩ := vp
  simp only at hrows hbas
  subst hrows
  have hr2 := ho.ok.n2
  obtain ⟨ab, rfl, hltb⟩ := hbas.rows.addr (by simp only; omega)
  have dlev : w.cell? ((ab.add (0 * 2)).add 0) = some (.int .i64 (t.b.row 0).level) := hbas.rowLevel (by omega)
  have hriv := hT.river
  have hrn := hriv.len
  obtain ⟨Ar, nr, cr⟩ := vr
  simp only at hrn hriv
  have hrl : t.river.length = t.n := ho.river
  rw [hrl] at hrn
  subst hrn
  obtain ⟨ar, rfl, hltr, hrv⟩ := hriv.at_ (by omega)
  have dR : ∀ i, i < t.n → w.cell? (ar.add (i * 1)) = some (.int .i64 (at0 t.river i)) := fun i hi => hrv i (by omega)
  obtain ⟨Ah, nh, ch⟩ := vh
  simp only at e1 hhn
  subst e1 hhn
  obtain ⟨Af, nf, cf⟩ := vf
  have hfil := hT.fil
  simp only at hfil
  obtain ⟨c, o⟩ := p
  have hls0 : t.ls k ⟨c, o⟩ 0 = (⟨0, []⟩, false) := by
    refine ls_0 ?_
    by_cases hn : (⟨c, o⟩ : CPl) = nev
    · exact .inl hn
    · right
      have := (strange_f hp hn).1
      unfold CTk.shutI
      simp only at this ⊢
      omega
  simp only [ctkV, ctkC, plnV] at hfr ⊢
  refine enter Tryz.func62 rfl Tryz.ntmps62 rfl ?_; simp only [frame, Nat.zero_add, Nat.reduceAdd]
  repeat (first | (refine M0 ?_; first | refine SL ?_ | refine SB fun _ _ => ?_ | refine Y4 (Ev.load_old_agg tok [.int .i64 (t.h k).from_, .slice (some ak) t.n ck1] rfl rfl rfl (add_lt hlth) hck) ?_) | (refine M1 ?_; refine SC ?_) | (refine M2 ?_; refine SE ?_))
  rename_i g3 hg3 g5 hg5 g7 hg7 g9 hg9
  refine XC.rebase (List.Sublist.refl _) (fun W0 S0 => ?_)
  have hF0 : Fam W0 w.heap.size [g9, g7, g5, g3] [⟨RL, rlK5, .slice none 0 0, []⟩] [] := Fam.nil rlK5 (Fam.start S0.size)
  have hks0 : ∀ x, x ∈ [g9, g7, g5, g3] → x < W0.heap.size := fun x hx => S0.keyLt x hx
  have hnd := S0.nd
  simp only [List.map_cons, List.map_nil, List.nodup_cons, List.mem_cons, List.not_mem_nil, or_false, not_or, not_false_eq_true, List.nodup_nil, and_true] at hnd
  obtain ⟨⟨n97, n95, n93⟩, ⟨n75, n73⟩, n53⟩ := hnd
  have hle : w.heap.size ≤ w.heap.size := Nat.le_refl _
  have dVt : ∀ i, i < t.n → (trunc w w.heap.size).cell? (ak.add (i * 1)) = some (.int .i64 (t.v k i)) := fun i hi => (trunc_cell (by rw [add_block]; exact hltk)).trans (dV i hi)
  have dRt : ∀ i, i < t.n → (trunc w w.heap.size).cell? (ar.add (i * 1)) = some (.int .i64 (at0 t.river i)) := fun i hi => (trunc_cell (by rw [add_block]; exact hltr)).trans (dR i hi)
  refine XC.loopk [3, 5, 7, 9] rfl (fun z : Nat × World × SV × SV => [(8, svV z.2.2.1), (10, .bool (t.ls k ⟨c, o⟩ z.1).2), (11, .int .i64 (z.1 : Nat))]) (fun z => [(g9, cel 153 [.int .i64 (t.ls k ⟨c, o⟩ z.1).1.vol, .slice z.2.2.2.A z.2.2.2.n z.2.2.2.c]), (g7, cel 133 [.int .i64 (t.h k).from_, .slice (some ak) t.n ck1]), (g5, cel 42 [.int .i64 c, .int .i64 o]), (g3, cel 29 (ctkC ⟨⟨some ab, t.b.rows.length, cb, Ab2, nb2, cb2⟩, ⟨Af, nf, cf⟩, ⟨some ah, t.m, ch⟩, ⟨some ar, t.n, cr⟩⟩ t))]) (fun z => z.2.1)
    (fun z => z.1 ≤ t.n ∧ Below w.heap.size w z.2.1 ∧ (∃ hs, Fam z.2.1 w.heap.size [g9, g7, g5, g3] [⟨RL, rlK5, svV z.2.2.1, (List.range z.1).map (t.rl k ⟨c, o⟩)⟩] hs ∧ (hInts z.2.2.2 (t.ls k ⟨c, o⟩ z.1).1.fil ∈ hs ∨ IntsAt w (Lt w.heap.size) z.2.2.2 (t.ls k ⟨c, o⟩ z.1).1.fil)) ∧ ∀ x, x ∈ [g9, g7, g5, g3] → x < z.2.1.heap.size) (fun z => t.n - z.1) (0, W0, ⟨none, 0, 0⟩, ⟨none, 0, 0⟩)
    ⟨Nat.zero_le _, S0.toBelow, ⟨[], hF0, .inr (by rw [hls0]; exact IntsAt.nil)⟩, hks0⟩ (by simp only [hls0]; exact ZZSUB) (fun _ h => by simp only [hls0]; exact h) ?_
  rintro ⟨i, W, ⟨rA, rn, rc⟩, qf⟩ ⟨hi, hBW, ⟨hs, hFW, hfi⟩, hks⟩
  simp only at hi hBW hFW hfi hks
  simp only [svV, ctkC]
  dsimp only [List.cons_append, List.nil_append]
  repeat (first | (refine M0 ?_; first | refine SL ?_ | refine SB fun _ _ => ?_) | (refine M1 ?_; refine SC ?_) | (refine M2 ?_; refine SE ?_))
  refine XC.cond _ rfl (fun h2 => ?_) (fun h2 => ?_)
  rotate_left
  · have hin : i = t.n := by have := of_decide_eq_false h2; omega
    subst hin
    repeat (first | (refine M0 ?_; first | refine SL ?_ | refine SB fun _ _ => ?_) | (refine M1 ?_; refine SC ?_) | (refine M2 ?_; refine SE ?_))
    refine XE.retg tok Tryz.results62 rfl (by simp only [and_self, and_true]) (fun w' S => ?_)
    exact ⟨_, _, rfl, ⟨⟨rA, rn, rc⟩, rfl, rfl⟩, fun x hx => by rw [List.mem_singleton.1 hx]; exact (hFW.sys S ZZHL).listOf (K := rlK5) (.head _), hBW.trans S.toBelow⟩
  have hin : i < t.n := by have := of_decide_eq_true h2; omega
  have dVW : W.cell? (ak.add (i * 1)) = some (.int .i64 (t.v k i)) := (below_cell5 hBW (add_lt hltk)).trans (dV i hin)
  have hrl1 : (List.range (i + 1)).map (t.rl k ⟨c, o⟩) = (List.range i).map (t.rl k ⟨c, o⟩) ++ [t.rl k ⟨c, o⟩ i] := by rw [List.range_succ, List.map_append]; rfl
  repeat (first | (refine M0 ?_; first | refine SL ?_ | refine SB fun _ _ => ?_) | (refine M1 ?_; refine SC ?_) | (refine M2 ?_; refine SE ?_))
  repeat (first | (refine M0 ?_; first | refine SL ?_ | refine SB fun _ _ => ?_ | refine Y4 (Ev.call (f := 37) (ck rfl) rfl (fun w5 S5 => hfr w5 (hBW.trans S5.toBelow))) ?_) | (refine M2 ?_; refine SE ?_) | (refine M3 ?_; first | refine SG ?_ | refine SF ?_ | refine YF (Ev.call (f := 37) (ck rfl) rfl (fun w5 S5 => hfr w5 (hBW.trans S5.toBelow))) ?_) | (refine M4 ?_; refine SR ?_) | (refine M5 ?_; first | exact M7 | refine YM ?_ | refine YN ?_ ?_))
  refine XC.seq ?_
  refine XC.cutn [3, 5, 7, 9, 10, 11, 12] rfl (fun z : World × SV => [(8, svV z.2)]) (fun z => [(g9, cel 153 [.int .i64 (t.ls k ⟨c, o⟩ i).1.vol, .slice qf.A qf.n qf.c]), (g7, cel 133 [.int .i64 (t.h k).from_, .slice (some ak) t.n ck1]), (g5, cel 42 [.int .i64 c, .int .i64 o]), (g3, cel 29 (ctkC ⟨⟨some ab, t.b.rows.length, cb, Ab2, nb2, cb2⟩, ⟨Af, nf, cf⟩, ⟨some ah, t.m, ch⟩, ⟨some ar, t.n, cr⟩⟩ t))]) (fun z => z.1) (fun z => Below w.heap.size w z.1 ∧ Fam z.1 w.heap.size [g9, g7, g5, g3] [⟨RL, rlK5, svV z.2, (List.range (i + 1)).map (t.rl k ⟨c, o⟩)⟩] hs ∧ ∀ x, x ∈ [g9, g7, g5, g3] → x < z.1.heap.size) ?_ ?_
  · skip
    by_cases hop : t.isOpen ⟨c, o⟩ i = true
    · have hrl := rl_open (k := k) hop
      by_cases hc1 : c = -1
      · repeat (first | (refine M0 ?_; first | refine SL ?_ | refine SB fun _ _ => ?_) | (refine M1 ?_; refine SC ?_) | (refine M2 ?_; refine SE ?_))
        rw [show decide (c = -1) = true from decide_eq_true hc1]
        repeat (first | (refine M0 ?_; first | refine SL ?_ | refine SB fun _ _ => ?_ | refine Y4 (Ev.load_old tok rfl rfl (add_lt hltk) dVW) ?_ | refine XL.buildSlice tok rfl rfl rfl rfl rfl rfl rfl rfl rfl (fun _ _ => ?_)) | (refine M1 ?_; refine SC ?_) | (refine M2 ?_; refine SE ?_))
        refine XL.push (K := rlK5) (a := ⟨false, false, t.v k i⟩) (wE := w) 0 rl5_el (by decide) rfl rfl rfl hFW rfl hks hBW (Nat.le_refl _) rfl (by rw [List.length_map, List.length_range]; omega) (by decide) (fun x hx => by cases hx) (fun w2 v2 hF2 hB2 hk2 => ?_)
        have hl : (List.range i).map (t.rl k ⟨c, o⟩) ++ [⟨false, false, t.v k i⟩] = (List.range (i + 1)).map (t.rl k ⟨c, o⟩) := by rw [hrl1, hrl]
        simp only [List.set_cons_zero, hl] at hF2
        obtain ⟨r', rfl, _⟩ := hF2.sv (K := rlK5) (l := (List.range (i + 1)).map (t.rl k ⟨c, o⟩)) (v := v2) (.head _)
        obtain ⟨sA, sn, sc⟩ := r'
        simp only [svV]
        repeat (first | (refine M0 ?_; first | refine SL ?_ | refine SB fun _ _ => ?_) | (refine M1 ?_; refine SC ?_) | (refine M2 ?_; refine SE ?_))
        exact XE.leafW (fun z9 S9 => ⟨(z9, ⟨sA, sn, sc⟩), ⟨hB2.trans S9.toBelow, (hF2.sys S9 ZZHL).add (fun x hx => .inl (List.mem_append_right _ hx)), fun x hx => Nat.lt_of_lt_of_le (hk2 x (List.mem_append_right _ hx)) S9.size⟩, ZZSUB, S9.rebase ZZSM⟩)
      · have hn : (⟨c, o⟩ : CPl) ≠ nev := fun h => hc1 (congrArg CPl.close h)
        obtain ⟨b1, b2⟩ := strange_f hp hn
        simp only at b1 b2
        have hlt1 : t.last ≤ 60 := by unfold CTk.last; omega
        repeat (first | (refine M0 ?_; first | refine SL ?_ | refine SB fun _ _ => ?_) | (refine M1 ?_; refine SC ?_) | (refine M2 ?_; refine SE ?_))
        rw [show decide (c = -1) = false from decide_eq_false hc1]
        repeat (first | (refine M0 ?_; first | refine SL ?_ | refine SB fun _ _ => ?_) | (refine M1 ?_; refine SC ?_) | (refine M2 ?_; refine SE ?_))
        by_cases hle1 : t.from_ + (i : Int) ≤ c + t.delay
        · rw [show decide (t.from_ + (i : Int) ≤ c + t.delay) = true from decide_eq_true hle1]
          repeat (first | (refine M0 ?_; first | refine SL ?_ | refine SB fun _ _ => ?_ | refine Y4 (Ev.load_old tok rfl rfl (add_lt hltk) dVW) ?_ | refine XL.buildSlice tok rfl rfl rfl rfl rfl rfl rfl rfl rfl (fun _ _ => ?_)) | (refine M1 ?_; refine SC ?_) | (refine M2 ?_; refine SE ?_))
          refine XL.push (K := rlK5) (a := ⟨false, false, t.v k i⟩) (wE := w) 0 rl5_el (by decide) rfl rfl rfl hFW rfl hks hBW (Nat.le_refl _) rfl (by rw [List.length_map, List.length_range]; omega) (by decide) (fun x hx => by cases hx) (fun w2 v2 hF2 hB2 hk2 => ?_)
          have hl : (List.range i).map (t.rl k ⟨c, o⟩) ++ [⟨false, false, t.v k i⟩] = (List.range (i + 1)).map (t.rl k ⟨c, o⟩) := by rw [hrl1, hrl]
          simp only [List.set_cons_zero, hl] at hF2
          obtain ⟨r', rfl, _⟩ := hF2.sv (K := rlK5) (l := (List.range (i + 1)).map (t.rl k ⟨c, o⟩)) (v := v2) (.head _)
          obtain ⟨sA, sn, sc⟩ := r'
          simp only [svV]
          repeat (first | (refine M0 ?_; first | refine SL ?_ | refine SB fun _ _ => ?_) | (refine M1 ?_; refine SC ?_) | (refine M2 ?_; refine SE ?_))
          exact XE.leafW (fun z9 S9 => ⟨(z9, ⟨sA, sn, sc⟩), ⟨hB2.trans S9.toBelow, (hF2.sys S9 ZZHL).add (fun x hx => .inl (List.mem_append_right _ hx)), fun x hx => Nat.lt_of_lt_of_le (hk2 x (List.mem_append_right _ hx)) S9.size⟩, ZZSUB, S9.rebase ZZSM⟩)
        · rw [show decide (t.from_ + (i : Int) ≤ c + t.delay) = false from decide_eq_false hle1]
          repeat (first | (refine M0 ?_; first | refine SL ?_ | refine SB fun _ _ => ?_) | (refine M1 ?_; refine SC ?_) | (refine M2 ?_; refine SE ?_))
          have hge : o ≤ t.from_ + (i : Int) := by
            unfold CTk.isOpen CTk.shutI at hop
            simp only [Bool.or_eq_true, decide_eq_true_eq] at hop
            rcases hop with hop | hop | hop
            · exact absurd hop hn
            · omega
            · omega
          rw [show decide (o ≤ t.from_ + (i : Int)) = true from decide_eq_true hge]
          repeat (first | (refine M0 ?_; first | refine SL ?_ | refine SB fun _ _ => ?_ | refine Y4 (Ev.load_old tok rfl rfl (add_lt hltk) dVW) ?_ | refine XL.buildSlice tok rfl rfl rfl rfl rfl rfl rfl rfl rfl (fun _ _ => ?_)) | (refine M1 ?_; refine SC ?_) | (refine M2 ?_; refine SE ?_))
          refine XL.push (K := rlK5) (a := ⟨false, false, t.v k i⟩) (wE := w) 0 rl5_el (by decide) rfl rfl rfl hFW rfl hks hBW (Nat.le_refl _) rfl (by rw [List.length_map, List.length_range]; omega) (by decide) (fun x hx => by cases hx) (fun w2 v2 hF2 hB2 hk2 => ?_)
          have hl : (List.range i).map (t.rl k ⟨c, o⟩) ++ [⟨false, false, t.v k i⟩] = (List.range (i + 1)).map (t.rl k ⟨c, o⟩) := by rw [hrl1, hrl]
          simp only [List.set_cons_zero, hl] at hF2
          obtain ⟨r', rfl, _⟩ := hF2.sv (K := rlK5) (l := (List.range (i + 1)).map (t.rl k ⟨c, o⟩)) (v := v2) (.head _)
          obtain ⟨sA, sn, sc⟩ := r'
          simp only [svV]
          repeat (first | (refine M0 ?_; first | refine SL ?_ | refine SB fun _ _ => ?_) | (refine M1 ?_; refine SC ?_) | (refine M2 ?_; refine SE ?_))
          exact XE.leafW (fun z9 S9 => ⟨(z9, ⟨sA, sn, sc⟩), ⟨hB2.trans S9.toBelow, (hF2.sys S9 ZZHL).add (fun x hx => .inl (List.mem_append_right _ hx)), fun x hx => Nat.lt_of_lt_of_le (hk2 x (List.mem_append_right _ hx)) S9.size⟩, ZZSUB, S9.rebase ZZSM⟩)
    · have hopf : t.isOpen ⟨c, o⟩ i = false := by simpa using hop
      have hrl := rl_shut (k := k) ho hp hopf
      have hop2 := hopf
      unfold CTk.isOpen CTk.shutI at hop2
      simp only [Bool.or_eq_false_iff, decide_eq_false_iff_not] at hop2
      have hn : (⟨c, o⟩ : CPl) ≠ nev := hop2.1
      obtain ⟨b1, b2⟩ := strange_f hp hn
      simp only at b1 b2
      have hlt1 : t.last ≤ 60 := by unfold CTk.last; omega
      repeat (first | (refine M0 ?_; first | refine SL ?_ | refine SB fun _ _ => ?_) | (refine M1 ?_; refine SC ?_) | (refine M2 ?_; refine SE ?_))
      rw [show decide (c = -1) = false from decide_eq_false (by omega)]
      repeat (first | (refine M0 ?_; first | refine SL ?_ | refine SB fun _ _ => ?_) | (refine M1 ?_; refine SC ?_) | (refine M2 ?_; refine SE ?_))
      rw [show decide (t.from_ + (i : Int) ≤ c + t.delay) = false from decide_eq_false (by have := hop2.2.1; omega)]
      repeat (first | (refine M0 ?_; first | refine SL ?_ | refine SB fun _ _ => ?_) | (refine M1 ?_; refine SC ?_) | (refine M2 ?_; refine SE ?_))
      rw [show decide (o ≤ t.from_ + (i : Int)) = false from decide_eq_false (by have := hop2.2.2; omega)]
      repeat (first | (refine M0 ?_; first | refine SL ?_ | refine SB fun _ _ => ?_ | refine Y4 (Ev.load_old tok rfl rfl (add_lt hltk) dVW) ?_ | refine XL.buildSlice tok rfl rfl rfl rfl rfl rfl rfl rfl rfl (fun _ _ => ?_)) | (refine M1 ?_; refine SC ?_) | (refine M2 ?_; refine SE ?_))
      refine XL.push (K := rlK5) (a := ⟨true, (t.ls k ⟨c, o⟩ i).2, (t.ls k ⟨c, o⟩ i).1.vol⟩) (wE := w) 0 rl5_el (by decide) rfl rfl rfl hFW rfl hks hBW (Nat.le_refl _) rfl (by rw [List.length_map, List.length_range]; omega) (by decide) (fun x hx => by cases hx) (fun w2 v2 hF2 hB2 hk2 => ?_)
      have hl : (List.range i).map (t.rl k ⟨c, o⟩) ++ [⟨true, (t.ls k ⟨c, o⟩ i).2, (t.ls k ⟨c, o⟩ i).1.vol⟩] = (List.range (i + 1)).map (t.rl k ⟨c, o⟩) := by rw [hrl1, hrl]
      simp only [List.set_cons_zero, hl] at hF2
      obtain ⟨r', rfl, _⟩ := hF2.sv (K := rlK5) (l := (List.range (i + 1)).map (t.rl k ⟨c, o⟩)) (v := v2) (.head _)
      obtain ⟨sA, sn, sc⟩ := r'
      simp only [svV]
      repeat (first | (refine M0 ?_; first | refine SL ?_ | refine SB fun _ _ => ?_) | (refine M1 ?_; refine SC ?_) | (refine M2 ?_; refine SE ?_))
      exact XE.leafW (fun z9 S9 => ⟨(z9, ⟨sA, sn, sc⟩), ⟨hB2.trans S9.toBelow, (hF2.sys S9 ZZHL).add (fun x hx => .inl (List.mem_append_right _ hx)), fun x hx => Nat.lt_of_lt_of_le (hk2 x (List.mem_append_right _ hx)) S9.size⟩, ZZSUB, S9.rebase ZZSM⟩)
  rintro ⟨z, ⟨rA2, rn2, rc2⟩⟩ ⟨hBz, hFz, hkz⟩
  simp only [svV, ctkC]
  dsimp only [List.cons_append, List.nil_append]
  by_cases hn : (⟨c, o⟩ : CPl) = nev
  · have hc1 : c = -1 := congrArg CPl.close hn
    have hl1 : t.ls k ⟨c, o⟩ (i + 1) = t.ls k ⟨c, o⟩ i := by rw [ls_0 (.inl hn), ls_0 (.inl hn)]
    repeat (first | (refine M0 ?_; first | refine SL ?_ | refine SB fun _ _ => ?_) | (refine M1 ?_; refine SC ?_) | (refine M2 ?_; refine SE ?_))
    rw [show decide (c = -1) = true from decide_eq_true hc1]
    repeat (first | (refine M0 ?_; first | refine SL ?_ | refine SB fun _ _ => ?_) | (refine M1 ?_; refine SC ?_) | (refine M2 ?_; refine SE ?_))
    refine XE.roundW (s := (i, W, ⟨rA, rn, rc⟩, qf)) (fun w9 S9 => ⟨(i + 1, w9, ⟨rA2, rn2, rc2⟩, qf), ⟨hin, hBz.trans S9.toBelow, ⟨hs, hFz.sys S9 ZZHL, by rw [hl1]; exact hfi⟩, fun x hx => Nat.lt_of_lt_of_le (hkz x hx) S9.size⟩, by simp only; omega, by simp only [hl1]; exact ZZSUB, by simp only [hl1]; exact S9.rebase ZZSM⟩)
  obtain ⟨b1, b2⟩ := strange_f hp hn
  simp only at b1 b2
  have hlt1 : t.last ≤ 60 := by unfold CTk.last; omega
  have hsh : t.shutI ⟨c, o⟩ = c - t.from_ + t.delay := rfl
  repeat (first | (refine M0 ?_; first | refine SL ?_ | refine SB fun _ _ => ?_) | (refine M1 ?_; refine SC ?_) | (refine M2 ?_; refine SE ?_))
  rw [show decide (c = -1) = false from decide_eq_false (by omega)]
  repeat (first | (refine M0 ?_; first | refine SL ?_ | refine SB fun _ _ => ?_) | (refine M1 ?_; refine SC ?_) | (refine M2 ?_; refine SE ?_))
  have dVz : z.cell? (ak.add (i * 1)) = some (.int .i64 (t.v k i)) := (below_cell5 hBz (add_lt hltk)).trans (dV i hin)
  have dRz : z.cell? (ar.add (i * 1)) = some (.int .i64 (at0 t.river i)) := (below_cell5 hBz (add_lt hltr)).trans (dR i hin)
  have dlz : z.cell? ((ab.add (0 * 2)).add 0) = some (.int .i64 (t.b.row 0).level) := (below_cell5 hBz (add_lt2 hltb)).trans dlev
  by_cases heq : t.from_ + (i : Int) = c + t.delay
  · rw [show decide (t.from_ + (i : Int) = c + t.delay) = true from decide_eq_true heq]
    have hl0 : t.ls k ⟨c, o⟩ i = (⟨0, []⟩, false) := ls_0 (.inr (by rw [hsh]; omega))
    have hl1 := ls_at (k := k) hn (show (i : Int) = t.shutI ⟨c, o⟩ by rw [hsh]; omega)
    simp only [hl0]
    repeat (first | (refine M0 ?_; first | refine SL ?_ | refine SB fun _ _ => ?_) | (refine M1 ?_; refine SC ?_) | (refine M2 ?_; refine SE ?_))
    refine XC.drawT mixed rfl rfl (by kernel_rfl) ?_
    repeat (first | (refine M0 ?_; first | refine SL ?_ | refine SB fun _ _ => ?_ | refine Y4 (Ev.load_old tok rfl rfl (add_lt hltk) dVz) ?_ | refine Y4 (Ev.load_old tok rfl rfl (add_lt2 hltb) dlz) ?_) | (refine M2 ?_; refine SE ?_) | (refine M3 ?_; first | refine SG ?_ | refine SF ?_ | refine YF (Ev.load_old tok rfl rfl (add_lt hltk) dVz) ?_ | refine YF (Ev.load_old tok rfl rfl (add_lt2 hltb) dlz) ?_) | (refine M4 ?_; refine SR ?_) | (refine M5 ?_; first | exact M7 | refine YM ?_ | refine YN ?_ ?_))
    have hvol := fun (w5 : World) (hB5 : Below w.heap.size w w5) => refVolume_any (p := ⟨some ab, t.b.rows.length, cb, Ab2, nb2, cb2⟩) (b := t.b) (l := max (t.v k i) (t.b.row 0).level) (w := w5) ((hbas.below hB5).more hB5.size)
    have hv0 : volN t.b (max (t.v k i) (t.b.row 0).level) = t.vol0 k i := (vol_0 ho.chk (outB_f.2 (by have := ho.val k i hk hin; have := ho.lim; omega))).2
    rw [hv0] at hvol
    simp only [basV, basC] at hvol
    repeat (first | (refine M0 ?_; first | refine SL ?_ | refine SB fun _ _ => ?_ | refine Y4 (Ev.call (f := 89) (ck rfl) rfl (fun w5 S5 => hvol w5 (hBz.trans S5.toBelow))) ?_) | (refine M1 ?_; refine SC ?_) | (refine M2 ?_; refine SE ?_))
    rw [show decide (c + t.delay ≤ t.from_ + (i : Int)) = true from decide_eq_true (by omega)]
    repeat (first | (refine M0 ?_; first | refine SL ?_ | refine SB fun _ _ => ?_) | (refine M1 ?_; refine SC ?_) | (refine M2 ?_; refine SE ?_))
    have hso : StaOk t.b ⟨t.vol0 k i, t.fil⟩ := vol0_ok ho hk hin
    refine XC.drawRS (trunc w w.heap.size) [(g9, cel 153 [.int .i64 (t.vol0 k i), .slice Af nf cf]), (g7, cel 133 [.int .i64 (t.h k).from_, .slice (some ak) t.n ck1]), (g5, cel 42 [.int .i64 c, .int .i64 o]), (g3, cel 29 (ctkC ⟨⟨some ab, t.b.rows.length, cb, Ab2, nb2, cb2⟩, ⟨Af, nf, cf⟩, ⟨some ah, t.m, ch⟩, ⟨some ar, t.n, cr⟩⟩ t))] [0, 1, 2, 3, 4, 5, 6, 7, 8, 9, 10, 11, 12, 13, 14, 15] [16, 17, 18, 19, 20, 21, 22, 23, 24, 25] mixed (fun _ h => Sys.anchorT hBz h (by intro e he; repeat (first | (cases he; done) | (rcases List.mem_cons.1 he with rfl | he; · repeat (first | exact List.mem_cons_self | apply List.mem_cons_of_mem)))) (by simp [n97, n95, n93, n75, n73, n53]) hle) rfl (by kernel_rfl) ?_
    simp only [ctkC]
    repeat (any_goals (first | (refine M0 ?_; first | refine SL ?_ | refine SB fun _ _ => ?_ | refine Y4 (Ev.load_loc_agg tok 3 (g := g3) (o := 0) rfl rfl rfl rfl) ?_ | refine Y4 (Ev.load_old tok rfl rfl (add_lt hltk) (dVt i hin)) ?_ | refine Y4 (Ev.load_old tok rfl rfl (add_lt hltr) (dRt i hin)) ?_ | (refine XL.at_call 90 ?_; refine XL.callF (wE := w) (StepMV5 t.b ⟨t.vol0 k i, t.fil⟩ (t.tick k i)) (ck rfl) rfl rfl hFz hkz hBz (fun w5 S5 hF5 hB5 => refStep_made5 (p := ⟨some ab, t.b.rows.length, cb, Ab2, nb2, cb2⟩) (q := ⟨Af, nf, cf⟩) ((hbas.below hB5).more hB5.size) (intArg hF5 hB5 (.inr hfil)) ho.chk hso) (fun w3 x new hR hF3 hB3 hk3 => ?_) ZZHL; obtain ⟨⟨x1, x2, x3⟩, ⟨y1, y2, y3⟩, rfl, rfl⟩ := hR; simp only [staV, staC, floV, floC])) | (refine M1 ?_; refine SC ?_) | (refine M2 ?_; first | refine SE ?_ | ((with_reducible refine atHeld ?_); refine z7 ?_)) | (refine M3 ?_; first | refine SG ?_ | refine SF ?_ | refine YF (Ev.load_loc_agg tok 3 (g := g3) (o := 0) rfl rfl rfl rfl) ?_ | refine YF (Ev.load_old tok rfl rfl (add_lt hltk) (dVt i hin)) ?_ | refine YF (Ev.load_old tok rfl rfl (add_lt hltr) (dRt i hin)) ?_) | (refine M4 ?_; refine SR ?_) | (refine M5 ?_; first | exact M7 | refine YM ?_ | refine YN ?_ ?_)))
    any_goals (repeat (first | exact AnyR.nil | refine AnyR.skip rfl ?_))
    all_goals refine XE.roundW (s := (i, W, ⟨rA, rn, rc⟩, qf)) (fun w9 S9 => ⟨(i + 1, w9, ⟨rA2, rn2, rc2⟩, ⟨x1, x2, x3⟩), ⟨hin, hB3.trans S9.toBelow, ⟨_, (hF3.sys S9 ZZHL).add (fun x hx => .inl (List.mem_append_right _ hx)), .inl (by rw [hl1]; exact .head _)⟩, fun x hx => Nat.lt_of_lt_of_le (hk3 x (List.mem_append_right _ hx)) S9.size⟩, by simp only; omega, by simp only [hl1]; exact ZZSUB, by simp only [hl1]; exact S9.rebase ZZSM⟩)
  rw [show decide (t.from_ + (i : Int) = c + t.delay) = false from decide_eq_false heq]
  repeat (first | (refine M0 ?_; first | refine SL ?_ | refine SB fun _ _ => ?_) | (refine M1 ?_; refine SC ?_) | (refine M2 ?_; refine SE ?_))
  by_cases hge : c + t.delay ≤ t.from_ + (i : Int)
  rotate_left
  · rw [show decide (c + t.delay ≤ t.from_ + (i : Int)) = false from decide_eq_false hge]
    have hl1 : t.ls k ⟨c, o⟩ (i + 1) = t.ls k ⟨c, o⟩ i := by rw [ls_0 (.inr (by rw [hsh]; omega)), ls_0 (.inr (by rw [hsh]; omega))]
    repeat (first | (refine M0 ?_; first | refine SL ?_ | refine SB fun _ _ => ?_) | (refine M1 ?_; refine SC ?_) | (refine M2 ?_; refine SE ?_))
    refine XE.roundW (s := (i, W, ⟨rA, rn, rc⟩, qf)) (fun w9 S9 => ⟨(i + 1, w9, ⟨rA2, rn2, rc2⟩, qf), ⟨hin, hBz.trans S9.toBelow, ⟨hs, hFz.sys S9 ZZHL, by rw [hl1]; exact hfi⟩, fun x hx => Nat.lt_of_lt_of_le (hkz x hx) S9.size⟩, by simp only; omega, by simp only [hl1]; exact ZZSUB, by simp only [hl1]; exact S9.rebase ZZSM⟩)
  rw [show decide (c + t.delay ≤ t.from_ + (i : Int)) = true from decide_eq_true hge]
  have hl2 := ls_step (t := t) (k := k) (p := ⟨c, o⟩) (i := i) (by rw [hsh]; omega) hn (by rw [hsh]; omega)
  cases hgr : (t.ls k ⟨c, o⟩ i).2 with
  | true =>
    have hl1 : t.ls k ⟨c, o⟩ (i + 1) = t.ls k ⟨c, o⟩ i := by rw [hl2, if_pos hgr]
    repeat (first | (refine M0 ?_; first | refine SL ?_ | refine SB fun _ _ => ?_) | (refine M1 ?_; refine SC ?_) | (refine M2 ?_; refine SE ?_))
    refine XE.roundW (s := (i, W, ⟨rA, rn, rc⟩, qf)) (fun w9 S9 => ⟨(i + 1, w9, ⟨rA2, rn2, rc2⟩, qf), ⟨hin, hBz.trans S9.toBelow, ⟨hs, hFz.sys S9 ZZHL, by rw [hl1]; exact hfi⟩, fun x hx => Nat.lt_of_lt_of_le (hkz x hx) S9.size⟩, by simp only; omega, by simp only [hl1, hgr]; exact ZZSUB, by simp only [hl1]; exact S9.rebase ZZSM⟩)
  | false =>
    rw [if_neg (by rw [hgr]; simp)] at hl2
    have hso := ls_ok ho hk hp hn (show t.shutI ⟨c, o⟩ < (i : Int) by rw [hsh]; omega) (by omega) hgr
    repeat (first | (refine M0 ?_; first | refine SL ?_ | refine SB fun _ _ => ?_) | (refine M1 ?_; refine SC ?_) | (refine M2 ?_; refine SE ?_))
    refine XC.drawRS (trunc w w.heap.size) [(g9, cel 153 [.int .i64 (t.ls k ⟨c, o⟩ i).1.vol, .slice qf.A qf.n qf.c]), (g7, cel 133 [.int .i64 (t.h k).from_, .slice (some ak) t.n ck1]), (g5, cel 42 [.int .i64 c, .int .i64 o]), (g3, cel 29 (ctkC ⟨⟨some ab, t.b.rows.length, cb, Ab2, nb2, cb2⟩, ⟨Af, nf, cf⟩, ⟨some ah, t.m, ch⟩, ⟨some ar, t.n, cr⟩⟩ t))] [0, 1, 2, 3, 4, 5, 6, 7, 8, 9, 10, 11, 12, 13, 14, 15] [16, 17, 18, 19, 20, 21, 22, 23, 24, 25] mixed (fun _ h => Sys.anchorT hBz h (by intro e he; repeat (first | (cases he; done) | (rcases List.mem_cons.1 he with rfl | he; · repeat (first | exact List.mem_cons_self | apply List.mem_cons_of_mem)))) (by simp [n97, n95, n93, n75, n73, n53]) hle) rfl (by kernel_rfl) ?_
    simp only [ctkC]
    repeat (any_goals (first | (refine M0 ?_; first | refine SL ?_ | refine SB fun _ _ => ?_ | refine Y4 (Ev.load_loc_agg tok 3 (g := g3) (o := 0) rfl rfl rfl rfl) ?_ | refine Y4 (Ev.load_old tok rfl rfl (add_lt hltk) (dVt i hin)) ?_ | refine Y4 (Ev.load_old tok rfl rfl (add_lt hltr) (dRt i hin)) ?_ | (refine XL.at_call 90 ?_; refine XL.callF (wE := w) (StepMV5 t.b (t.ls k ⟨c, o⟩ i).1 (t.tick k i)) (ck rfl) rfl rfl hFz hkz hBz (fun w5 S5 hF5 hB5 => refStep_made5 (p := ⟨some ab, t.b.rows.length, cb, Ab2, nb2, cb2⟩) (q := qf) ((hbas.below hB5).more hB5.size) (intArg hF5 hB5 hfi) ho.chk hso) (fun w3 x new hR hF3 hB3 hk3 => ?_) ZZHL; obtain ⟨⟨x1, x2, x3⟩, ⟨y1, y2, y3⟩, rfl, rfl⟩ := hR; simp only [staV, staC, floV, floC])) | (refine M1 ?_; refine SC ?_) | (refine M2 ?_; first | refine SE ?_ | ((with_reducible refine atHeld ?_); refine z7 ?_)) | (refine M3 ?_; first | refine SG ?_ | refine SF ?_ | refine YF (Ev.load_loc_agg tok 3 (g := g3) (o := 0) rfl rfl rfl rfl) ?_ | refine YF (Ev.load_old tok rfl rfl (add_lt hltk) (dVt i hin)) ?_ | refine YF (Ev.load_old tok rfl rfl (add_lt hltr) (dRt i hin)) ?_) | (refine M4 ?_; refine SR ?_) | (refine M5 ?_; first | exact M7 | refine YM ?_ | refine YN ?_ ?_)))
    any_goals (repeat (first | exact AnyR.nil | refine AnyR.skip rfl ?_))
    all_goals refine XE.roundW (s := (i, W, ⟨rA, rn, rc⟩, qf)) (fun w9 S9 => ⟨(i + 1, w9, ⟨rA2, rn2, rc2⟩, ⟨x1, x2, x3⟩), ⟨hin, hB3.trans S9.toBelow, ⟨_, (hF3.sys S9 ZZHL).add (fun x hx => .inl (List.mem_append_right _ hx)), .inl (by rw [hl2]; exact .head _)⟩, fun x hx => Nat.lt_of_lt_of_le (hk3 x (List.mem_append_right _ hx)) S9.size⟩, by simp only; omega, by simp only [hl2]; exact ZZSUB, by simp only [hl2]; exact S9.rebase ZZSM⟩)
end Go.Proofs.YtmpaiphakjogjaaGreat.X
namespace Go.Proofs.YtmpaiphakjogjaaGreat.X
open Go Go.RowKit Go.Proofs.YtmpaiphakjogjaaGreat.Bs
section
variable {v : CTV} {t : CTk} {w : World}
set_option maxHeartbeats 8000000 in
theorem rholds5_any {k : Nat} {p : CPl} (hT : CtAt w w.heap.size v t) (ho : CtOk t) (hk : k < t.m) (hp : t.strange p = false) :
    Calls Tryz.prog 38 #[ctkV v t, .int .i64 (k : Nat), plnV p] w fun e w' => e = .returned (.bool (t.holds k p)) ∧ Below w.heap.size w w' := by
  have hlv := fun (w5 : World) (hB : Below w.heap.size w w5) => levels5_made (k := k) (p := p) (hT.sys (Sys.ofBelow hB)) ho hk hp
  have hft := fun (i : Nat) (w5 : World) (hB : Below w.heap.size w w5) => fits5_any (x := t.rl k p i) (l := t.limit) (hT.sys (Sys.ofBelow hB))
  have h60 := ho.n60
  rw [holds_firstB]
  obtain ⟨c, o⟩ := p
  simp only [ctkV, ctkC, plnV, rlV] at hlv hft ⊢
  refine enter Tryz.func38 rfl Tryz.ntmps38 rfl ?_; simp only [frame, Nat.zero_add, Nat.reduceAdd]
  repeat (first | (refine M0 ?_; first | refine SL ?_ | refine SB fun _ _ => ?_) | (refine M1 ?_; refine SC ?_) | (refine M2 ?_; refine SE ?_))
  rename_i g3 hg3 g5 hg5
  refine XL.callF (ks := []) (rs := []) (hs := []) (b0 := w.heap.size) (wE := w) (RlsV t k ⟨c, o⟩) (ck rfl) rfl rfl (Fam.start (Nat.le_refl w.heap.size)) (fun _ h => by cases h) (Below.refl w.heap.size w) (fun w1 S1 _ hB1 => hlv w1 hB1) (fun w1 x new hR hF1 hB1 hk1 => ?_) ZZHL
  obtain ⟨⟨qA, qn, qc⟩, rfl, rfl⟩ := hR
  have hLF : ListAt rlK5 w1 (Free w1 w.heap.size _ []) ⟨qA, qn, qc⟩ ((List.range t.n).map (t.rl k ⟨c, o⟩)) := hF1.held (hList rlK5 ⟨qA, qn, qc⟩ ((List.range t.n).map (t.rl k ⟨c, o⟩))) (.head _)
  have hqn := hLF.len (by decide)
  simp only [List.length_map, List.length_range] at hqn
  subst hqn
  simp only [svV]
  repeat (first | (refine M0 ?_; first | refine SL ?_ | refine SB fun _ _ => ?_) | (refine M1 ?_; refine SC ?_) | (refine M2 ?_; refine SE ?_))
  refine XC.loopk [3, 7] rfl (fun i : Nat => [(8, .int .i64 (i : Nat))]) (fun _ => [(g5, cel 42 [.int .i64 c, .int .i64 o]), (g3, cel 29 (ctkC v t))]) (fun _ => w1) (fun i => i ≤ t.n ∧ ∀ j, j < i → t.fits (t.rl k ⟨c, o⟩ j) t.limit = true) (fun i => t.n - i) 0 ⟨Nat.zero_le _, fun j h => by omega⟩ ZZSUB (fun _ h => h) ?_
  rintro i ⟨hi, hall⟩
  simp only [ctkC]
  dsimp only [List.cons_append, List.nil_append]
  repeat (first | (refine M0 ?_; first | refine SL ?_ | refine SB fun _ _ => ?_) | (refine M1 ?_; refine SC ?_) | (refine M2 ?_; refine SE ?_))
  refine XC.cond _ rfl (fun h2 => ?_) (fun h2 => ?_)
  rotate_left
  · have hin : i = t.n := by have := of_decide_eq_false h2; omega
    subst hin
    rw [firstB_none.2 (fun j hj => by rw [hall j hj]; rfl)]
    repeat (first | (refine M0 ?_; first | refine SL ?_ | refine SB fun _ _ => ?_) | (refine M1 ?_; refine SC ?_) | (refine M2 ?_; refine SE ?_))
    refine XE.retg tok Tryz.results38 rfl (by simp only [and_self, and_true]) (fun w' S => ?_)
    exact ⟨rfl, hB1.trans S.toBelow⟩
  have hin : i < t.n := by have := of_decide_eq_true h2; omega
  have hft := hft i
  obtain ⟨ad, rfl, hf⟩ := hLF.addr (by decide) (by rw [List.length_map, List.length_range]; omega)
  have ca := hLF.elem (show ((List.range t.n).map (t.rl k ⟨c, o⟩))[i]? = some (t.rl k ⟨c, o⟩ i) from by rw [List.getElem?_map, List.getElem?_range hin]; rfl)
  have la : (ad.add (i * 3)).block < w1.heap.size := by rw [add_block]; exact hf.2.1
  cases hfx : t.fits (t.rl k ⟨c, o⟩ i) t.limit with
  | true =>
    simp only [hfx] at hft
    repeat (first | (refine M0 ?_; first | refine SL ?_ | refine SB fun _ _ => ?_) | (refine M1 ?_; refine SC ?_) | (refine M2 ?_; refine SE ?_))
    refine XC.drawT mixed rfl rfl (by kernel_rfl) ?_
    repeat (first | (refine M0 ?_; first | refine SL ?_ | refine SB fun _ _ => ?_ | refine Y4 (Ev.load_far_agg tok (rlK5.c (t.rl k ⟨c, o⟩ i)) rfl rfl rfl la (hf.far ZZHL) ca) ?_ | refine Y4 (Ev.call (f := 79) (ck rfl) rfl (fun w5 S5 => hft w5 (hB1.trans S5.toBelow))) ?_) | (refine M2 ?_; refine SE ?_) | (refine M3 ?_; first | refine SG ?_ | refine SF ?_ | refine YF (Ev.load_far_agg tok (rlK5.c (t.rl k ⟨c, o⟩ i)) rfl rfl rfl la (hf.far ZZHL) ca) ?_ | refine YF (Ev.call (f := 79) (ck rfl) rfl (fun w5 S5 => hft w5 (hB1.trans S5.toBelow))) ?_) | (refine M4 ?_; refine SR ?_) | (refine M5 ?_; first | exact M7 | refine YM ?_ | refine YN ?_ ?_))
    repeat (first | (refine M0 ?_; first | refine SL ?_ | refine SB fun _ _ => ?_) | (refine M1 ?_; refine SC ?_) | (refine M2 ?_; refine SE ?_))
    exact XE.round (s := i) (i + 1) ⟨hin, fun j hj => by rcases Nat.lt_succ_iff_lt_or_eq.1 hj with h | rfl; exact hall j h; exact hfx⟩ (by omega) ZZSUB (fun _ h => h)
  | false =>
    simp only [hfx] at hft
    rw [firstB_some.2 ⟨hin, by rw [hfx]; rfl, fun j hj => by rw [hall j hj]; rfl⟩]
    repeat (first | (refine M0 ?_; first | refine SL ?_ | refine SB fun _ _ => ?_) | (refine M1 ?_; refine SC ?_) | (refine M2 ?_; refine SE ?_))
    refine XC.drawT mixed rfl rfl (by kernel_rfl) ?_
    repeat (first | (refine M0 ?_; first | refine SL ?_ | refine SB fun _ _ => ?_ | refine Y4 (Ev.load_far_agg tok (rlK5.c (t.rl k ⟨c, o⟩ i)) rfl rfl rfl la (hf.far ZZHL) ca) ?_ | refine Y4 (Ev.call (f := 79) (ck rfl) rfl (fun w5 S5 => hft w5 (hB1.trans S5.toBelow))) ?_) | (refine M2 ?_; refine SE ?_) | (refine M3 ?_; first | refine SG ?_ | refine SF ?_ | refine YF (Ev.load_far_agg tok (rlK5.c (t.rl k ⟨c, o⟩ i)) rfl rfl rfl la (hf.far ZZHL) ca) ?_ | refine YF (Ev.call (f := 79) (ck rfl) rfl (fun w5 S5 => hft w5 (hB1.trans S5.toBelow))) ?_) | (refine M4 ?_; refine SR ?_) | (refine M5 ?_; first | exact M7 | refine YM ?_ | refine YN ?_ ?_))
    repeat (first | (refine M0 ?_; first | refine SL ?_ | refine SB fun _ _ => ?_) | (refine M1 ?_; refine SC ?_) | (refine M2 ?_; refine SE ?_))
    refine XE.retg tok Tryz.results38 rfl (by simp only [and_self, and_true]) (fun w' S => ?_)
    exact ⟨rfl, hB1.trans S.toBelow⟩
end
end Go.Proofs.YtmpaiphakjogjaaGreat.X
namespace Go.Proofs.YtmpaiphakjogjaaGreat.Bs
open Go Go.Proofs.YtmpaiphakjogjaaGreat.X
def CTk.lsF (t : CTk) (i : Nat) : Int := (t.fld.take i).foldl (fun a j => min a (t.fstI j)) (t.from_ + t.n)
theorem fld_ls (t : CTk) : ∀ k, (t.fldTo k).foldl (fun a j => min a (t.fstI j)) (t.from_ + t.n) = t.from_ + (t.lstTo k : Nat) := by
  intro k
  induction k with
  | zero => rfl
  | succ k ih =>
    rw [fldTo_succ, List.foldl_append, ih]
    show _ = t.from_ + ((match t.fst k with | none => t.lstTo k | some i => min (t.lstTo k) i : Nat) : Int)
    cases h : t.fst k with
    | none => rw [if_neg (by simp)]; rfl
    | some i =>
      rw [if_pos (show (some i).isSome = true from rfl)]
      simp only [List.foldl_cons, List.foldl_nil]
      unfold CTk.fstI
      rw [h]
      simp only
      omega
theorem lsF_all {t : CTk} : t.lsF t.fld.length = t.from_ + (t.lst : Nat) := by
  unfold CTk.lsF
  rw [List.take_length]
  exact fld_ls t t.m
theorem lsF_step {t : CTk} {i : Nat} (hi : i < t.fld.length) : t.fld[i] < t.m ∧ t.lsF (i + 1) = min (t.lsF i) (t.fstI t.fld[i]) ∧ True := by
  refine ⟨?_, ?_, trivial⟩
  · have := List.getElem_mem hi
    unfold CTk.fld CTk.fldTo at this
    exact List.mem_range.1 (List.mem_filter.1 this).1
  · unfold CTk.lsF
    rw [List.take_succ_eq_append_getElem hi, List.foldl_append]
    rfl
theorem allowed_doc {t : CTk} {r : CRu} (ho : CtOk t) (hq : RuOk r) {tick : Int} : t.allowed r tick = (!outB tick t.from_ (t.from_ + t.last) && (t.called r && decide (t.from_ + (t.lst : Nat) - r.early ≤ tick))) := by
  have hd := ho.dly
  unfold CTk.allowed CTk.may CTk.frmI
  cases hb : outB tick t.from_ (t.from_ + t.last) with
  | true =>
    cases h1 : outB tick t.from_ (t.from_ + t.n - 1) with
    | true => rfl
    | false =>
      have h2 := outB_f.1 h1
      have h3 : outB (tick - t.from_) (max 0 ((t.lst : Int) - r.early)) t.last = true := by
        cases h4 : outB (tick - t.from_) (max 0 ((t.lst : Int) - r.early)) t.last with
        | true => rfl
        | false =>
          have h5 := outB_f.1 h4
          have h6 : outB tick t.from_ (t.from_ + t.last) = false := outB_f.2 ⟨by omega, by omega⟩
          rw [hb] at h6; cases h6
      rw [h3]; simp
  | false =>
    have h2 := outB_f.1 hb
    have h1 : outB tick t.from_ (t.from_ + t.n - 1) = false := outB_f.2 ⟨by omega, by unfold CTk.last at h2; omega⟩
    rw [h1]
    by_cases h3 : t.from_ + (t.lst : Nat) - r.early ≤ tick
    · rw [decide_eq_true h3, outB_f.2 (show max 0 ((t.lst : Int) - r.early) ≤ tick - t.from_ ∧ tick - t.from_ ≤ t.last by omega)]
      rfl
    · have h5 : outB (tick - t.from_) (max 0 ((t.lst : Int) - r.early)) t.last = true := by
        cases h4 : outB (tick - t.from_) (max 0 ((t.lst : Int) - r.early)) t.last with
        | true => rfl
        | false => have h5 := outB_f.1 h4; omega
      rw [decide_eq_false h3, h5]
      rfl
end Go.Proofs.YtmpaiphakjogjaaGreat.Bs
namespace Go.Proofs.YtmpaiphakjogjaaGreat.X
open Go Go.RowKit Go.Proofs.YtmpaiphakjogjaaGreat.Bs
section
variable {v : CTV} {t : CTk} {w : World}
def FldX (t : CTk) (x : Value) (new : List Held) : Prop := ∃ q : SV, x = svV q ∧ new = [hList intK5 q (t.fld.map fun k => ((k : Nat) : Int))]
set_option maxHeartbeats 8000000 in
theorem flooded5_made (hT : CtAt w w.heap.size v t) (ho : CtOk t) :
    Calls Tryz.prog 55 #[ctkV v t] w (Made w (FldX t)) := by
  have hfs := fun (k : Nat) (hk : k < t.m) (w5 : World) (hB : Below w.heap.size w w5) => first5_any (k := k) (hT.sys (Sys.ofBelow hB)) ho hk
  have hhn := hT.hn
  have hm8 := ho.m8
  have hfr := ho.frm
  obtain ⟨vp, vf, ⟨Ah, nh, ch⟩, vr⟩ := v
  simp only at hhn
  subst hhn
  simp only [ctkV, ctkC] at hfs ⊢
  refine enter Tryz.func55 rfl Tryz.ntmps55 rfl ?_; simp only [frame, Nat.zero_add, Nat.reduceAdd]
  repeat (first | (refine M0 ?_; first | refine SL ?_ | refine SB fun _ _ => ?_) | (refine M1 ?_; refine SC ?_) | (refine M2 ?_; refine SE ?_))
  rename_i g1 hg1
  refine XC.rebase (List.Sublist.refl _) (fun W0 S0 => ?_)
  have hR0 : Fam W0 w.heap.size [g1] [⟨Int, intK5, .slice none 0 0, (t.fldTo 0).map fun k => ((k : Nat) : Int)⟩] [] := Fam.nil intK5 (Fam.start S0.size)
  refine XC.loopk [1] rfl (fun z : Nat × World × SV => [(3, svV z.2.2), (4, .int .i64 (z.1 : Nat))]) (fun z => [(g1, cel 29 (ctkC ⟨vp, vf, ⟨Ah, t.m, ch⟩, vr⟩ t))]) (fun z => z.2.1)
    (fun z => z.1 ≤ t.m ∧ Below w.heap.size w z.2.1 ∧ Fam z.2.1 w.heap.size [g1] [⟨Int, intK5, svV z.2.2, (t.fldTo z.1).map fun k => ((k : Nat) : Int)⟩] [] ∧ g1 < z.2.1.heap.size) (fun z => t.m - z.1) (0, W0, ⟨none, 0, 0⟩) ⟨Nat.zero_le _, S0.toBelow, hR0, S0.lt (.head _)⟩ ZZSUB (fun _ h => h) ?_
  rintro ⟨k, W, q⟩ ⟨hk, hB, hF, hgl⟩
  simp only at hk hB hF hgl
  simp only [svV, ctkC]
  dsimp only [List.cons_append, List.nil_append]
  repeat (first | (refine M0 ?_; first | refine SL ?_ | refine SB fun _ _ => ?_) | (refine M1 ?_; refine SC ?_) | (refine M2 ?_; refine SE ?_))
  refine XC.cond _ rfl (fun h1 => ?_) (fun h1 => ?_)
  rotate_left
  · have hkm : k = t.m := by have := of_decide_eq_false h1; omega
    subst hkm
    repeat (first | (refine M0 ?_; first | refine SL ?_ | refine SB fun _ _ => ?_) | (refine M1 ?_; refine SC ?_) | (refine M2 ?_; refine SE ?_))
    refine XE.retg tok Tryz.results55 rfl (by simp only [and_self, and_true]) (fun w' S => ?_)
    have hF9 := hF.sys S ZZHL
    obtain ⟨qA, qn, qc⟩ := q
    exact ⟨_, _, rfl, ⟨⟨qA, qn, qc⟩, rfl, rfl⟩, fun x hx => by rw [List.mem_singleton.1 hx]; exact hF9.listOf (K := intK5) (.head _), hB.trans S.toBelow⟩
  have hkm : k < t.m := by have := of_decide_eq_true h1; omega
  have hfs := hfs k hkm
  have hsu := fldTo_succ t k
  have hfl := fldTo_len t k
  cases hfi : t.fst k with
  | none =>
    have e0 : t.fstI k = -1 := by unfold CTk.fstI; rw [hfi]
    simp only [e0] at hfs
    have e1 : t.fldTo (k + 1) = t.fldTo k := by rw [hsu, hfi, if_neg (by simp)]; simp
    repeat (first | (refine M0 ?_; first | refine SL ?_ | refine SB fun _ _ => ?_ | refine Y4 (Ev.call (f := 82) (ck rfl) rfl (fun w5 S5 => hfs w5 (hB.trans S5.toBelow))) ?_) | (refine M1 ?_; refine SC ?_) | (refine M2 ?_; refine SE ?_))
    refine XE.roundW (s := (k, W, q)) (fun w9 S9 => ⟨(k + 1, w9, q), ⟨hkm, hB.trans S9.toBelow, ?_, Nat.lt_of_lt_of_le hgl S9.size⟩, by simp only; omega, ZZSUB, S9.rebase ZZSM⟩)
    simp only [e1]
    exact hF.sys S9 ZZHL
  | some i =>
    have e0 : t.fstI k = t.from_ + (i : Nat) := by unfold CTk.fstI; rw [hfi]
    simp only [e0] at hfs
    have e1 : t.fldTo (k + 1) = t.fldTo k ++ [k] := by rw [hsu, hfi]; rfl
    repeat (first | (refine M0 ?_; first | refine SL ?_ | refine SB fun _ _ => ?_ | refine Y4 (Ev.call (f := 82) (ck rfl) rfl (fun w5 S5 => hfs w5 (hB.trans S5.toBelow))) ?_) | (refine M1 ?_; refine SC ?_) | (refine M2 ?_; refine SE ?_))
    rw [show decide (0 ≤ t.from_ + (i : Int)) = true from decide_eq_true (by omega)]
    repeat (first | (refine M0 ?_; first | refine SL ?_ | refine SB fun _ _ => ?_ | refine XL.buildSlice tok rfl rfl rfl rfl rfl rfl rfl rfl rfl (fun _ _ => ?_)) | (refine M1 ?_; refine SC ?_) | (refine M2 ?_; refine SE ?_))
    refine XL.push (K := intK5) (a := (k : Nat)) (wE := w) 0 int5_el (by decide) rfl rfl rfl hF rfl (fun j hj => by rw [List.mem_singleton.1 hj]; exact hgl) hB (Nat.le_refl _) rfl (by rw [List.length_map]; omega) (by decide) (fun x hx => by cases hx) (fun w2 v2 hF2 hB2 hk2 => ?_)
    have hl : (t.fldTo k).map (fun k => ((k : Nat) : Int)) ++ [((k : Nat) : Int)] = (t.fldTo (k + 1)).map fun k => ((k : Nat) : Int) := by rw [e1, List.map_append]; rfl
    simp only [List.set_cons_zero, hl] at hF2
    obtain ⟨r', rfl, _⟩ := hF2.sv (K := intK5) (l := (t.fldTo (k + 1)).map fun k => ((k : Nat) : Int)) (v := v2) (.head _)
    obtain ⟨rA, rn, rc⟩ := r'
    simp only [svV]
    repeat (first | (refine M0 ?_; first | refine SL ?_ | refine SB fun _ _ => ?_) | (refine M1 ?_; refine SC ?_) | (refine M2 ?_; refine SE ?_))
    refine XE.roundW (s := (k, W, q)) (fun w9 S9 => ⟨(k + 1, w9, ⟨rA, rn, rc⟩), ⟨hkm, hB2.trans S9.toBelow, ?_, Nat.lt_of_lt_of_le (hk2 g1 (by simp)) S9.size⟩, by simp only; omega, ZZSUB, S9.rebase ZZSM⟩)
    exact (hF2.sys S9 ZZHL).add fun x hx => .inl (by rw [List.mem_singleton.1 hx]; simp)
theorem rcalled5_any {r : CRu} (hT : CtAt w w.heap.size v t) (ho : CtOk t) :
    Calls Tryz.prog 50 #[ctkV v t, ruV r] w fun e w' => e = .returned (.bool (t.called r)) ∧ Below w.heap.size w w' := by
  simp only [ctkV, ctkC, ruV]
  refine enter Tryz.func50 rfl Tryz.ntmps50 rfl ?_; simp only [frame, Nat.zero_add, Nat.reduceAdd]
  repeat (first | (refine M0 ?_; first | refine SL ?_ | refine SB fun _ _ => ?_) | (refine M1 ?_; refine SC ?_) | (refine M2 ?_; refine SE ?_))
  rename_i g2 hg2 g3 hg3
  refine XC.rebase (List.Sublist.refl _) (fun W0 S0 => ?_)
  have hBw : Below w.heap.size w W0 := S0.toBelow
  have hne : g3 ≠ g2 := by
    have := S0.nd
    simp only [List.map_cons, List.map_nil, List.nodup_cons, List.mem_cons, List.not_mem_nil, or_false] at this
    exact this.1
  have hle : w.heap.size ≤ w.heap.size := Nat.le_refl _
  have hfl := fun (w5 : World) (hB : Below w.heap.size w w5) => flooded5_made (v := v) (t := t) (hT.sys (Sys.ofBelow hB)) ho
  simp only [ctkV, ctkC] at hfl
  refine XC.drawRS (trunc w w.heap.size) [(g3, cel 31 [.int .i64 r.count, .int .i64 r.early]), (g2, cel 29 (ctkC v t))] [0, 3, 4] [1, 2, 5, 6] mixed (fun _ h => Sys.anchorT hBw h (by intro e he; repeat (first | (cases he; done) | (rcases List.mem_cons.1 he with rfl | he; · repeat (first | exact List.mem_cons_self | apply List.mem_cons_of_mem)))) (by simp [hne]) hle) rfl (by kernel_rfl) ?_
  simp only [ctkC]
  repeat (first | (refine M0 ?_; first | refine SL ?_ | refine SB fun _ _ => ?_) | (refine M2 ?_; refine SE ?_) | (refine M3 ?_; first | refine SG ?_ | refine SF ?_) | (refine M4 ?_; refine SR ?_) | (refine M5 ?_; first | exact M7 | refine YM ?_ | refine YN ?_ ?_))
  refine XL.callF (ks := [g3, g2]) (rs := []) (hs := []) (b0 := w.heap.size) (wE := w) (FldX t) (ck rfl) rfl rfl (Fam.start hBw.size) (fun k hk => by
    simp only [List.mem_cons, List.not_mem_nil, or_false] at hk
    rcases hk with rfl | rfl
    · exact S0.lt (.head _)
    · exact S0.lt (.tail _ (.head _))) hBw (fun w1 S1 _ hB1 => hfl w1 hB1) (fun w1 x new hR hF1 hB1 hk1 => ?_) ZZHL
  obtain ⟨⟨qA, qn, qc⟩, rfl, rfl⟩ := hR
  have hqn : qn = (t.fld.map fun k => ((k : Nat) : Int)).length := (hF1.held (hList intK5 ⟨qA, qn, qc⟩ (t.fld.map fun k => ((k : Nat) : Int))) (.head _)).len (by decide)
  rw [List.length_map] at hqn
  subst hqn
  simp only [svV]
  repeat (first | (refine M0 ?_; first | refine SL ?_ | refine SB fun _ _ => ?_) | (refine M2 ?_; refine SE ?_) | (refine M3 ?_; first | refine SG ?_ | refine SF ?_) | (refine M4 ?_; refine SR ?_) | (refine M5 ?_; first | exact M7 | refine YM ?_ | refine YN ?_ ?_))
  refine z7 ?_
  repeat (first | (refine M0 ?_; first | refine SL ?_ | refine SB fun _ _ => ?_) | (refine M2 ?_; refine SE ?_) | (refine M3 ?_; first | refine SG ?_ | refine SF ?_) | (refine M4 ?_; refine SR ?_) | (refine M5 ?_; first | exact M7 | refine YM ?_ | refine YN ?_ ?_))
  refine z7 ?_
  repeat (first | (refine M0 ?_; first | refine SL ?_ | refine SB fun _ _ => ?_) | (refine M2 ?_; refine SE ?_) | (refine M3 ?_; first | refine SG ?_ | refine SF ?_) | (refine M4 ?_; refine SR ?_) | (refine M5 ?_; first | exact M7 | refine YM ?_ | refine YN ?_ ?_))
  refine z7 ?_
  repeat (first | (refine M0 ?_; first | refine SL ?_ | refine SB fun _ _ => ?_) | (refine M2 ?_; refine SE ?_) | (refine M3 ?_; first | refine SG ?_ | refine SF ?_) | (refine M4 ?_; refine SR ?_) | (refine M5 ?_; first | exact M7 | refine YM ?_ | refine YN ?_ ?_))
  · repeat (first | (refine M0 ?_; first | refine SL ?_ | refine SB fun _ _ => ?_) | (refine M1 ?_; refine SC ?_) | (refine M2 ?_; refine SE ?_))
    refine XE.retg tok Tryz.results50 rfl (by simp only [and_self, and_true]) (fun w' S => ?_)
    exact ⟨rfl, hB1.trans S.toBelow⟩
  any_goals (repeat (first | exact AnyR.nil | refine AnyR.skip rfl ?_))
set_option maxHeartbeats 8000000 in
theorem rallowed5_any {r : CRu} {tick : Int} (hT : CtAt w w.heap.size v t) (ho : CtOk t) (hq : RuOk r) :
    Calls Tryz.prog 44 #[ctkV v t, ruV r, .int .i64 tick] w fun e w' => e = .returned (.bool (t.allowed r tick)) ∧ Below w.heap.size w w' := by
  have hca := fun (w5 : World) (hB : Below w.heap.size w w5) => can5_any (i := tick) (hT.sys (Sys.ofBelow hB)) ho
  have hen := fun (w5 : World) (hB : Below w.heap.size w w5) => end5_any (hT.sys (Sys.ofBelow hB)) ho
  have hcl := fun (w5 : World) (hB : Below w.heap.size w w5) => rcalled5_any (r := r) (hT.sys (Sys.ofBelow hB)) ho
  have hfs := fun (k : Nat) (hk : k < t.m) (w5 : World) (hB : Below w.heap.size w w5) => first5_any (k := k) (hT.sys (Sys.ofBelow hB)) ho hk
  have hfl := fun (w5 : World) (hB : Below w.heap.size w w5) => flooded5_made (v := v) (t := t) (hT.sys (Sys.ofBelow hB)) ho
  have h1 := ho.frm
  have h3 := ho.n60
  have hdl := ho.dly
  have hqe := hq.early
  have hll : t.lst ≤ t.n := lstTo_le t t.m
  have hfn : t.fld.length ≤ t.m := fldTo_len t t.m
  have hm8 := ho.m8
  simp only [ctkV, ctkC, ruV] at hca hen hcl hfs hfl ⊢
  rw [allowed_doc ho hq]
  refine enter Tryz.func44 rfl Tryz.ntmps44 rfl ?_; simp only [frame, Nat.zero_add, Nat.reduceAdd]
  repeat (first | (refine M0 ?_; first | refine SL ?_ | refine SB fun _ _ => ?_ | refine Y4 (Ev.call (f := 81) (ck rfl) rfl (fun w5 S5 => hca w5 S5.toBelow)) ?_) | (refine M1 ?_; refine SC ?_) | (refine M2 ?_; refine SE ?_))
  cases hb : outB tick t.from_ (t.from_ + t.last) with
  | true =>
    repeat (first | (refine M0 ?_; first | refine SL ?_ | refine SB fun _ _ => ?_) | (refine M1 ?_; refine SC ?_) | (refine M2 ?_; refine SE ?_))
    refine XE.retg tok Tryz.results44 rfl (by simp only [and_self, and_true]) (fun w' S => ?_)
    exact ⟨rfl, S.toBelow⟩
  | false =>
  repeat (first | (refine M0 ?_; first | refine SL ?_ | refine SB fun _ _ => ?_ | refine Y4 (Ev.call (f := 50) (ck rfl) rfl (fun w5 S5 => hcl w5 S5.toBelow)) ?_) | (refine M1 ?_; refine SC ?_) | (refine M2 ?_; refine SE ?_))
  cases hc : t.called r with
  | false =>
    repeat (first | (refine M0 ?_; first | refine SL ?_ | refine SB fun _ _ => ?_) | (refine M1 ?_; refine SC ?_) | (refine M2 ?_; refine SE ?_))
    refine XE.retg tok Tryz.results44 rfl (by simp only [and_self, and_true]) (fun w' S => ?_)
    exact ⟨rfl, S.toBelow⟩
  | true =>
  have hb1 := outB_f.1 hb
  repeat (first | (refine M0 ?_; first | refine SL ?_ | refine SB fun _ _ => ?_) | (refine M1 ?_; refine SC ?_) | (refine M2 ?_; refine SE ?_))
  rename_i g3 hg3 g4 hg4
  refine XL.callF (ks := []) (rs := []) (hs := []) (b0 := w.heap.size) (wE := w) (FldX t) (ck rfl) rfl rfl (Fam.start (Nat.le_refl w.heap.size)) (fun _ h => by cases h) (Below.refl w.heap.size w) (fun w1 S1 _ hB1 => hfl w1 hB1) (fun w1 x new hR hF1 hB1 hk1 => ?_) ZZHL
  obtain ⟨⟨qA, qn, qc⟩, rfl, rfl⟩ := hR
  have hLF : ListAt intK5 w1 (Free w1 w.heap.size _ []) ⟨qA, qn, qc⟩ (t.fld.map fun k => ((k : Nat) : Int)) := hF1.held (hList intK5 ⟨qA, qn, qc⟩ (t.fld.map fun k => ((k : Nat) : Int))) (.head _)
  have hqn := hLF.len (by decide)
  simp only [List.length_map] at hqn
  subst hqn
  simp only [svV]
  repeat (first | (refine M0 ?_; first | refine SL ?_ | refine SB fun _ _ => ?_ | refine Y4 (Ev.call (f := 36) (ck rfl) rfl (fun w5 S5 => hen w5 (hB1.trans S5.toBelow))) ?_) | (refine M1 ?_; refine SC ?_) | (refine M2 ?_; refine SE ?_))
  refine XC.loopk [2, 3, 4, 7] rfl (fun i : Nat => [(8, .int .i64 (t.lsF i)), (9, .int .i64 (i : Nat))]) (fun _ => [(g4, cel 31 [.int .i64 r.count, .int .i64 r.early]), (g3, cel 29 (ctkC v t))]) (fun _ => w1) (fun i => i ≤ t.fld.length) (fun i => t.fld.length - i) 0 (Nat.zero_le _) ZZSUB (fun _ h => h) ?_
  intro i hi
  simp only [ctkC]
  dsimp only [List.cons_append, List.nil_append]
  repeat (first | (refine M0 ?_; first | refine SL ?_ | refine SB fun _ _ => ?_) | (refine M1 ?_; refine SC ?_) | (refine M2 ?_; refine SE ?_))
  refine XC.cond _ rfl (fun h2 => ?_) (fun h2 => ?_)
  rotate_left
  · have hin : i = t.fld.length := by have := of_decide_eq_false h2; omega
    subst hin
    rw [lsF_all]
    repeat (first | (refine M0 ?_; first | refine SL ?_ | refine SB fun _ _ => ?_) | (refine M1 ?_; refine SC ?_) | (refine M2 ?_; refine SE ?_))
    refine XE.retg tok Tryz.results44 rfl (by simp only [and_self, and_true]) (fun w' S => ?_)
    exact ⟨rfl, hB1.trans S.toBelow⟩
  have hin : i < t.fld.length := by have := of_decide_eq_true h2; omega
  obtain ⟨e1, e2, e3⟩ := lsF_step hin
  have hfs := hfs _ e1
  obtain ⟨ad, rfl, hf⟩ := hLF.addr (by decide) (by rw [List.length_map]; omega)
  have ca := hLF.elem (show (t.fld.map fun k => ((k : Nat) : Int))[i]? = some ((t.fld[i] : Nat) : Int) from by rw [List.getElem?_map, List.getElem?_eq_getElem hin]; rfl) 0 (.int .i64 ((t.fld[i] : Nat) : Int)) rfl
  rw [add_add, Nat.add_zero] at ca
  have ca : w1.cell? (ad.add (i * 1)) = some (.int .i64 ((t.fld[i] : Nat) : Int)) := ca
  have la : (ad.add (i * 1)).block < w1.heap.size := by rw [add_block]; exact hf.2.1
  repeat (first | (refine M0 ?_; first | refine SL ?_ | refine SB fun _ _ => ?_) | (refine M1 ?_; refine SC ?_) | (refine M2 ?_; refine SE ?_))
  refine XC.drawT mixed rfl rfl (by kernel_rfl) ?_
  repeat (first | (refine M0 ?_; first | refine SL ?_ | refine SB fun _ _ => ?_ | refine Y4 (Ev.load_far tok rfl rfl la (hf.far ZZHL) ca) ?_ | refine Y4 (Ev.call (f := 82) (ck rfl) rfl (fun w5 S5 => hfs w5 (hB1.trans S5.toBelow))) ?_) | (refine M2 ?_; refine SE ?_) | (refine M3 ?_; first | refine SG ?_ | refine SF ?_ | refine YF (Ev.load_far tok rfl rfl la (hf.far ZZHL) ca) ?_ | refine YF (Ev.call (f := 82) (ck rfl) rfl (fun w5 S5 => hfs w5 (hB1.trans S5.toBelow))) ?_) | (refine M4 ?_; refine SR ?_) | (refine M5 ?_; first | exact M7 | refine YM ?_ | refine YN ?_ ?_))
  repeat (first | (refine M0 ?_; first | refine SL ?_ | refine SB fun _ _ => ?_) | (refine M1 ?_; refine SC ?_) | (refine M2 ?_; refine SE ?_))
  rw [← e2]
  exact XE.round (s := i) (i + 1) (by omega) (by omega) ZZSUB (fun _ h => h)
end
end Go.Proofs.YtmpaiphakjogjaaGreat.X
namespace Go.Proofs.YtmpaiphakjogjaaGreat.Bs
open Go Go.Proofs.YtmpaiphakjogjaaGreat.X
theorem rspan_ins {t : CTk} {k : Nat} {p : CPl} {i : Nat} : t.rspan (t.rl k p i) = (t.lo (lvD (t.ins k p i)), t.hi (lvD (t.ins k p i))) := by
  obtain ⟨_, h2, h3⟩ := rl_ins (t := t) (k := k) (p := p) (i := i)
  unfold CTk.rspan CTk.lo CTk.hi
  rw [h2, h3]
  split <;> rfl
end Go.Proofs.YtmpaiphakjogjaaGreat.Bs
namespace Go.Proofs.YtmpaiphakjogjaaGreat.X
open Go Go.RowKit Go.Proofs.YtmpaiphakjogjaaGreat.Bs
section
variable {v : CTV} {t : CTk} {w : World}
def AllV (t : CTk) (p : CPl) (x : Value) (new : List Held) : Prop := ∃ q : SV, x = svV q ∧ new = [hList boolK5 q (t.holdL p)]
set_option maxHeartbeats 8000000 in
theorem all5_made {p : CPl} (hT : CtAt w w.heap.size v t) (ho : CtOk t) (hp : t.strange p = false) :
    Calls Tryz.prog 56 #[ctkV v t, plnV p] w (Made w (AllV t p)) := by
  have hho := fun (k : Nat) (hk : k < t.m) (w5 : World) (hB : Below w.heap.size w w5) => rholds5_any (k := k) (p := p) (hT.sys (Sys.ofBelow hB)) ho hk hp
  have hhn := hT.hn
  have hm8 := ho.m8
  obtain ⟨vp, vf, ⟨Ah, nh, ch⟩, vr⟩ := v
  simp only at hhn
  subst hhn
  obtain ⟨c, o⟩ := p
  simp only [ctkV, ctkC, plnV] at hho ⊢
  refine enter Tryz.func56 rfl Tryz.ntmps56 rfl ?_; simp only [frame, Nat.zero_add, Nat.reduceAdd]
  repeat (first | (refine M0 ?_; first | refine SL ?_ | refine SB fun _ _ => ?_) | (refine M1 ?_; refine SC ?_) | (refine M2 ?_; refine SE ?_))
  rename_i g2 hg2 g3 hg3
  refine XC.rebase (List.Sublist.refl _) (fun W0 S0 => ?_)
  have hR0 : Fam W0 w.heap.size [g3, g2] [⟨Bool, boolK5, .slice none 0 0, (List.range 0).map fun k => t.holds k ⟨c, o⟩⟩] [] := Fam.nil boolK5 (Fam.start S0.size)
  have hks0 : ∀ x, x ∈ [g3, g2] → x < W0.heap.size := fun x hx => S0.keyLt x hx
  refine XC.loopk [2, 3] rfl (fun z : Nat × World × SV => [(5, svV z.2.2), (6, .int .i64 (z.1 : Nat))]) (fun z => [(g3, cel 42 [.int .i64 c, .int .i64 o]), (g2, cel 29 (ctkC ⟨vp, vf, ⟨Ah, t.m, ch⟩, vr⟩ t))]) (fun z => z.2.1)
    (fun z => z.1 ≤ t.m ∧ Below w.heap.size w z.2.1 ∧ Fam z.2.1 w.heap.size [g3, g2] [⟨Bool, boolK5, svV z.2.2, (List.range z.1).map fun k => t.holds k ⟨c, o⟩⟩] [] ∧ ∀ x, x ∈ [g3, g2] → x < z.2.1.heap.size) (fun z => t.m - z.1) (0, W0, ⟨none, 0, 0⟩) ⟨Nat.zero_le _, S0.toBelow, hR0, hks0⟩ ZZSUB (fun _ h => h) ?_
  rintro ⟨k, W, q⟩ ⟨hk, hB, hF, hks⟩
  simp only at hk hB hF hks
  simp only [svV, ctkC]
  dsimp only [List.cons_append, List.nil_append]
  repeat (first | (refine M0 ?_; first | refine SL ?_ | refine SB fun _ _ => ?_) | (refine M1 ?_; refine SC ?_) | (refine M2 ?_; refine SE ?_))
  refine XC.cond _ rfl (fun h1 => ?_) (fun h1 => ?_)
  rotate_left
  · have hkm : k = t.m := by have := of_decide_eq_false h1; omega
    subst hkm
    repeat (first | (refine M0 ?_; first | refine SL ?_ | refine SB fun _ _ => ?_) | (refine M1 ?_; refine SC ?_) | (refine M2 ?_; refine SE ?_))
    refine XE.retg tok Tryz.results56 rfl (by simp only [and_self, and_true]) (fun w' S => ?_)
    have hF9 := hF.sys S ZZHL
    obtain ⟨qA, qn, qc⟩ := q
    exact ⟨_, _, rfl, ⟨⟨qA, qn, qc⟩, rfl, rfl⟩, fun x hx => by rw [List.mem_singleton.1 hx]; exact hF9.listOf (K := boolK5) (.head _), hB.trans S.toBelow⟩
  have hkm : k < t.m := by have := of_decide_eq_true h1; omega
  have hho := hho k hkm
  repeat (first | (refine M0 ?_; first | refine SL ?_ | refine SB fun _ _ => ?_ | refine Y4 (Ev.call (f := 38) (ck rfl) rfl (fun w5 S5 => hho w5 (hB.trans S5.toBelow))) ?_ | refine XL.buildSlice tok rfl rfl rfl rfl rfl rfl rfl rfl rfl (fun _ _ => ?_)) | (refine M1 ?_; refine SC ?_) | (refine M2 ?_; refine SE ?_))
  refine XL.push (K := boolK5) (a := t.holds k ⟨c, o⟩) (wE := w) 0 bool5_el (by decide) rfl rfl rfl hF rfl hks hB (Nat.le_refl _) rfl (by rw [List.length_map, List.length_range]; omega) (by decide) (fun x hx => by cases hx) (fun w2 v2 hF2 hB2 hk2 => ?_)
  have hl : ((List.range k).map fun k => t.holds k ⟨c, o⟩) ++ [t.holds k ⟨c, o⟩] = (List.range (k + 1)).map fun k => t.holds k ⟨c, o⟩ := by rw [List.range_succ, List.map_append]; rfl
  simp only [List.set_cons_zero, hl] at hF2
  obtain ⟨r', rfl, _⟩ := hF2.sv (K := boolK5) (l := (List.range (k + 1)).map fun k => t.holds k ⟨c, o⟩) (v := v2) (.head _)
  obtain ⟨rA, rn, rc⟩ := r'
  simp only [svV]
  repeat (first | (refine M0 ?_; first | refine SL ?_ | refine SB fun _ _ => ?_) | (refine M1 ?_; refine SC ?_) | (refine M2 ?_; refine SE ?_))
  exact XE.roundW (s := (k, W, q)) (fun w9 S9 => ⟨(k + 1, w9, ⟨rA, rn, rc⟩), ⟨hkm, hB2.trans S9.toBelow, (hF2.sys S9 ZZHL).add (fun x hx => .inl (List.mem_append_right _ hx)), fun x hx => Nat.lt_of_lt_of_le (hk2 x (List.mem_append_right _ hx)) S9.size⟩, by simp only; omega, ZZSUB, S9.rebase ZZSM⟩)
end
end Go.Proofs.YtmpaiphakjogjaaGreat.X
namespace Go.Proofs.YtmpaiphakjogjaaGreat.Bs
open Go Go.Proofs.YtmpaiphakjogjaaGreat.X
def cntB (l : List Bool) : Nat := l.countP id
theorem cntB_succ {l : List Bool} {i : Nat} {b : Bool} (h : l[i]? = some b) : cntB (l.take (i + 1)) = cntB (l.take i) + (if b = true then 1 else 0) := by
  unfold cntB
  rw [List.take_add_one, List.countP_append, h]
  cases b <;> rfl
theorem cntB_le (l : List Bool) : cntB l ≤ l.length := List.countP_le_length
theorem cntB_0 (l : List Bool) : cntB (l.take 0) = 0 := by rw [List.take_zero]; rfl
theorem holdL_cnt {t : CTk} {i : Int} : cntB (t.holdL (t.plan i)) + (t.notL i).length = t.m := by
  have h := List.length_eq_countP_add_countP (fun k => (t.fails k (t.plan i)).isSome) (l := List.range t.m)
  rw [List.length_range] at h
  unfold cntB CTk.holdL CTk.notL
  rw [List.countP_map, ← List.countP_eq_length_filter]
  have e : List.countP (id ∘ fun k => t.holds k (t.plan i)) (List.range t.m) = List.countP (fun a => decide (¬(t.fails a (t.plan i)).isSome = true)) (List.range t.m) := by
    congr 1
    funext k
    show t.holds k (t.plan i) = _
    unfold CTk.holds
    cases t.fails k (t.plan i) <;> rfl
  omega
theorem cnt_full {t : CTk} {i : Int} : cntB (t.holdL (t.plan i)) < t.m ↔ t.wit i ≠ none := by
  have h := @holdL_cnt t i
  rw [Ne, ← notL_nil, ← List.length_eq_zero_iff]
  omega
noncomputable def CTk.laN (t : CTk) (d : Nat) : List II := (List.range d).map fun j => t.witC ((t.beg - d + j : Nat) : Int)
end Go.Proofs.YtmpaiphakjogjaaGreat.Bs
namespace Go.Proofs.YtmpaiphakjogjaaGreat.Bs
open Go Go.Proofs.YtmpaiphakjogjaaGreat.X
noncomputable def CTk.gtR (t : CTk) (x y : RL) : Bool := if x.shut = y.shut then decide (y.n < x.n) else if x.shut = true then decide (y.n < (t.rspan x).2) else decide ((t.rspan y).1 < x.n)
theorem gtR_ins {t : CTk} {k : Nat} {p : CPl} {i j : Nat} : t.gtR (t.rl k p i) (t.rl k p j) = t.gt (lvD (t.ins k p i)) (lvD (t.ins k p j)) := by
  have h1 := rl_ins (t := t) (k := k) (p := p) (i := i)
  have h2 := rl_ins (t := t) (k := k) (p := p) (i := j)
  unfold CTk.gtR CTk.gt
  rw [rspan_ins, rspan_ins, h1.2.1, h1.2.2, h2.2.1, h2.2.2]
theorem pk_1 {t : CTk} {k : Nat} {p : CPl} : t.pkTo k p 1 = 0 := by simp [CTk.pkTo]
theorem pk_t {t : CTk} {k : Nat} {p : CPl} {i : Nat} (h0 : 1 ≤ i) (h : t.gt (lvD (t.ins k p i)) (lvD (t.ins k p (t.pkTo k p i))) = true) : t.pkTo k p (i + 1) = i := by rw [CTk.pkTo, if_pos ⟨h0, h⟩]
theorem pk_f {t : CTk} {k : Nat} {p : CPl} {i : Nat} (h : t.gt (lvD (t.ins k p i)) (lvD (t.ins k p (t.pkTo k p i))) = false) : t.pkTo k p (i + 1) = t.pkTo k p i := by rw [CTk.pkTo, if_neg (by simp [h])]
end Go.Proofs.YtmpaiphakjogjaaGreat.Bs
namespace Go.Proofs.YtmpaiphakjogjaaGreat.X
open Go Go.RowKit Go.Proofs.YtmpaiphakjogjaaGreat.Bs
section
variable {v : CTV} {t : CTk} {w : World}
theorem greater5_any {x y : RL} (hT : CtAt w w.heap.size v t) :
    Calls Tryz.prog 95 #[ctkV v t, rlV x, rlV y] w fun e w' => e = .returned (.bool (t.gtR x y)) ∧ Below w.heap.size w w' := by
  have hsx := fun (w5 : World) (hB : Below w.heap.size w w5) => rspan5_any (x := x) (hT.sys (Sys.ofBelow hB))
  have hsy := fun (w5 : World) (hB : Below w.heap.size w w5) => rspan5_any (x := y) (hT.sys (Sys.ofBelow hB))
  obtain ⟨xs, xg, xn⟩ := x
  obtain ⟨ys, yg, yn⟩ := y
  simp only [ctkV, ctkC, rlV] at hsx hsy ⊢
  refine enter Tryz.func95 rfl Tryz.ntmps95 rfl ?_; simp only [frame, Nat.zero_add, Nat.reduceAdd]
  cases xs with
  | false =>
    cases ys with
    | false =>
      repeat (first | (refine M0 ?_; first | refine SL ?_ | refine SB fun _ _ => ?_ | refine Y4 (Ev.eqlB Tryz.underlying4 rfl rfl) ?_) | (refine M1 ?_; refine SC ?_) | (refine M2 ?_; refine SE ?_))
      refine XE.retg tok Tryz.results95 rfl (by simp only [and_self, and_true]) (fun w' S => ?_)
      exact ⟨rfl, S.toBelow⟩
    | true =>
      repeat (first | (refine M0 ?_; first | refine SL ?_ | refine SB fun _ _ => ?_ | refine Y4 (Ev.eqlB Tryz.underlying4 rfl rfl) ?_) | (refine M1 ?_; refine SC ?_) | (refine M2 ?_; refine SE ?_))
      refine XC.drawT mixed rfl rfl (by kernel_rfl) ?_
      repeat (first | (refine M0 ?_; first | refine SL ?_ | refine SB fun _ _ => ?_ | refine Y4 (Ev.call (f := 63) (ck rfl) rfl (fun w5 S5 => hsy w5 S5.toBelow)) ?_) | (refine M2 ?_; refine SE ?_) | (refine M3 ?_; first | refine SG ?_ | refine SF ?_ | refine YF (Ev.call (f := 63) (ck rfl) rfl (fun w5 S5 => hsy w5 S5.toBelow)) ?_) | (refine M4 ?_; refine SR ?_) | (refine M5 ?_; first | exact M7 | refine YM ?_ | refine YN ?_ ?_))
      repeat (first | (refine M0 ?_; first | refine SL ?_ | refine SB fun _ _ => ?_) | (refine M1 ?_; refine SC ?_) | (refine M2 ?_; refine SE ?_))
      refine XE.retg tok Tryz.results95 rfl (by simp only [and_self, and_true]) (fun w' S => ?_)
      exact ⟨rfl, S.toBelow⟩
  | true =>
    cases ys with
    | false =>
      repeat (first | (refine M0 ?_; first | refine SL ?_ | refine SB fun _ _ => ?_ | refine Y4 (Ev.eqlB Tryz.underlying4 rfl rfl) ?_) | (refine M1 ?_; refine SC ?_) | (refine M2 ?_; refine SE ?_))
      refine XC.drawT mixed rfl rfl (by kernel_rfl) ?_
      repeat (first | (refine M0 ?_; first | refine SL ?_ | refine SB fun _ _ => ?_ | refine Y4 (Ev.call (f := 63) (ck rfl) rfl (fun w5 S5 => hsx w5 S5.toBelow)) ?_) | (refine M2 ?_; refine SE ?_) | (refine M3 ?_; first | refine SG ?_ | refine SF ?_ | refine YF (Ev.call (f := 63) (ck rfl) rfl (fun w5 S5 => hsx w5 S5.toBelow)) ?_) | (refine M4 ?_; refine SR ?_) | (refine M5 ?_; first | exact M7 | refine YM ?_ | refine YN ?_ ?_))
      repeat (first | (refine M0 ?_; first | refine SL ?_ | refine SB fun _ _ => ?_) | (refine M1 ?_; refine SC ?_) | (refine M2 ?_; refine SE ?_))
      refine XE.retg tok Tryz.results95 rfl (by simp only [and_self, and_true]) (fun w' S => ?_)
      exact ⟨rfl, S.toBelow⟩
    | true =>
      repeat (first | (refine M0 ?_; first | refine SL ?_ | refine SB fun _ _ => ?_ | refine Y4 (Ev.eqlB Tryz.underlying4 rfl rfl) ?_) | (refine M1 ?_; refine SC ?_) | (refine M2 ?_; refine SE ?_))
      refine XE.retg tok Tryz.results95 rfl (by simp only [and_self, and_true]) (fun w' S => ?_)
      exact ⟨rfl, S.toBelow⟩
set_option maxHeartbeats 8000000 in
theorem peak5_any {k : Nat} {p : CPl} (hT : CtAt w w.heap.size v t) (ho : CtOk t) (hk : k < t.m) (hp : t.strange p = false) :
    Calls Tryz.prog 70 #[ctkV v t, .int .i64 (k : Nat), plnV p] w fun e w' => e = .returned (iiV (t.peak p k)) ∧ Below w.heap.size w w' := by
  have hlv := fun (w5 : World) (hB : Below w.heap.size w w5) => levels5_made (k := k) (p := p) (hT.sys (Sys.ofBelow hB)) ho hk hp
  have hgt := fun (i j : Nat) (w5 : World) (hB : Below w.heap.size w w5) => greater5_any (x := t.rl k p i) (y := t.rl k p j) (hT.sys (Sys.ofBelow hB))
  have hsp := fun (i : Nat) (w5 : World) (hB : Below w.heap.size w w5) => rspan5_any (x := t.rl k p i) (hT.sys (Sys.ofBelow hB))
  have hfr := fun (w5 : World) (hB : Below w.heap.size w w5) => from5_any (hT.sys (Sys.ofBelow hB)) ho
  have h60 := ho.n60
  have h1n := ho.n1
  have hfm := ho.frm
  simp only [gtR_ins, rspan_ins] at hgt hsp
  obtain ⟨c, o⟩ := p
  simp only [ctkV, ctkC, plnV, rlV, iiV] at hlv hgt hsp hfr ⊢
  refine enter Tryz.func70 rfl Tryz.ntmps70 rfl ?_; simp only [frame, Nat.zero_add, Nat.reduceAdd]
  repeat (first | (refine M0 ?_; first | refine SL ?_ | refine SB fun _ _ => ?_) | (refine M1 ?_; refine SC ?_) | (refine M2 ?_; refine SE ?_))
  rename_i g3 hg3 g5 hg5 g6 hg6
  refine XL.callF (ks := []) (rs := []) (hs := []) (b0 := w.heap.size) (wE := w) (RlsV t k ⟨c, o⟩) (ck rfl) rfl rfl (Fam.start (Nat.le_refl w.heap.size)) (fun _ h => by cases h) (Below.refl w.heap.size w) (fun w1 S1 _ hB1 => hlv w1 hB1) (fun w1 x new hR hF1 hB1 hk1 => ?_) ZZHL
  obtain ⟨⟨qA, qn, qc⟩, rfl, rfl⟩ := hR
  have hLF : ListAt rlK5 w1 (Free w1 w.heap.size _ []) ⟨qA, qn, qc⟩ ((List.range t.n).map (t.rl k ⟨c, o⟩)) := hF1.held (hList rlK5 ⟨qA, qn, qc⟩ ((List.range t.n).map (t.rl k ⟨c, o⟩))) (.head _)
  have hqn := hLF.len (by decide)
  simp only [List.length_map, List.length_range] at hqn
  subst hqn
  obtain ⟨ad, rfl, hf⟩ := hLF.addr (by decide) (by rw [List.length_map, List.length_range]; omega)
  have cel5 := fun (i : Nat) (hi : i < t.n) => hLF.elem (show ((List.range t.n).map (t.rl k ⟨c, o⟩))[i]? = some (t.rl k ⟨c, o⟩ i) from by rw [List.getElem?_map, List.getElem?_range hi]; rfl)
  have lb5 := fun (i : Nat) => (show (ad.add (i * 3)).block < w1.heap.size from by rw [add_block]; exact hf.2.1)
  simp only [svV]
  repeat (first | (refine M0 ?_; first | refine SL ?_ | refine SB fun _ _ => ?_) | (refine M1 ?_; refine SC ?_) | (refine M2 ?_; refine SE ?_))
  refine XC.loopk [3, 6, 7] rfl (fun i : Nat => [(8, .int .i64 (t.pkTo k ⟨c, o⟩ i : Nat)), (9, .int .i64 (i : Nat))]) (fun _ => [(g6, cel 68 [.int .i64 0, .int .i64 0]), (g5, cel 42 [.int .i64 c, .int .i64 o]), (g3, cel 29 (ctkC v t))]) (fun _ => w1) (fun i => 1 ≤ i ∧ i ≤ t.n) (fun i => t.n - i) 1 ⟨Nat.le_refl _, h1n⟩ (Sub.cons (by show some _ = some _; rw [pk_1]; try rfl) ZZSUB) (fun _ h => h) ?_
  rintro i ⟨hi1, hi⟩
  have hpk := pkTo_lt t k ⟨c, o⟩ i hi1
  obtain ⟨j, hj⟩ : ∃ j, j = t.pkTo k ⟨c, o⟩ i := ⟨_, rfl⟩
  have hpt := pk_t (t := t) (k := k) (p := ⟨c, o⟩) hi1
  have hpf := pk_f (t := t) (k := k) (p := ⟨c, o⟩) (i := i)
  rw [← hj] at hpt hpf hpk
  simp only [← hj, ctkC]
  dsimp only [List.cons_append, List.nil_append]
  repeat (first | (refine M0 ?_; first | refine SL ?_ | refine SB fun _ _ => ?_) | (refine M1 ?_; refine SC ?_) | (refine M2 ?_; refine SE ?_))
  refine XC.cond _ rfl (fun h2 => ?_) (fun h2 => ?_)
  rotate_left
  · have hin : i = t.n := by have := of_decide_eq_false h2; omega
    subst hin
    have e1 : t.peak ⟨c, o⟩ k = (t.from_ + (j : Int), t.hi (lvD (t.ins k ⟨c, o⟩ j))) := by unfold CTk.peak CTk.pkAt CTk.pkLv; rw [← hj]
    rw [e1]
    have hsp := hsp j
    have cb := cel5 j hpk
    have lb := lb5 j
    repeat (first | (refine M0 ?_; first | refine SL ?_ | refine SB fun _ _ => ?_) | (refine M1 ?_; refine SC ?_) | (refine M2 ?_; refine SE ?_))
    refine XC.drawT mixed rfl rfl (by kernel_rfl) ?_
    repeat (first | (refine M0 ?_; first | refine SL ?_ | refine SB fun _ _ => ?_ | refine Y4 (Ev.call (f := 37) (ck rfl) rfl (fun w5 S5 => hfr w5 (hB1.trans S5.toBelow))) ?_ | refine Y4 (Ev.load_far_agg tok (rlK5.c (t.rl k ⟨c, o⟩ j)) rfl rfl rfl lb (hf.far ZZHL) cb) ?_ | refine Y4 (Ev.call (f := 63) (ck rfl) rfl (fun w5 S5 => hsp w5 (hB1.trans S5.toBelow))) ?_ | refine XL.store tok 0 (g := g6) (o := 0) (cs := [.int .i64 0, .int .i64 0]) rfl rfl rfl rfl (.inr rfl) rfl rfl rfl ?_) | (refine M2 ?_; refine SE ?_) | (refine M3 ?_; first | refine SG ?_ | refine SF ?_ | refine YF (Ev.call (f := 37) (ck rfl) rfl (fun w5 S5 => hfr w5 (hB1.trans S5.toBelow))) ?_ | refine YF (Ev.load_far_agg tok (rlK5.c (t.rl k ⟨c, o⟩ j)) rfl rfl rfl lb (hf.far ZZHL) cb) ?_ | refine YF (Ev.call (f := 63) (ck rfl) rfl (fun w5 S5 => hsp w5 (hB1.trans S5.toBelow))) ?_) | (refine M4 ?_; refine SR ?_) | (refine M5 ?_; first | exact M7 | refine YM ?_ | refine YN ?_ ?_))
    repeat (first | (refine M0 ?_; first | refine SL ?_ | refine SB fun _ _ => ?_) | (refine M1 ?_; refine SC ?_) | (refine M2 ?_; refine SE ?_))
    refine XE.retg tok Tryz.results70 rfl (by simp only [and_self, and_true]) (fun w' S => ?_)
    exact ⟨rfl, hB1.trans S.toBelow⟩
  have hin : i < t.n := by have := of_decide_eq_true h2; omega
  have hgt := hgt i j
  have ca := cel5 i hin
  have la := lb5 i
  have cb := cel5 j (by omega)
  have lb := lb5 j
  cases hx : t.gt (lvD (t.ins k ⟨c, o⟩ i)) (lvD (t.ins k ⟨c, o⟩ j)) with
  | true =>
    simp only [hx] at hgt
    repeat (first | (refine M0 ?_; first | refine SL ?_ | refine SB fun _ _ => ?_) | (refine M1 ?_; refine SC ?_) | (refine M2 ?_; refine SE ?_))
    refine XC.drawT mixed rfl rfl (by kernel_rfl) ?_
    repeat (first | (refine M0 ?_; first | refine SL ?_ | refine SB fun _ _ => ?_ | refine Y4 (Ev.load_far_agg tok (rlK5.c (t.rl k ⟨c, o⟩ i)) rfl rfl rfl la (hf.far ZZHL) ca) ?_ | refine Y4 (Ev.load_far_agg tok (rlK5.c (t.rl k ⟨c, o⟩ j)) rfl rfl rfl lb (hf.far ZZHL) cb) ?_ | refine Y4 (Ev.call (f := 95) (ck rfl) rfl (fun w5 S5 => hgt w5 (hB1.trans S5.toBelow))) ?_) | (refine M2 ?_; refine SE ?_) | (refine M3 ?_; first | refine SG ?_ | refine SF ?_ | refine YF (Ev.load_far_agg tok (rlK5.c (t.rl k ⟨c, o⟩ i)) rfl rfl rfl la (hf.far ZZHL) ca) ?_ | refine YF (Ev.load_far_agg tok (rlK5.c (t.rl k ⟨c, o⟩ j)) rfl rfl rfl lb (hf.far ZZHL) cb) ?_ | refine YF (Ev.call (f := 95) (ck rfl) rfl (fun w5 S5 => hgt w5 (hB1.trans S5.toBelow))) ?_) | (refine M4 ?_; refine SR ?_) | (refine M5 ?_; first | exact M7 | refine YM ?_ | refine YN ?_ ?_))
    repeat (first | (refine M0 ?_; first | refine SL ?_ | refine SB fun _ _ => ?_) | (refine M1 ?_; refine SC ?_) | (refine M2 ?_; refine SE ?_))
    exact XE.round (s := i) (i + 1) ⟨by omega, hin⟩ (by omega) (Sub.cons (by show some _ = some _; rw [hpt hx]) ZZSUB) (fun _ h => h)
  | false =>
    simp only [hx] at hgt
    repeat (first | (refine M0 ?_; first | refine SL ?_ | refine SB fun _ _ => ?_) | (refine M1 ?_; refine SC ?_) | (refine M2 ?_; refine SE ?_))
    refine XC.drawT mixed rfl rfl (by kernel_rfl) ?_
    repeat (first | (refine M0 ?_; first | refine SL ?_ | refine SB fun _ _ => ?_ | refine Y4 (Ev.load_far_agg tok (rlK5.c (t.rl k ⟨c, o⟩ i)) rfl rfl rfl la (hf.far ZZHL) ca) ?_ | refine Y4 (Ev.load_far_agg tok (rlK5.c (t.rl k ⟨c, o⟩ j)) rfl rfl rfl lb (hf.far ZZHL) cb) ?_ | refine Y4 (Ev.call (f := 95) (ck rfl) rfl (fun w5 S5 => hgt w5 (hB1.trans S5.toBelow))) ?_) | (refine M2 ?_; refine SE ?_) | (refine M3 ?_; first | refine SG ?_ | refine SF ?_ | refine YF (Ev.load_far_agg tok (rlK5.c (t.rl k ⟨c, o⟩ i)) rfl rfl rfl la (hf.far ZZHL) ca) ?_ | refine YF (Ev.load_far_agg tok (rlK5.c (t.rl k ⟨c, o⟩ j)) rfl rfl rfl lb (hf.far ZZHL) cb) ?_ | refine YF (Ev.call (f := 95) (ck rfl) rfl (fun w5 S5 => hgt w5 (hB1.trans S5.toBelow))) ?_) | (refine M4 ?_; refine SR ?_) | (refine M5 ?_; first | exact M7 | refine YM ?_ | refine YN ?_ ?_))
    repeat (first | (refine M0 ?_; first | refine SL ?_ | refine SB fun _ _ => ?_) | (refine M1 ?_; refine SC ?_) | (refine M2 ?_; refine SE ?_))
    exact XE.round (s := i) (i + 1) ⟨by omega, hin⟩ (by omega) (Sub.cons (by show some _ = some _; rw [hpf hx]) ZZSUB) (fun _ h => h)
end
end Go.Proofs.YtmpaiphakjogjaaGreat.X
namespace Go.Proofs.YtmpaiphakjogjaaGreat.X
open Go Go.RowKit Go.Proofs.YtmpaiphakjogjaaGreat.Bs
theorem XC.nd {P : Program} {N B : Nat} {w0 : World} {ds : List Deferred} {Q : Exit → Act → World → Prop} {F : Fr} {L : Lo} {c : Code} (h : (L.map (·.1)).Nodup → XC P N B w0 ds Q c F L) : XC P N B w0 ds Q c F L := ⟨fun a w hf hs => (h hs.nd).run a w hf hs⟩
section
variable {v : CTV} {t : CTk} {w : World}
theorem count5_any {q : SV} {l : List Bool} (hL : ListAt boolK5 w (Lt w.heap.size) q l) (hl : l.length ≤ 1000) :
    Calls Tryz.prog 57 #[svV q] w fun e w' => e = .returned (.int .i64 (cntB l : Nat)) ∧ Below w.heap.size w w' := by
  have hn := hL.len (by decide)
  obtain ⟨qA, qn, qc⟩ := q
  simp only at hn
  subst hn
  simp only [svV]
  refine enter Tryz.func57 rfl Tryz.ntmps57 rfl ?_; simp only [frame, Nat.zero_add, Nat.reduceAdd]
  repeat (first | (refine M0 ?_; first | refine SL ?_ | refine SB fun _ _ => ?_) | (refine M1 ?_; refine SC ?_) | (refine M2 ?_; refine SE ?_))
  refine XC.loopk [0] rfl (fun i : Nat => [(3, .int .i64 (cntB (l.take i) : Nat)), (4, .int .i64 (i : Nat))]) (fun _ => []) (fun _ => w) (fun i => i ≤ l.length) (fun i => l.length - i) 0 (Nat.zero_le _) (Sub.cons (by show some _ = some _; rw [cntB_0]; try rfl) ZZSUB) (fun _ h => h) ?_
  intro i hi
  have hcl := cntB_le (l.take i)
  rw [List.length_take] at hcl
  dsimp only [List.cons_append, List.nil_append]
  repeat (first | (refine M0 ?_; first | refine SL ?_ | refine SB fun _ _ => ?_) | (refine M1 ?_; refine SC ?_) | (refine M2 ?_; refine SE ?_))
  refine XC.cond _ rfl (fun h2 => ?_) (fun h2 => ?_)
  rotate_left
  · have hin : i = l.length := by have := of_decide_eq_false h2; omega
    subst hin
    rw [List.take_length]
    repeat (first | (refine M0 ?_; first | refine SL ?_ | refine SB fun _ _ => ?_) | (refine M1 ?_; refine SC ?_) | (refine M2 ?_; refine SE ?_))
    refine XE.retg tok Tryz.results57 rfl (by simp only [and_self, and_true]) (fun w' S => ?_)
    exact ⟨rfl, S.toBelow⟩
  have hin : i < l.length := by have := of_decide_eq_true h2; omega
  obtain ⟨ad, rfl, hlt⟩ := hL.addr (by decide) (by omega)
  obtain ⟨b, hb⟩ : ∃ b, l[i]? = some b := ⟨_, List.getElem?_eq_getElem hin⟩
  have hcell := hL.elem hb 0 (.bool b) rfl
  rw [add_add, Nat.add_zero] at hcell
  have hcell : w.cell? (ad.add (i * 1)) = some (.bool b) := hcell
  cases b with
  | true =>
    repeat (first | (refine M0 ?_; first | refine SL ?_ | refine SB fun _ _ => ?_ | refine Y4 (Ev.load_old tok rfl rfl (add_lt hlt) hcell) ?_) | (refine M1 ?_; refine SC ?_) | (refine M2 ?_; refine SE ?_))
    exact XE.round (s := i) (i + 1) hin (by omega) (Sub.cons (by show some _ = some _; rw [cntB_succ hb, if_pos rfl]; try rfl) ZZSUB) (fun _ h => h)
  | false =>
    repeat (first | (refine M0 ?_; first | refine SL ?_ | refine SB fun _ _ => ?_ | refine Y4 (Ev.load_old tok rfl rfl (add_lt hlt) hcell) ?_) | (refine M1 ?_; refine SC ?_) | (refine M2 ?_; refine SE ?_))
    exact XE.round (s := i) (i + 1) hin (by omega) (Sub.cons (by show some _ = some _; rw [cntB_succ hb, if_neg (by simp)]; try rfl) ZZSUB) (fun _ h => h)
set_option maxHeartbeats 8000000 in
theorem rules5_any {i tick x y : Int} (hT : CtAt w w.heap.size v t) (ho : CtOk t) (h0 : 0 ≤ i) (h1 : i ≤ t.last) (htk : tick = t.from_ + i) :
    Calls Tryz.prog 71 #[ctkV v t, .int .i64 tick, .agg ⟨[.int .i64 x, .int .i64 y]⟩] w fun e w' => e = .returned (.bool (t.rules i (x, y))) ∧ Below w.heap.size w w' := by
  subst htk
  have hfr := fun (w5 : World) (hB : Below w.heap.size w w5) => from5_any (hT.sys (Sys.ofBelow hB)) ho
  have hen := fun (w5 : World) (hB : Below w.heap.size w w5) => end5_any (hT.sys (Sys.ofBelow hB)) ho
  have h60 := ho.n60
  have h1n := ho.n1
  have hm8 := ho.m8
  have hfm := ho.frm
  have hdl := ho.dly
  have hll : t.last ≤ 60 := by unfold CTk.last; omega
  have hpl := fun (w5 : World) (hB : Below w.heap.size w w5) => refplan_any (i := t.from_ + i) (hT.sys (Sys.ofBelow hB)) ho (by omega)
  simp only [show t.from_ + i - t.from_ = i from by omega] at hpl
  have hst : t.strange (t.plan i) = false := (plan_ok ho h0 h1).1
  have hlv := fun (k : Nat) (hk : k < t.m) (w5 : World) (hB : Below w.heap.size w w5) => levels5_made (k := k) (p := t.plan i) (hT.sys (Sys.ofBelow hB)) ho hk hst
  have hft := fun (k j : Nat) (w5 : World) (hB : Below w.heap.size w w5) => fits5_any (x := t.rl k (t.plan i) j) (l := t.limit) (hT.sys (Sys.ofBelow hB))
  have hhn := hT.hn
  obtain ⟨vp, vf, ⟨Ah, nh, ch⟩, vr⟩ := v
  simp only at hhn
  subst hhn
  simp only [fits_above] at hft
  unfold CTk.rules
  simp only
  simp only [ctkV, ctkC, plnV, rlV] at hfr hen hpl hlv hft ⊢
  refine enter Tryz.func71 rfl Tryz.ntmps71 rfl ?_; simp only [frame, Nat.zero_add, Nat.reduceAdd]
  repeat (first | (refine M0 ?_; first | refine SL ?_ | refine SB fun _ _ => ?_) | (refine M1 ?_; refine SC ?_) | (refine M2 ?_; refine SE ?_))
  rename_i g3 hg3 g5 hg5
  cases hb1 : outB x 0 ((t.m : Int) - 1) with
  | true =>
    refine XC.drawT mixed rfl rfl (by kernel_rfl) ?_
    repeat (first | (refine M0 ?_; first | refine SL ?_ | refine SB fun _ _ => ?_ | refine Y4 (Ev.call (f := 35) (ck rfl) rfl (fun w5 S5 => in5_any _ _ _ w5)) ?_) | (refine M2 ?_; refine SE ?_) | (refine M3 ?_; first | refine SG ?_ | refine SF ?_ | refine YF (Ev.call (f := 35) (ck rfl) rfl (fun w5 S5 => in5_any _ _ _ w5)) ?_) | (refine M4 ?_; refine SR ?_) | (refine M5 ?_; first | exact M7 | refine YM ?_ | refine YN ?_ ?_))
    rw [hb1]
    repeat (first | (refine M0 ?_; first | refine SL ?_ | refine SB fun _ _ => ?_) | (refine M2 ?_; refine SE ?_) | (refine M3 ?_; first | refine SG ?_ | refine SF ?_) | (refine M4 ?_; refine SR ?_) | (refine M5 ?_; first | exact M7 | refine YM ?_ | refine YN ?_ ?_))
    repeat (first | (refine M0 ?_; first | refine SL ?_ | refine SB fun _ _ => ?_) | (refine M1 ?_; refine SC ?_) | (refine M2 ?_; refine SE ?_))
    refine XE.retg tok Tryz.results71 rfl (by simp only [and_self, and_true]) (fun w' S => ?_)
    exact ⟨rfl, S.toBelow⟩
  | false =>
  cases hb2 : outB y t.from_ (t.from_ + (t.n : Int) - 1) with
  | true =>
    refine XC.drawT mixed rfl rfl (by kernel_rfl) ?_
    repeat (first | (refine M0 ?_; first | refine SL ?_ | refine SB fun _ _ => ?_ | refine Y4 (Ev.call (f := 35) (ck rfl) rfl (fun w5 S5 => in5_any _ _ _ w5)) ?_) | (refine M2 ?_; refine SE ?_) | (refine M3 ?_; first | refine SG ?_ | refine SF ?_ | refine YF (Ev.call (f := 35) (ck rfl) rfl (fun w5 S5 => in5_any _ _ _ w5)) ?_) | (refine M4 ?_; refine SR ?_) | (refine M5 ?_; first | exact M7 | refine YM ?_ | refine YN ?_ ?_))
    rw [hb1]
    repeat (first | (refine M0 ?_; first | refine SL ?_ | refine SB fun _ _ => ?_ | refine Y4 (Ev.call (f := 37) (ck rfl) rfl (fun w5 S5 => hfr w5 S5.toBelow)) ?_ | refine Y4 (Ev.call (f := 36) (ck rfl) rfl (fun w5 S5 => hen w5 S5.toBelow)) ?_ | refine Y4 (Ev.call (f := 35) (ck rfl) rfl (fun w5 S5 => in5_any _ _ _ w5)) ?_) | (refine M2 ?_; refine SE ?_) | (refine M3 ?_; first | refine SG ?_ | refine SF ?_ | refine YF (Ev.call (f := 37) (ck rfl) rfl (fun w5 S5 => hfr w5 S5.toBelow)) ?_ | refine YF (Ev.call (f := 36) (ck rfl) rfl (fun w5 S5 => hen w5 S5.toBelow)) ?_ | refine YF (Ev.call (f := 35) (ck rfl) rfl (fun w5 S5 => in5_any _ _ _ w5)) ?_) | (refine M4 ?_; refine SR ?_) | (refine M5 ?_; first | exact M7 | refine YM ?_ | refine YN ?_ ?_))
    rw [hb2]
    repeat (first | (refine M0 ?_; first | refine SL ?_ | refine SB fun _ _ => ?_) | (refine M2 ?_; refine SE ?_) | (refine M3 ?_; first | refine SG ?_ | refine SF ?_) | (refine M4 ?_; refine SR ?_) | (refine M5 ?_; first | exact M7 | refine YM ?_ | refine YN ?_ ?_))
    repeat (first | (refine M0 ?_; first | refine SL ?_ | refine SB fun _ _ => ?_) | (refine M1 ?_; refine SC ?_) | (refine M2 ?_; refine SE ?_))
    refine XE.retg tok Tryz.results71 rfl (by simp only [and_self, and_true]) (fun w' S => ?_)
    exact ⟨rfl, S.toBelow⟩
  | false =>
  have hr1 := outB_f.1 hb1
  have hr2 := outB_f.1 hb2
  obtain ⟨hh, rfl⟩ : ∃ hh : Nat, x = (hh : Nat) := ⟨x.toNat, by omega⟩
  obtain ⟨aa, haa⟩ : ∃ aa : Nat, y = t.from_ + (aa : Nat) := ⟨(y - t.from_).toNat, by omega⟩
  have hhm : hh < t.m := by omega
  have han : aa < t.n := by omega
  subst haa
  have e5 : (t.from_ + (aa : Int) - t.from_).toNat = aa := by omega
  rw [Int.toNat_natCast, e5]
  have hft := hft hh aa
  have hlv := hlv hh hhm
  refine XC.drawT mixed rfl rfl (by kernel_rfl) ?_
  repeat (first | (refine M0 ?_; first | refine SL ?_ | refine SB fun _ _ => ?_ | refine Y4 (Ev.call (f := 35) (ck rfl) rfl (fun w5 S5 => in5_any _ _ _ w5)) ?_) | (refine M2 ?_; refine SE ?_) | (refine M3 ?_; first | refine SG ?_ | refine SF ?_ | refine YF (Ev.call (f := 35) (ck rfl) rfl (fun w5 S5 => in5_any _ _ _ w5)) ?_) | (refine M4 ?_; refine SR ?_) | (refine M5 ?_; first | exact M7 | refine YM ?_ | refine YN ?_ ?_))
  rw [hb1]
  repeat (first | (refine M0 ?_; first | refine SL ?_ | refine SB fun _ _ => ?_ | refine Y4 (Ev.call (f := 37) (ck rfl) rfl (fun w5 S5 => hfr w5 S5.toBelow)) ?_ | refine Y4 (Ev.call (f := 36) (ck rfl) rfl (fun w5 S5 => hen w5 S5.toBelow)) ?_ | refine Y4 (Ev.call (f := 35) (ck rfl) rfl (fun w5 S5 => in5_any _ _ _ w5)) ?_) | (refine M2 ?_; refine SE ?_) | (refine M3 ?_; first | refine SG ?_ | refine SF ?_ | refine YF (Ev.call (f := 37) (ck rfl) rfl (fun w5 S5 => hfr w5 S5.toBelow)) ?_ | refine YF (Ev.call (f := 36) (ck rfl) rfl (fun w5 S5 => hen w5 S5.toBelow)) ?_ | refine YF (Ev.call (f := 35) (ck rfl) rfl (fun w5 S5 => in5_any _ _ _ w5)) ?_) | (refine M4 ?_; refine SR ?_) | (refine M5 ?_; first | exact M7 | refine YM ?_ | refine YN ?_ ?_))
  rw [hb2]
  repeat (first | (refine M0 ?_; first | refine SL ?_ | refine SB fun _ _ => ?_) | (refine M2 ?_; refine SE ?_) | (refine M3 ?_; first | refine SG ?_ | refine SF ?_) | (refine M4 ?_; refine SR ?_) | (refine M5 ?_; first | exact M7 | refine YM ?_ | refine YN ?_ ?_))
  repeat (first | (refine M0 ?_; first | refine SL ?_ | refine SB fun _ _ => ?_) | (refine M1 ?_; refine SC ?_) | (refine M2 ?_; refine SE ?_))
  have hle : w.heap.size ≤ w.heap.size := Nat.le_refl _
  have hB0 := Below.refl w.heap.size w
  obtain ⟨b, hb⟩ : ∃ b, t.above hh (t.plan i) aa = b := ⟨_, rfl⟩
  simp only [hb] at hft
  rw [hb]
  refine XC.nd fun hnd => ?_
  have hn53 : g5 ≠ g3 := by simpa using hnd
  cases b with
  | true =>
    refine XC.drawRS (trunc w w.heap.size) [(g5, cel 70 [.int .i64 (hh : Nat), .int .i64 (t.from_ + (aa : Int))]), (g3, cel 29 (ctkC ⟨vp, vf, ⟨Ah, t.m, ch⟩, vr⟩ t))] [0, 1, 2, 3, 4, 5, 8, 9, 10, 15, 16] [6, 7, 11, 12, 13, 14, 17, 18, 19] mixed (fun _ h => Sys.anchorT hB0 h (by intro e he; repeat (first | (cases he; done) | (rcases List.mem_cons.1 he with rfl | he; · repeat (first | exact List.mem_cons_self | apply List.mem_cons_of_mem)))) (by simp; omega) hle) rfl (by kernel_rfl) ?_
    repeat (any_goals (first | (refine M0 ?_; first | refine SL ?_ | refine SB fun _ _ => ?_ | refine Y4 (Ev.load_loc tok 0 (g := g5) (o := 0) rfl rfl rfl rfl) ?_ | refine Y4 (Ev.load_loc tok 0 (g := g5) (o := 1) rfl rfl rfl rfl) ?_ | refine Y4 (Ev.load_loc tok 1 (g := g3) (o := 9) rfl rfl rfl rfl) ?_ | refine Y4 (Ev.load_loc_agg tok 1 (g := g3) (o := 0) rfl rfl rfl rfl) ?_ | refine Y4 (Ev.call (f := 39) (ck rfl) rfl (fun w5 S5 => hpl w5 S5.toBelow)) ?_ | refine Y4 (Ev.call (f := 37) (ck rfl) rfl (fun w5 S5 => hfr w5 S5.toBelow)) ?_ | refine Y4 (Ev.call (f := 37) (ck rfl) rfl (fun w5 S5 => hfr w5 (hB1.trans S5.toBelow))) ?_ | refine Y4 (Ev.load_far_agg tok (rlK5.c (t.rl hh (t.plan i) aa)) rfl rfl rfl la (hf.far ZZHL) ca) ?_ | refine Y4 (Ev.call (f := 79) (ck rfl) rfl (fun w5 S5 => hft w5 (hB1.trans S5.toBelow))) ?_ | (refine XL.at_call 62 ?_; refine XL.callF (ks := []) (rs := []) (hs := []) (b0 := w.heap.size) (wE := w) (RlsV t hh (t.plan i)) (ck rfl) rfl rfl (Fam.start (Nat.le_refl w.heap.size)) (fun _ h => by cases h) (Below.refl w.heap.size w) (fun w1 S1 _ hB1 => hlv w1 hB1) (fun w1 x new hR hF1 hB1 hk1 => ?_) ZZHL; obtain ⟨⟨qA, qn, qc⟩, rfl, rfl⟩ := hR; have hLF : ListAt rlK5 w1 (Free w1 w.heap.size _ []) ⟨qA, qn, qc⟩ ((List.range t.n).map (t.rl hh (t.plan i))) := hF1.held (hList rlK5 ⟨qA, qn, qc⟩ ((List.range t.n).map (t.rl hh (t.plan i)))) (.head _); have hqn := hLF.len (by decide); simp only [List.length_map, List.length_range] at hqn; subst hqn; obtain ⟨ad, rfl, hf⟩ := hLF.addr (by decide) (by rw [List.length_map, List.length_range]; omega); have ca := hLF.elem (show ((List.range t.n).map (t.rl hh (t.plan i)))[(t.from_ + (aa : Int) - t.from_).toNat]? = some (t.rl hh (t.plan i) aa) from by rw [e5, List.getElem?_map, List.getElem?_range han]; rfl); have la : (ad.add ((t.from_ + (aa : Int) - t.from_).toNat * 3)).block < w1.heap.size := (by rw [add_block]; exact hf.2.1); simp only [svV])) | (refine M1 ?_; refine SC ?_) | (refine M2 ?_; first | refine SE ?_ | ((with_reducible refine atHeld ?_); refine z7 ?_)) | (refine M3 ?_; first | refine SG ?_ | refine SF ?_ | refine YF (Ev.load_loc tok 0 (g := g5) (o := 0) rfl rfl rfl rfl) ?_ | refine YF (Ev.load_loc tok 0 (g := g5) (o := 1) rfl rfl rfl rfl) ?_ | refine YF (Ev.load_loc tok 1 (g := g3) (o := 9) rfl rfl rfl rfl) ?_ | refine YF (Ev.load_loc_agg tok 1 (g := g3) (o := 0) rfl rfl rfl rfl) ?_ | refine YF (Ev.call (f := 39) (ck rfl) rfl (fun w5 S5 => hpl w5 S5.toBelow)) ?_ | refine YF (Ev.call (f := 37) (ck rfl) rfl (fun w5 S5 => hfr w5 S5.toBelow)) ?_ | refine YF (Ev.call (f := 37) (ck rfl) rfl (fun w5 S5 => hfr w5 (hB1.trans S5.toBelow))) ?_ | refine YF (Ev.load_far_agg tok (rlK5.c (t.rl hh (t.plan i) aa)) rfl rfl rfl la (hf.far ZZHL) ca) ?_ | refine YF (Ev.call (f := 79) (ck rfl) rfl (fun w5 S5 => hft w5 (hB1.trans S5.toBelow))) ?_) | (refine M4 ?_; refine SR ?_) | (refine M5 ?_; first | exact M7 | refine YM ?_ | refine YN ?_ ?_)))
    any_goals (repeat (first | exact AnyR.nil | refine AnyR.skip rfl ?_))
    all_goals
      repeat (first | (refine M0 ?_; first | refine SL ?_ | refine SB fun _ _ => ?_) | (refine M1 ?_; refine SC ?_) | (refine M2 ?_; refine SE ?_))
      refine XE.retg tok Tryz.results71 rfl (by simp only [and_self, and_true]) (fun w' S => ?_)
      exact ⟨rfl, hB1.trans S.toBelow⟩
  | false =>
    refine XC.drawRS (trunc w w.heap.size) [(g5, cel 70 [.int .i64 (hh : Nat), .int .i64 (t.from_ + (aa : Int))]), (g3, cel 29 (ctkC ⟨vp, vf, ⟨Ah, t.m, ch⟩, vr⟩ t))] [0, 1, 2, 3, 4, 5, 8, 9, 10, 15, 16] [6, 7, 11, 12, 13, 14, 17, 18, 19] mixed (fun _ h => Sys.anchorT hB0 h (by intro e he; repeat (first | (cases he; done) | (rcases List.mem_cons.1 he with rfl | he; · repeat (first | exact List.mem_cons_self | apply List.mem_cons_of_mem)))) (by simp; omega) hle) rfl (by kernel_rfl) ?_
    repeat (any_goals (first | (refine M0 ?_; first | refine SL ?_ | refine SB fun _ _ => ?_ | refine Y4 (Ev.load_loc tok 0 (g := g5) (o := 0) rfl rfl rfl rfl) ?_ | refine Y4 (Ev.load_loc tok 0 (g := g5) (o := 1) rfl rfl rfl rfl) ?_ | refine Y4 (Ev.load_loc tok 1 (g := g3) (o := 9) rfl rfl rfl rfl) ?_ | refine Y4 (Ev.load_loc_agg tok 1 (g := g3) (o := 0) rfl rfl rfl rfl) ?_ | refine Y4 (Ev.call (f := 39) (ck rfl) rfl (fun w5 S5 => hpl w5 S5.toBelow)) ?_ | refine Y4 (Ev.call (f := 37) (ck rfl) rfl (fun w5 S5 => hfr w5 S5.toBelow)) ?_ | refine Y4 (Ev.call (f := 37) (ck rfl) rfl (fun w5 S5 => hfr w5 (hB1.trans S5.toBelow))) ?_ | refine Y4 (Ev.load_far_agg tok (rlK5.c (t.rl hh (t.plan i) aa)) rfl rfl rfl la (hf.far ZZHL) ca) ?_ | refine Y4 (Ev.call (f := 79) (ck rfl) rfl (fun w5 S5 => hft w5 (hB1.trans S5.toBelow))) ?_ | (refine XL.at_call 62 ?_; refine XL.callF (ks := []) (rs := []) (hs := []) (b0 := w.heap.size) (wE := w) (RlsV t hh (t.plan i)) (ck rfl) rfl rfl (Fam.start (Nat.le_refl w.heap.size)) (fun _ h => by cases h) (Below.refl w.heap.size w) (fun w1 S1 _ hB1 => hlv w1 hB1) (fun w1 x new hR hF1 hB1 hk1 => ?_) ZZHL; obtain ⟨⟨qA, qn, qc⟩, rfl, rfl⟩ := hR; have hLF : ListAt rlK5 w1 (Free w1 w.heap.size _ []) ⟨qA, qn, qc⟩ ((List.range t.n).map (t.rl hh (t.plan i))) := hF1.held (hList rlK5 ⟨qA, qn, qc⟩ ((List.range t.n).map (t.rl hh (t.plan i)))) (.head _); have hqn := hLF.len (by decide); simp only [List.length_map, List.length_range] at hqn; subst hqn; obtain ⟨ad, rfl, hf⟩ := hLF.addr (by decide) (by rw [List.length_map, List.length_range]; omega); have ca := hLF.elem (show ((List.range t.n).map (t.rl hh (t.plan i)))[(t.from_ + (aa : Int) - t.from_).toNat]? = some (t.rl hh (t.plan i) aa) from by rw [e5, List.getElem?_map, List.getElem?_range han]; rfl); have la : (ad.add ((t.from_ + (aa : Int) - t.from_).toNat * 3)).block < w1.heap.size := (by rw [add_block]; exact hf.2.1); simp only [svV])) | (refine M1 ?_; refine SC ?_) | (refine M2 ?_; first | refine SE ?_ | ((with_reducible refine atHeld ?_); refine z7 ?_)) | (refine M3 ?_; first | refine SG ?_ | refine SF ?_ | refine YF (Ev.load_loc tok 0 (g := g5) (o := 0) rfl rfl rfl rfl) ?_ | refine YF (Ev.load_loc tok 0 (g := g5) (o := 1) rfl rfl rfl rfl) ?_ | refine YF (Ev.load_loc tok 1 (g := g3) (o := 9) rfl rfl rfl rfl) ?_ | refine YF (Ev.load_loc_agg tok 1 (g := g3) (o := 0) rfl rfl rfl rfl) ?_ | refine YF (Ev.call (f := 39) (ck rfl) rfl (fun w5 S5 => hpl w5 S5.toBelow)) ?_ | refine YF (Ev.call (f := 37) (ck rfl) rfl (fun w5 S5 => hfr w5 S5.toBelow)) ?_ | refine YF (Ev.call (f := 37) (ck rfl) rfl (fun w5 S5 => hfr w5 (hB1.trans S5.toBelow))) ?_ | refine YF (Ev.load_far_agg tok (rlK5.c (t.rl hh (t.plan i) aa)) rfl rfl rfl la (hf.far ZZHL) ca) ?_ | refine YF (Ev.call (f := 79) (ck rfl) rfl (fun w5 S5 => hft w5 (hB1.trans S5.toBelow))) ?_) | (refine M4 ?_; refine SR ?_) | (refine M5 ?_; first | exact M7 | refine YM ?_ | refine YN ?_ ?_)))
    any_goals (repeat (first | exact AnyR.nil | refine AnyR.skip rfl ?_))
    all_goals
      repeat (first | (refine M0 ?_; first | refine SL ?_ | refine SB fun _ _ => ?_) | (refine M1 ?_; refine SC ?_) | (refine M2 ?_; refine SE ?_))
      refine XE.retg tok Tryz.results71 rfl (by simp only [and_self, and_true]) (fun w' S => ?_)
      exact ⟨rfl, hB1.trans S.toBelow⟩
end
end Go.Proofs.YtmpaiphakjogjaaGreat.X
namespace Go.Proofs.YtmpaiphakjogjaaGreat.X
open Go Go.RowKit Go.Proofs.YtmpaiphakjogjaaGreat.Bs
theorem joinC {g : Prop} {R : Nat → Nat → List Deferred → (Exit → Act → World → Prop) → Code → Prop} (N B : Nat) (ds : List Deferred) (Q : Exit → Act → World → Prop) (C : Code) (k : R N B ds Q C → g) (h : R N B ds Q C) : g := k h
theorem mayAl {t : CTk} {r : CRu} (ho : CtOk t) {p : CPl} (hp : t.strange p = false) (hn : p ≠ nev) : t.allowed r p.close = t.may r (p.close - t.from_) := by
  obtain ⟨⟨h1, h2⟩, _⟩ := strange_f hp hn
  have := ho.dly
  have hb : outB p.close t.from_ (t.from_ + t.n - 1) = false := outB_f.2 ⟨h1, by unfold CTk.last at h2; omega⟩
  unfold CTk.allowed
  rw [hb]
  rfl
section
variable {N : Nat} {B : Nat} {w0 : World} {ds : List Deferred} {F : Fr} {L : Lo} {pu : Prop} {dst : Option Tmp} {ty : TypeId} {p : String} {af : Array Edge} {gd : Option (Nat × Bool)}
theorem Ev.plnNeqT {x y : Operand} {u : TypeId} {a b c d : Int} {e : Bool} (hx : evo F x = some (.agg ⟨[.int .i64 a, .int .i64 c]⟩)) (hy : evo F y = some (.agg ⟨[.int .i64 b, .int .i64 d]⟩)) (h : (!(decide (a = b) && decide (c = d))) = e) :
    Ev Tryz.prog N B w0 ds pu F L ⟨dst, .binOp .neq 42 x y u, ty, p, af, gd⟩ (.bool e) := h ▸ Ev.plnNeq hx hy
end
section
variable {v : CTV} {t : CTk} {w : World}
set_option maxHeartbeats 16000000 in
theorem refAccept5_any {r : CRu} {q1 q2 : SV} {d : CDe} (hT : CtAt w w.heap.size v t) (hL1 : ListAt pekK5 w (Lt w.heap.size) q1 d.peaks) (hL2 : ListAt wtnK5 w (Lt w.heap.size) q2 d.later) :
    Calls Tryz.prog 27 #[ctkV v t, ruV r, decV q1 q2 d] w fun e w' => e = .returned (.tuple ⟨[.int .i64 (t.acc r d).1, .int .i64 (t.acc r d).2]⟩) ∧ Below w.heap.size w w' := by
  have hru := fun (w5 : World) (hB : Below w.heap.size w w5) => ruled5_any (r := r) (hT.sys (Sys.ofBelow hB))
  have hne := fun (w5 : World) => rnever5_any w5
  have hpd := fun (ho : CtOk t) (w5 : World) (hB : Below w.heap.size w w5) => planned5_any (p := d.plan) (hT.sys (Sys.ofBelow hB)) ho
  have hal := fun (ho : CtOk t) (hq : RuOk r) (w5 : World) (hB : Below w.heap.size w w5) => rallowed5_any (r := r) (tick := d.plan.close) (hT.sys (Sys.ofBelow hB)) ho hq
  have hca := fun (ho : CtOk t) (w5 : World) (hB : Below w.heap.size w w5) => rcalled5_any (r := r) (hT.sys (Sys.ofBelow hB)) ho
  have hpl := fun (ho : CtOk t) (hb : 0 ≤ d.plan.close ∧ d.plan.close ≤ 300000) (w5 : World) (hB : Below w.heap.size w w5) => refplan_any (i := d.plan.close) (hT.sys (Sys.ofBelow hB)) ho hb
  have hen := fun (ho : CtOk t) (w5 : World) (hB : Below w.heap.size w w5) => end5_any (hT.sys (Sys.ofBelow hB)) ho
  have hll := fun (ho : CtOk t) (hp : t.strange d.plan = false) (w5 : World) (hB : Below w.heap.size w w5) => all5_made (p := d.plan) (hT.sys (Sys.ofBelow hB)) ho hp
  have hpk := fun (ho : CtOk t) (hp : t.strange d.plan = false) (k : Nat) (hk : k < t.m) (w5 : World) (hB : Below w.heap.size w w5) => peak5_any (k := k) (p := d.plan) (hT.sys (Sys.ofBelow hB)) ho hk hp
  have hrl := fun (ho : CtOk t) (i tick x y : Int) (h0 : 0 ≤ i) (h1 : i ≤ t.last) (htk : tick = t.from_ + i) (w5 : World) (hB : Below w.heap.size w w5) => rules5_any (x := x) (y := y) (hT.sys (Sys.ofBelow hB)) ho h0 h1 htk
  have hhn := hT.hn
  have hn1 := hL1.len (by decide)
  have hx1 := hL1.max
  have hn2 := hL2.len (by decide)
  have hx2 := hL2.max
  obtain ⟨vp, vf, ⟨Ah, nh, ch⟩, vr⟩ := v
  simp only at hhn
  subst hhn
  obtain ⟨q1A, q1n, q1c⟩ := q1
  obtain ⟨q2A, q2n, q2c⟩ := q2
  simp only at hn1 hn2 hx1 hx2
  subst hn1 hn2
  obtain ⟨⟨c, o⟩, l1, l2⟩ := d
  simp only at hL1 hL2 hx1 hx2
  simp only [ctkV, ctkC, ruV, decV, decC, svV, plnV, iiV] at hru hpd hal hca hpl hen hll hpk hrl ⊢
  refine enter Tryz.func27 rfl Tryz.ntmps27 rfl ?_; simp only [frame, Nat.zero_add, Nat.reduceAdd]
  repeat (first | (refine M0 ?_; first | refine SL ?_ | refine SB fun _ _ => ?_ | refine Y4 (Ev.call (f := 43) (ck rfl) rfl (fun w5 S5 => hru w5 S5.toBelow)) ?_) | (refine M1 ?_; refine SC ?_) | (refine M2 ?_; refine SE ?_))
  rename_i g3 hg3 g4 hg4 g5 hg5
  by_cases hc : ruE t r = 0
  rotate_left
  · rw [show decide (ruE t r ≠ 0) = true from decide_eq_true hc]
    repeat (first | (refine M0 ?_; first | refine SL ?_ | refine SB fun _ _ => ?_) | (refine M1 ?_; refine SC ?_) | (refine M2 ?_; refine SE ?_))
    refine XE.retg tok Tryz.results27 rfl (by simp only [and_self, and_true]) (fun w' S => ?_)
    have e1 : t.acc r ⟨⟨c, o⟩, l1, l2⟩ = (0, ruE t r) := by unfold CTk.acc; rw [if_pos hc]
    rw [e1]
    exact ⟨rfl, S.toBelow⟩
  obtain ⟨hc0, ho, hq⟩ := ruE_0 hc
  have h60 := ho.n60
  have h1n := ho.n1
  have hm8 := ho.m8
  have hfm := ho.frm
  have hdl := ho.dly
  rw [show decide (ruE t r ≠ 0) = false from decide_eq_false (fun h => h hc)]
  have hpd := hpd ho
  cases hs : t.strange ⟨c, o⟩ with
  | true =>
    simp only [hs] at hpd
    repeat (first | (refine M0 ?_; first | refine SL ?_ | refine SB fun _ _ => ?_ | refine Y4 (Ev.call (f := 61) (ck rfl) rfl (fun w5 S5 => hpd w5 S5.toBelow)) ?_) | (refine M1 ?_; refine SC ?_) | (refine M2 ?_; refine SE ?_))
    refine XE.retg tok Tryz.results27 rfl (by simp only [and_self, and_true]) (fun w' S => ?_)
    rw [acc_form (d := ⟨⟨c, o⟩, l1, l2⟩) hc (by simp [hs])]
    exact ⟨rfl, S.toBelow⟩
  | false =>
  simp only [hs] at hpd
  by_cases hlen : l1.length = t.m
  rotate_left
  · repeat (first | (refine M0 ?_; first | refine SL ?_ | refine SB fun _ _ => ?_ | refine Y4 (Ev.call (f := 61) (ck rfl) rfl (fun w5 S5 => hpd w5 S5.toBelow)) ?_) | (refine M1 ?_; refine SC ?_) | (refine M2 ?_; refine SE ?_))
    rw [show decide ((l1.length : Int) ≠ (t.m : Int)) = true from decide_eq_true (by omega)]
    repeat (first | (refine M0 ?_; first | refine SL ?_ | refine SB fun _ _ => ?_) | (refine M1 ?_; refine SC ?_) | (refine M2 ?_; refine SE ?_))
    refine XE.retg tok Tryz.results27 rfl (by simp only [and_self, and_true]) (fun w' S => ?_)
    rw [acc_form (d := ⟨⟨c, o⟩, l1, l2⟩) hc (by simp [hlen])]
    exact ⟨rfl, S.toBelow⟩
  repeat (first | (refine M0 ?_; first | refine SL ?_ | refine SB fun _ _ => ?_ | refine Y4 (Ev.call (f := 61) (ck rfl) rfl (fun w5 S5 => hpd w5 S5.toBelow)) ?_) | (refine M1 ?_; refine SC ?_) | (refine M2 ?_; refine SE ?_))
  rw [show decide ((l1.length : Int) ≠ (t.m : Int)) = false from decide_eq_false (by omega)]
  repeat (first | (refine M0 ?_; first | refine SL ?_ | refine SB fun _ _ => ?_) | (refine M1 ?_; refine SC ?_) | (refine M2 ?_; refine SE ?_))
  apply joinC (R := fun N B ds Q C => ∀ (w1 : World) (cb : Bool), Below w.heap.size w w1 → cb = decide ((⟨c, o⟩ : CPl) ≠ nev) → t.earB r ⟨⟨c, o⟩, l1, l2⟩ = true → t.hldsB ⟨⟨c, o⟩, l1, l2⟩ = true → XC Tryz.prog N B w1 ds Q C [(10, .int .i64 0), (9, .bool cb), (5, .pointer (some ⟨g5, 0, none⟩)), (3, .pointer (some ⟨g3, 0, none⟩))] [(g5, cel 46 [.int .i64 c, .int .i64 o, .slice q1A l1.length q1c, .slice q2A l2.length q2c]), (g4, cel 31 [.int .i64 r.count, .int .i64 r.early]), (g3, cel 29 (ctkC ⟨vp, vf, ⟨Ah, t.m, ch⟩, vr⟩ t))])
  · intro hrest
    refine XC.drawT mixed rfl rfl (by kernel_rfl) ?_
    repeat (first | (refine M0 ?_; first | refine SL ?_ | refine SB fun _ _ => ?_ | refine Y4 (Ev.call (f := 51) (ck rfl) rfl (fun w5 S5 => hne w5)) ?_ | refine Y4 (Ev.plnNeq rfl rfl) ?_) | (refine M2 ?_; refine SE ?_) | (refine M3 ?_; first | refine SG ?_ | refine SF ?_ | refine YF (Ev.call (f := 51) (ck rfl) rfl (fun w5 S5 => hne w5)) ?_ | refine YF (Ev.plnNeq rfl rfl) ?_) | (refine M4 ?_; refine SRV ?_) | (refine M5 ?_; first | exact M7 | refine YM ?_ | refine YN ?_ ?_))
    have hpb := plan_b (p := (⟨c, o⟩ : CPl))
    simp only at hpb
    by_cases hn : (⟨c, o⟩ : CPl) = nev
    · have hnb : (!(decide (c = -1) && decide (o = -1))) = false := by rw [← hpb, decide_eq_true hn]; rfl
      have hH : t.hldsB ⟨⟨c, o⟩, l1, l2⟩ = true := by unfold CTk.hldsB; rw [decide_eq_true hn]; rfl
      rw [hnb]
      have hca := hca ho
      cases hcl : t.called r with
      | true =>
        have hE : t.earB r ⟨⟨c, o⟩, l1, l2⟩ = false := by unfold CTk.earB; rw [if_pos hn, hcl]; rfl
        simp only [hcl] at hca
        repeat (first | (refine M0 ?_; first | refine SL ?_ | refine SB fun _ _ => ?_ | refine Y4 (Ev.call (f := 50) (ck rfl) rfl (fun w5 S5 => hca w5 S5.toBelow)) ?_) | (refine M1 ?_; refine SC ?_) | (refine M2 ?_; refine SE ?_))
        refine XE.retg tok Tryz.results27 rfl (by simp only [and_self, and_true]) (fun w' S => ?_)
        rw [acc_early (d := ⟨⟨c, o⟩, l1, l2⟩) hc hs hlen hE]
        exact ⟨rfl, S.toBelow⟩
      | false =>
        have hE : t.earB r ⟨⟨c, o⟩, l1, l2⟩ = true := by unfold CTk.earB; rw [if_pos hn, hcl]; rfl
        simp only [hcl] at hca
        repeat (first | (refine M0 ?_; first | refine SL ?_ | refine SB fun _ _ => ?_ | refine Y4 (Ev.call (f := 50) (ck rfl) rfl (fun w5 S5 => hca w5 S5.toBelow)) ?_) | (refine M1 ?_; refine SC ?_) | (refine M2 ?_; refine SE ?_))
        refine XC.drawT mixed rfl rfl (by kernel_rfl) ?_
        repeat (first | (refine M0 ?_; first | refine SL ?_ | refine SB fun _ _ => ?_) | (refine M2 ?_; refine SE ?_) | (refine M3 ?_; first | refine SG ?_ | refine SF ?_) | (refine M4 ?_; refine SRV ?_) | (refine M5 ?_; first | exact M7 | refine YM ?_ | refine YN ?_ ?_))
        repeat (first | (refine M0 ?_; first | refine SL ?_ | refine SB fun _ _ => ?_) | (refine M1 ?_; refine SC ?_) | (refine M2 ?_; refine SE ?_))
        exact XC.weak ZZSUB (hrest w false (Below.refl _ _) (by simp [hn]) hE hH)
    · have hnb : (!(decide (c = -1) && decide (o = -1))) = true := by rw [← hpb, decide_eq_false hn]; rfl
      obtain ⟨⟨b1, b2⟩, b3, b4⟩ := strange_f hs hn
      simp only at b1 b2 b3 b4
      have hll1 : t.last ≤ 60 := by unfold CTk.last; omega
      rw [hnb]
      have hal := hal ho hq
      have hmy := mayAl (r := r) ho hs hn
      simp only at hmy
      simp only [hmy] at hal
      have hpl := hpl ho ⟨by omega, by omega⟩
      cases hm : t.may r (c - t.from_) with
      | false =>
        have hE : t.earB r ⟨⟨c, o⟩, l1, l2⟩ = false := by unfold CTk.earB; rw [if_neg hn]; exact hm
        simp only [hm] at hal
        repeat (first | (refine M0 ?_; first | refine SL ?_ | refine SB fun _ _ => ?_ | refine Y4 (Ev.call (f := 44) (ck rfl) rfl (fun w5 S5 => hal w5 S5.toBelow)) ?_) | (refine M1 ?_; refine SC ?_) | (refine M2 ?_; refine SE ?_))
        refine XE.retg tok Tryz.results27 rfl (by simp only [and_self, and_true]) (fun w' S => ?_)
        rw [acc_early (d := ⟨⟨c, o⟩, l1, l2⟩) hc hs hlen hE]
        exact ⟨rfl, S.toBelow⟩
      | true =>
      have hE : t.earB r ⟨⟨c, o⟩, l1, l2⟩ = true := by unfold CTk.earB; rw [if_neg hn]; exact hm
      simp only [hm] at hal
      repeat (first | (refine M0 ?_; first | refine SL ?_ | refine SB fun _ _ => ?_ | refine Y4 (Ev.call (f := 44) (ck rfl) rfl (fun w5 S5 => hal w5 S5.toBelow)) ?_) | (refine M1 ?_; refine SC ?_) | (refine M2 ?_; refine SE ?_))
      by_cases hpe : (⟨c, o⟩ : CPl) = t.plan (c - t.from_)
      rotate_left
      · have hH : t.hldsB ⟨⟨c, o⟩, l1, l2⟩ = false := by unfold CTk.hldsB; rw [decide_eq_false hn, decide_eq_false hpe]; rfl
        have hpq : (!(decide (c = (t.plan (c - t.from_)).close) && decide (o = (t.plan (c - t.from_)).open_))) = true := by
          cases h : (decide (c = (t.plan (c - t.from_)).close) && decide (o = (t.plan (c - t.from_)).open_)) with
          | false => rfl
          | true =>
            simp only [Bool.and_eq_true, decide_eq_true_eq] at h
            obtain ⟨h1, h2⟩ := h
            refine absurd ?_ hpe
            cases hz : t.plan (c - t.from_) with
            | mk a b => rw [hz] at h1 h2; simp only at h1 h2; rw [h1, h2]
        refine XC.drawT mixed rfl rfl (by kernel_rfl) ?_
        repeat (first | (refine M0 ?_; first | refine SL ?_ | refine SB fun _ _ => ?_ | refine Y4 (Ev.call (f := 39) (ck rfl) rfl (fun w5 S5 => hpl w5 S5.toBelow)) ?_ | refine Y4 (Ev.plnNeq rfl rfl) ?_) | (refine M2 ?_; refine SE ?_) | (refine M3 ?_; first | refine SG ?_ | refine SF ?_ | refine YF (Ev.call (f := 39) (ck rfl) rfl (fun w5 S5 => hpl w5 S5.toBelow)) ?_ | refine YF (Ev.plnNeq rfl rfl) ?_) | (refine M4 ?_; refine SRV ?_) | (refine M5 ?_; first | exact M7 | refine YM ?_ | refine YN ?_ ?_))
        rw [hpq]
        repeat (first | (refine M0 ?_; first | refine SL ?_ | refine SB fun _ _ => ?_) | (refine M2 ?_; refine SE ?_) | (refine M3 ?_; first | refine SG ?_ | refine SF ?_) | (refine M4 ?_; refine SRV ?_) | (refine M5 ?_; first | exact M7 | refine YM ?_ | refine YN ?_ ?_))
        repeat (first | (refine M0 ?_; first | refine SL ?_ | refine SB fun _ _ => ?_) | (refine M1 ?_; refine SC ?_) | (refine M2 ?_; refine SE ?_))
        refine XE.retg tok Tryz.results27 rfl (by simp only [and_self, and_true]) (fun w' S => ?_)
        rw [acc_holds (d := ⟨⟨c, o⟩, l1, l2⟩) hc hs hlen hE hH]
        exact ⟨rfl, S.toBelow⟩
      have hpq : (!(decide (c = c) && decide (o = o))) = false := by simp
      simp only [← hpe] at hpl
      have hll := hll ho hs
      have hle : w.heap.size ≤ w.heap.size := Nat.le_refl _
      have hB0 := Below.refl w.heap.size w
      have hcf := cnt_full (t := t) (i := c - t.from_)
      rw [← hpe] at hcf
      have hcn : cntB (t.holdL ⟨c, o⟩) ≤ t.m := by have := cntB_le (t.holdL ⟨c, o⟩); rw [holdL_len] at this; exact this
      refine XC.nd fun hnd => ?_
      have hn53 : g5 ≠ g3 := by simp at hnd; omega
      refine XC.drawRS (trunc w w.heap.size) [(g5, cel 46 [.int .i64 c, .int .i64 o, .slice q1A l1.length q1c, .slice q2A l2.length q2c]), (g3, cel 29 (ctkC ⟨vp, vf, ⟨Ah, t.m, ch⟩, vr⟩ t))] [0] [1, 2, 3, 4, 5, 6, 7, 8, 9, 10, 11, 12, 13, 14, 15, 16, 17, 18, 19, 20, 21] mixed (fun _ h => Sys.anchorT hB0 h (by intro e he; repeat (first | (cases he; done) | (rcases List.mem_cons.1 he with rfl | he; · repeat (first | exact List.mem_cons_self | apply List.mem_cons_of_mem)))) (by simp; omega) hle) rfl (by kernel_rfl) ?_
      simp only [ctkC]
      repeat (any_goals (first | (refine M0 ?_; first | refine SL ?_ | refine SB fun _ _ => ?_ | refine Y4 (Ev.load_loc_agg tok 0 (g := g5) (o := 0) rfl rfl rfl rfl) ?_ | refine Y4 (Ev.load_loc tok 0 (g := g5) (o := 0) rfl rfl rfl rfl) ?_ | refine Y4 (Ev.load_loc_agg tok 1 (g := g3) (o := 0) rfl rfl rfl rfl) ?_ | refine Y4 (Ev.load_loc tok 1 (g := g3) (o := 6) rfl rfl rfl rfl) ?_ | refine Y4 (Ev.call (f := 39) (ck rfl) rfl (fun w5 S5 => hpl w5 S5.toBelow)) ?_ | refine Y4 (Ev.plnNeqT rfl rfl hpq) ?_ | refine Y4 (Ev.call (f := 57) (ck rfl) rfl (fun w5 S5 => count5_any (q := ⟨qA, qn, qc⟩) (l := t.holdL ⟨c, o⟩) (Held.lt (x := hList boolK5 ⟨qA, qn, qc⟩ (t.holdL ⟨c, o⟩)) ((hF1.sys S5 ZZHL).get (.head _))) (by rw [holdL_len]; omega))) ?_ | (refine XL.at_call 56 ?_; refine XL.callF (ks := []) (rs := []) (hs := []) (b0 := w.heap.size) (wE := w) (AllV t ⟨c, o⟩) (ck rfl) rfl rfl (Fam.start (Nat.le_refl w.heap.size)) (fun _ h => by cases h) (Below.refl w.heap.size w) (fun w1 S1 _ hB1 => hll w1 hB1) (fun w1 x new hR hF1 hB1 hk1 => ?_) ZZHL; obtain ⟨⟨qA, qn, qc⟩, rfl, rfl⟩ := hR; simp only [svV])) | (refine M1 ?_; refine SC ?_) | (refine M2 ?_; first | refine SE ?_ | ((with_reducible refine atHeld ?_); refine z7 ?_)) | (refine M3 ?_; first | refine SG ?_ | refine SF ?_ | refine YF (Ev.load_loc_agg tok 0 (g := g5) (o := 0) rfl rfl rfl rfl) ?_ | refine YF (Ev.load_loc tok 0 (g := g5) (o := 0) rfl rfl rfl rfl) ?_ | refine YF (Ev.load_loc_agg tok 1 (g := g3) (o := 0) rfl rfl rfl rfl) ?_ | refine YF (Ev.load_loc tok 1 (g := g3) (o := 6) rfl rfl rfl rfl) ?_ | refine YF (Ev.call (f := 39) (ck rfl) rfl (fun w5 S5 => hpl w5 S5.toBelow)) ?_ | refine YF (Ev.plnNeqT rfl rfl hpq) ?_ | refine YF (Ev.call (f := 57) (ck rfl) rfl (fun w5 S5 => count5_any (q := ⟨qA, qn, qc⟩) (l := t.holdL ⟨c, o⟩) (Held.lt (x := hList boolK5 ⟨qA, qn, qc⟩ (t.holdL ⟨c, o⟩)) ((hF1.sys S5 ZZHL).get (.head _))) (by rw [holdL_len]; omega))) ?_) | (refine M4 ?_; refine SRV ?_) | (refine M5 ?_; first | exact M7 | refine YM ?_ | refine YN ?_ ?_)))
      any_goals (repeat (first | exact AnyR.nil | refine AnyR.skip rfl ?_))
      by_cases hw : t.wit (c - t.from_) = none
      · have hH : t.hldsB ⟨⟨c, o⟩, l1, l2⟩ = true := by unfold CTk.hldsB; simp only; rw [decide_eq_true hpe, hw]; simp
        rw [show decide (((cntB (t.holdL ⟨c, o⟩) : Nat) : Int) < (t.m : Int)) = false from decide_eq_false (fun h => hcf.1 (by omega) hw)]
        repeat (first | (refine M0 ?_; first | refine SL ?_ | refine SB fun _ _ => ?_) | (refine M1 ?_; refine SC ?_) | (refine M2 ?_; refine SE ?_))
        exact XC.weak ZZSUB (hrest w1 true hB1 (by simp [hn]) hE hH)
      · have hH : t.hldsB ⟨⟨c, o⟩, l1, l2⟩ = false := by
          unfold CTk.hldsB
          simp only
          rw [decide_eq_false hn]
          cases hz : t.wit (c - t.from_) with
          | none => exact absurd hz hw
          | some z => simp
        rw [show decide (((cntB (t.holdL ⟨c, o⟩) : Nat) : Int) < (t.m : Int)) = true from decide_eq_true (by have := hcf.2 hw; omega)]
        repeat (first | (refine M0 ?_; first | refine SL ?_ | refine SB fun _ _ => ?_) | (refine M1 ?_; refine SC ?_) | (refine M2 ?_; refine SE ?_))
        refine XE.retg tok Tryz.results27 rfl (by simp only [and_self, and_true]) (fun w' S => ?_)
        rw [acc_holds (d := ⟨⟨c, o⟩, l1, l2⟩) hc hs hlen hE hH]
        exact ⟨rfl, hB1.trans S.toBelow⟩
  intro w1 cb hB1 hcb hE hH
  refine XC.hint 3 0 ?_
  refine XC.hint 5 2 ?_
  have hL1W := hL1.below hB1
  refine XC.loopk [3, 5, 9] rfl (fun i : Nat => [(10, .int .i64 (i : Nat))]) (fun _ => [(g5, cel 46 [.int .i64 c, .int .i64 o, .slice q1A l1.length q1c, .slice q2A l2.length q2c]), (g4, cel 31 [.int .i64 r.count, .int .i64 r.early]), (g3, cel 29 (ctkC ⟨vp, vf, ⟨Ah, t.m, ch⟩, vr⟩ t))]) (fun _ => w1) (fun i => i ≤ t.m ∧ ∀ j, j < i → l1[j]?.getD (0, 0) = t.peak ⟨c, o⟩ j) (fun i => t.m - i) 0 ⟨Nat.zero_le _, fun j h => by omega⟩ ZZSUB (fun _ h => h) ?_
  rintro i ⟨hi, hall⟩
  simp only [ctkC]
  dsimp only [List.cons_append, List.nil_append]
  repeat (first | (refine M0 ?_; first | refine SL ?_ | refine SB fun _ _ => ?_) | (refine M1 ?_; refine SC ?_) | (refine M2 ?_; refine SE ?_))
  refine XC.cond _ rfl (fun h2 => ?_) (fun h2 => ?_)
  rotate_left
  · have hin : i = t.m := by have := of_decide_eq_false h2; omega
    subst hin
    have hnone : firstB (fun k => decide (l1[k]?.getD (0, 0) ≠ t.peak ⟨c, o⟩ k)) t.m = none := firstB_none.2 fun j hj => by simp only [decide_eq_false_iff_not]; exact fun h => h (hall j hj)
    repeat (first | (refine M0 ?_; first | refine SL ?_ | refine SB fun _ _ => ?_) | (refine M1 ?_; refine SC ?_) | (refine M2 ?_; refine SE ?_))
    refine XC.cutn [3, 5] rfl (fun _ : World => [(11, .int .i64 (t.manyI ⟨⟨c, o⟩, l1, l2⟩))]) (fun _ => [(g5, cel 46 [.int .i64 c, .int .i64 o, .slice q1A l1.length q1c, .slice q2A l2.length q2c]), (g4, cel 31 [.int .i64 r.count, .int .i64 r.early]), (g3, cel 29 (ctkC ⟨vp, vf, ⟨Ah, t.m, ch⟩, vr⟩ t))]) (fun z => z) (fun z => Below w.heap.size w z) ?_ ?_
    · by_cases hn : (⟨c, o⟩ : CPl) = nev
      · have hcb : cb = false := by rw [hcb]; simp [hn]
        subst hcb
        have e1 : t.manyI ⟨⟨c, o⟩, l1, l2⟩ = 0 := by unfold CTk.manyI; rw [if_pos hn]
        repeat (first | (refine M0 ?_; first | refine SL ?_ | refine SB fun _ _ => ?_) | (refine M1 ?_; refine SC ?_) | (refine M2 ?_; refine SE ?_))
        exact XE.leafW (fun z9 S9 => ⟨z9, hB1.trans S9.toBelow, Sub.cons (by show some _ = some _; rw [e1]) ZZSUB, S9.rebase ZZSM⟩)
      · have hcb : cb = true := by rw [hcb]; simp [hn]
        subst hcb
        obtain ⟨⟨b1, b2⟩, b3, b4⟩ := strange_f hs hn
        simp only at b1 b2 b3 b4
        have hen := hen ho
        have e1 : t.manyI ⟨⟨c, o⟩, l1, l2⟩ = t.from_ + (t.n : Int) - 1 - t.delay - c := by unfold CTk.manyI; rw [if_neg hn]; simp only; unfold CTk.last; omega
        repeat (first | (refine M0 ?_; first | refine SL ?_ | refine SB fun _ _ => ?_) | (refine M1 ?_; refine SC ?_) | (refine M2 ?_; refine SE ?_))
        refine XC.drawT mixed rfl rfl (by kernel_rfl) ?_
        repeat (first | (refine M0 ?_; first | refine SL ?_ | refine SB fun _ _ => ?_ | refine Y4 (Ev.call (f := 36) (ck rfl) rfl (fun w5 S5 => hen w5 (hB1.trans S5.toBelow))) ?_) | (refine M2 ?_; refine SE ?_) | (refine M3 ?_; first | refine SG ?_ | refine SF ?_ | refine YF (Ev.call (f := 36) (ck rfl) rfl (fun w5 S5 => hen w5 (hB1.trans S5.toBelow))) ?_) | (refine M4 ?_; refine SRV ?_) | (refine M5 ?_; first | exact M7 | refine YM ?_ | refine YN ?_ ?_))
        repeat (first | (refine M0 ?_; first | refine SL ?_ | refine SB fun _ _ => ?_) | (refine M1 ?_; refine SC ?_) | (refine M2 ?_; refine SE ?_))
        exact XE.leafW (fun z9 S9 => ⟨z9, hB1.trans S9.toBelow, Sub.cons (by show some _ = some _; rw [e1]) ZZSUB, S9.rebase ZZSM⟩)
    intro z hBz
    simp only [ctkC]
    dsimp only [List.cons_append, List.nil_append]
    repeat (first | (refine M0 ?_; first | refine SL ?_ | refine SB fun _ _ => ?_) | (refine M1 ?_; refine SC ?_) | (refine M2 ?_; refine SE ?_))
    by_cases hmn : (l2.length : Int) = t.manyI ⟨⟨c, o⟩, l1, l2⟩
    rotate_left
    · rw [show decide ((l2.length : Int) ≠ t.manyI ⟨⟨c, o⟩, l1, l2⟩) = true from decide_eq_true hmn]
      repeat (first | (refine M0 ?_; first | refine SL ?_ | refine SB fun _ _ => ?_) | (refine M1 ?_; refine SC ?_) | (refine M2 ?_; refine SE ?_))
      refine XE.retg tok Tryz.results27 rfl (by simp only [and_self, and_true]) (fun w' S => ?_)
      rw [acc_many (d := ⟨⟨c, o⟩, l1, l2⟩) hc hs hlen hE hH hnone hmn]
      exact ⟨rfl, hBz.trans S.toBelow⟩
    rw [show decide ((l2.length : Int) ≠ t.manyI ⟨⟨c, o⟩, l1, l2⟩) = false from decide_eq_false (fun h => h hmn)]
    repeat (first | (refine M0 ?_; first | refine SL ?_ | refine SB fun _ _ => ?_) | (refine M1 ?_; refine SC ?_) | (refine M2 ?_; refine SE ?_))
    have hL2W := hL2.below hBz
    refine XC.loopk [3, 5] rfl (fun i : Nat => [(12, .int .i64 (i : Nat))]) (fun _ => [(g5, cel 46 [.int .i64 c, .int .i64 o, .slice q1A l1.length q1c, .slice q2A l2.length q2c]), (g4, cel 31 [.int .i64 r.count, .int .i64 r.early]), (g3, cel 29 (ctkC ⟨vp, vf, ⟨Ah, t.m, ch⟩, vr⟩ t))]) (fun _ => z) (fun i => i ≤ l2.length ∧ ∀ j, j < i → t.rules (c - t.from_ + 1 + (j : Nat)) (l2[j]?.getD (0, 0)) = true) (fun i => l2.length - i) 0 ⟨Nat.zero_le _, fun j h => by omega⟩ ZZSUB (fun _ h => h) ?_
    rintro k ⟨hk, hno⟩
    simp only [ctkC]
    dsimp only [List.cons_append, List.nil_append]
    repeat (first | (refine M0 ?_; first | refine SL ?_ | refine SB fun _ _ => ?_) | (refine M1 ?_; refine SC ?_) | (refine M2 ?_; refine SE ?_))
    refine XC.cond _ rfl (fun h3 => ?_) (fun h3 => ?_)
    rotate_left
    · have hin : k = l2.length := by have := of_decide_eq_false h3; omega
      subst hin
      repeat (first | (refine M0 ?_; first | refine SL ?_ | refine SB fun _ _ => ?_) | (refine M1 ?_; refine SC ?_) | (refine M2 ?_; refine SE ?_))
      refine XE.retg tok Tryz.results27 rfl (by simp only [and_self, and_true]) (fun w' S => ?_)
      rw [acc_ok (d := ⟨⟨c, o⟩, l1, l2⟩) hc hs hlen hE hH hnone (fun h => h hmn) (firstB_none.2 fun j hj => by simp only; rw [hno j hj]; rfl)]
      exact ⟨rfl, hBz.trans S.toBelow⟩
    have hkl : k < l2.length := by have := of_decide_eq_true h3; omega
    have hn : ¬ (⟨c, o⟩ : CPl) = nev := fun h => by
      unfold CTk.manyI at hmn
      rw [if_pos h] at hmn
      omega
    obtain ⟨⟨b1, b2⟩, b3, b4⟩ := strange_f hs hn
    simp only at b1 b2 b3 b4
    have hik : c - t.from_ + 1 + (k : Int) ≤ t.last := by
      unfold CTk.manyI at hmn
      rw [if_neg hn] at hmn
      simp only at hmn
      omega
    obtain ⟨ad, rfl, hlt⟩ := hL2.addr (by decide) (by omega)
    obtain ⟨⟨pa, pb⟩, hpe⟩ : ∃ x, l2[k]? = some x := ⟨_, List.getElem?_eq_getElem hkl⟩
    have hel := hL2W.elem hpe
    have hll1 : t.last ≤ 60 := by unfold CTk.last; omega
    have hrl := hrl ho (c - t.from_ + 1 + (k : Int)) (c + 1 + (k : Int)) pa pb (by omega) hik (by omega)
    cases hb : t.rules (c - t.from_ + 1 + (k : Int)) (pa, pb) with
    | true =>
      simp only [hb] at hrl
      repeat (first | (refine M0 ?_; first | refine SL ?_ | refine SB fun _ _ => ?_) | (refine M1 ?_; refine SC ?_) | (refine M2 ?_; refine SE ?_))
      refine XC.drawT mixed rfl rfl (by kernel_rfl) ?_
      repeat (first | (refine M0 ?_; first | refine SL ?_ | refine SB fun _ _ => ?_ | refine Y4 (Ev.load_old_agg tok [.int .i64 pa, .int .i64 pb] rfl rfl rfl (add_lt hlt) hel) ?_ | refine Y4 (Ev.call (f := 71) (ck rfl) rfl (fun w5 S5 => hrl w5 (hBz.trans S5.toBelow))) ?_) | (refine M2 ?_; refine SE ?_) | (refine M3 ?_; first | refine SG ?_ | refine SF ?_ | refine YF (Ev.load_old_agg tok [.int .i64 pa, .int .i64 pb] rfl rfl rfl (add_lt hlt) hel) ?_ | refine YF (Ev.call (f := 71) (ck rfl) rfl (fun w5 S5 => hrl w5 (hBz.trans S5.toBelow))) ?_) | (refine M4 ?_; refine SRV ?_) | (refine M5 ?_; first | exact M7 | refine YM ?_ | refine YN ?_ ?_))
      repeat (first | (refine M0 ?_; first | refine SL ?_ | refine SB fun _ _ => ?_) | (refine M1 ?_; refine SC ?_) | (refine M2 ?_; refine SE ?_))
      exact XE.round (s := k) (k + 1) ⟨hkl, fun j hj => by
        rcases Nat.lt_succ_iff_lt_or_eq.1 hj with h | rfl
        · exact hno j h
        · rw [hpe]; exact hb⟩ (by omega) ZZSUB (fun _ h => h)
    | false =>
      simp only [hb] at hrl
      repeat (first | (refine M0 ?_; first | refine SL ?_ | refine SB fun _ _ => ?_) | (refine M1 ?_; refine SC ?_) | (refine M2 ?_; refine SE ?_))
      refine XC.drawT mixed rfl rfl (by kernel_rfl) ?_
      repeat (first | (refine M0 ?_; first | refine SL ?_ | refine SB fun _ _ => ?_ | refine Y4 (Ev.load_old_agg tok [.int .i64 pa, .int .i64 pb] rfl rfl rfl (add_lt hlt) hel) ?_ | refine Y4 (Ev.call (f := 71) (ck rfl) rfl (fun w5 S5 => hrl w5 (hBz.trans S5.toBelow))) ?_) | (refine M2 ?_; refine SE ?_) | (refine M3 ?_; first | refine SG ?_ | refine SF ?_ | refine YF (Ev.load_old_agg tok [.int .i64 pa, .int .i64 pb] rfl rfl rfl (add_lt hlt) hel) ?_ | refine YF (Ev.call (f := 71) (ck rfl) rfl (fun w5 S5 => hrl w5 (hBz.trans S5.toBelow))) ?_) | (refine M4 ?_; refine SRV ?_) | (refine M5 ?_; first | exact M7 | refine YM ?_ | refine YN ?_ ?_))
      repeat (first | (refine M0 ?_; first | refine SL ?_ | refine SB fun _ _ => ?_) | (refine M1 ?_; refine SC ?_) | (refine M2 ?_; refine SE ?_))
      refine XE.retg tok Tryz.results27 rfl (by simp only [and_self, and_true]) (fun w' S => ?_)
      rw [acc_later (d := ⟨⟨c, o⟩, l1, l2⟩) hc hs hlen hE hH hnone (fun h => h hmn) (firstB_some.2 ⟨hkl, by simp only; rw [hpe]; simp only [Option.getD_some]; rw [hb]; rfl, fun j hj => by simp only; rw [hno j hj]; rfl⟩)]
      exact ⟨rfl, hBz.trans S.toBelow⟩
  have him : i < t.m := by have := of_decide_eq_true h2; omega
  obtain ⟨ad, rfl, hlt⟩ := hL1.addr (by decide) (by omega)
  obtain ⟨⟨pa, pb⟩, hpe⟩ : ∃ x, l1[i]? = some x := ⟨_, List.getElem?_eq_getElem (by omega)⟩
  have hel := hL1W.elem hpe
  have hpk := hpk ho hs i him
  by_cases hpq : (pa, pb) = t.peak ⟨c, o⟩ i
  · have hb : (!(decide (pa = (t.peak ⟨c, o⟩ i).1) && decide (pb = (t.peak ⟨c, o⟩ i).2))) = false := by rw [← hpq]; simp
    repeat (first | (refine M0 ?_; first | refine SL ?_ | refine SB fun _ _ => ?_) | (refine M1 ?_; refine SC ?_) | (refine M2 ?_; refine SE ?_))
    refine XC.drawT mixed rfl rfl (by kernel_rfl) ?_
    repeat (first | (refine M0 ?_; first | refine SL ?_ | refine SB fun _ _ => ?_ | refine Y4 (Ev.load_old_agg tok [.int .i64 pa, .int .i64 pb] rfl rfl rfl (add_lt hlt) hel) ?_ | refine Y4 (Ev.call (f := 70) (ck rfl) rfl (fun w5 S5 => hpk w5 (hB1.trans S5.toBelow))) ?_ | refine Y4 (Ev.pekNeq rfl rfl) ?_) | (refine M2 ?_; refine SE ?_) | (refine M3 ?_; first | refine SG ?_ | refine SF ?_ | refine YF (Ev.load_old_agg tok [.int .i64 pa, .int .i64 pb] rfl rfl rfl (add_lt hlt) hel) ?_ | refine YF (Ev.call (f := 70) (ck rfl) rfl (fun w5 S5 => hpk w5 (hB1.trans S5.toBelow))) ?_ | refine YF (Ev.pekNeq rfl rfl) ?_) | (refine M4 ?_; refine SRV ?_) | (refine M5 ?_; first | exact M7 | refine YM ?_ | refine YN ?_ ?_))
    rw [hb]
    repeat (first | (refine M0 ?_; first | refine SL ?_ | refine SB fun _ _ => ?_) | (refine M1 ?_; refine SC ?_) | (refine M2 ?_; refine SE ?_))
    exact XE.round (s := i) (i + 1) ⟨him, fun j hj => by
      rcases Nat.lt_succ_iff_lt_or_eq.1 hj with h | rfl
      · exact hall j h
      · rw [hpe]; exact hpq⟩ (by omega) ZZSUB (fun _ h => h)
  · have hb : (!(decide (pa = (t.peak ⟨c, o⟩ i).1) && decide (pb = (t.peak ⟨c, o⟩ i).2))) = true := by
      cases h : (decide (pa = (t.peak ⟨c, o⟩ i).1) && decide (pb = (t.peak ⟨c, o⟩ i).2)) with
      | false => rfl
      | true =>
        simp only [Bool.and_eq_true, decide_eq_true_eq] at h
        exact absurd (Prod.ext h.1 h.2) hpq
    repeat (first | (refine M0 ?_; first | refine SL ?_ | refine SB fun _ _ => ?_) | (refine M1 ?_; refine SC ?_) | (refine M2 ?_; refine SE ?_))
    refine XC.drawT mixed rfl rfl (by kernel_rfl) ?_
    repeat (first | (refine M0 ?_; first | refine SL ?_ | refine SB fun _ _ => ?_ | refine Y4 (Ev.load_old_agg tok [.int .i64 pa, .int .i64 pb] rfl rfl rfl (add_lt hlt) hel) ?_ | refine Y4 (Ev.call (f := 70) (ck rfl) rfl (fun w5 S5 => hpk w5 (hB1.trans S5.toBelow))) ?_ | refine Y4 (Ev.pekNeq rfl rfl) ?_) | (refine M2 ?_; refine SE ?_) | (refine M3 ?_; first | refine SG ?_ | refine SF ?_ | refine YF (Ev.load_old_agg tok [.int .i64 pa, .int .i64 pb] rfl rfl rfl (add_lt hlt) hel) ?_ | refine YF (Ev.call (f := 70) (ck rfl) rfl (fun w5 S5 => hpk w5 (hB1.trans S5.toBelow))) ?_ | refine YF (Ev.pekNeq rfl rfl) ?_) | (refine M4 ?_; refine SRV ?_) | (refine M5 ?_; first | exact M7 | refine YM ?_ | refine YN ?_ ?_))
    rw [hb]
    repeat (first | (refine M0 ?_; first | refine SL ?_ | refine SB fun _ _ => ?_) | (refine M1 ?_; refine SC ?_) | (refine M2 ?_; refine SE ?_))
    refine XE.retg tok Tryz.results27 rfl (by simp only [and_self, and_true]) (fun w' S => ?_)
    rw [acc_heights (d := ⟨⟨c, o⟩, l1, l2⟩) hc hs hlen hE hH (firstB_some.2 ⟨him, by simp only [decide_eq_true_eq]; rw [hpe]; exact hpq, fun j hj => by simp only [decide_eq_false_iff_not]; exact fun h => h (hall j hj)⟩)]
    exact ⟨rfl, hB1.trans S.toBelow⟩
end
end Go.Proofs.YtmpaiphakjogjaaGreat.X
namespace Go.Proofs.YtmpaiphakjogjaaGreat.Bs
open Go Go.Proofs.YtmpaiphakjogjaaGreat.X
def lowV (bs : List Int) (v : Int) (i : Nat) : Int := if 0 < bs.length then max (-20000) (v - at0 bs (i % bs.length)) else v
def lowTo (l bs : List Int) (n : Nat) : List Int := (List.range n).map fun i => lowV bs (at0 l i) i
end Go.Proofs.YtmpaiphakjogjaaGreat.Bs
namespace Go.Proofs.YtmpaiphakjogjaaGreat.X
open Go Go.RowKit Go.Proofs.YtmpaiphakjogjaaGreat.Bs
def LowR (h : His) (bs : List Int) (x : Value) (new : List Held) : Prop := ∃ q : SV, x = .agg ⟨[.int .i64 h.from_, svV q]⟩ ∧ new = [hInts q (lowTo h.vals bs h.vals.length)]
end Go.Proofs.YtmpaiphakjogjaaGreat.X
namespace Go.Proofs.YtmpaiphakjogjaaGreat.X
open Go Go.RowKit Go.Proofs.YtmpaiphakjogjaaGreat.Bs
theorem Fam.drop {W : World} {b0 : Nat} {ks : List Nat} {rs : List RowX} {hs : List Held} {r : RowX} {g : Nat} (h : Fam W b0 ks (r :: rs) hs) (hg : r.v.ownBlock = some g) : Fam W b0 (g :: ks) rs hs := by
  have hf : ∀ j, Free W b0 ks (r :: rs) j → Free W b0 (g :: ks) rs j := fun j hj => ⟨hj.1, hj.2.1, fun hm => by
    rcases List.mem_cons.1 hm with rfl | hm
    · exact hj.2.2.2 r (.head _) hg
    · exact hj.2.2.1 hm, fun x hx => hj.2.2.2 x (.tail _ hx)⟩
  refine ⟨h.base, fun x hx => h.row x (.tail _ hx), fun x hx k hk hm => ?_, (List.pairwise_cons.1 h.two).2, fun x hx a ha y hy => y.mono (h.ins x (.tail _ hx) a ha y hy) hf, fun y hy => y.mono (h.held y hy) hf⟩
  rcases List.mem_cons.1 hm with rfl | hm
  · exact (List.pairwise_cons.1 h.two).1 x hx _ hg hk
  · exact h.sep x (.tail _ hx) k hk hm
theorem owns_block2 {w : World} {base e n : Nat} {A : Option Addr} {m c : Nat} {xs : List Value} (h : w.ownsRow base e 2 (.slice A m c) n xs) (hn : 0 < n) : ∃ g sp, A = some ⟨g, 0, none⟩ ∧ m = n ∧ base ≤ g ∧ w.heap[g]? = some (cel e (xs ++ sp)) ∧ n ≤ c := by
  have h4 := (ReadsP.own h).2.2.1 hn
  rcases h.2 with ⟨e1, rfl⟩ | ⟨g, cap, cur, e1, hb, hg, hc, hm, hsz, hx⟩
  · omega
  · cases e1
    exact ⟨g, cur.toList.drop (n * 2), rfl, rfl, hb, by rw [hg, ← hx, List.take_append_drop], h4⟩
def hisK0 : Kind (SV × His) := ⟨133, 2, fun e => hisC e.1 e.2, fun _ => [], fun _ => rfl⟩
end Go.Proofs.YtmpaiphakjogjaaGreat.X
namespace Go.Proofs.YtmpaiphakjogjaaGreat.X
open Go Go.RowKit Go.Proofs.YtmpaiphakjogjaaGreat.Bs
theorem flat_set1 {K : Kind II} (hc : ∀ a : II, K.c a = [.int .i64 a.1, .int .i64 a.2]) {sp : List Value} {n : Int} : ∀ {l : List II} {j : Nat} {a : II}, l[j]? = some a → (l.flatMap K.c ++ sp).set (0 + j * 2 + 1) (.int .i64 n) = (l.set j (a.1, n)).flatMap K.c ++ sp := by
  intro l
  induction l with
  | nil => intro j a h; simp at h
  | cons b l ih =>
    intro j a h
    cases j with
    | zero =>
      simp only [List.getElem?_cons_zero, Option.some.injEq] at h
      subst h
      rw [List.set_cons_zero, List.flatMap_cons, List.flatMap_cons, hc, hc]
      rfl
    | succ j =>
      have h2 := ih (j := j) (a := a) (by simpa using h)
      rw [List.set_cons_succ, List.flatMap_cons, List.flatMap_cons, hc, show 0 + (j + 1) * 2 + 1 = (0 + j * 2 + 1) + 1 + 1 by omega, List.append_assoc, List.append_assoc, ← h2]
      rfl
theorem flat_at1 {K : Kind II} (hc : ∀ a : II, K.c a = [.int .i64 a.1, .int .i64 a.2]) {sp : List Value} : ∀ {l : List II} {j : Nat} {a : II}, l[j]? = some a → (l.flatMap K.c ++ sp)[0 + j * 2 + 1]? = some (.int .i64 a.2) := by
  intro l
  induction l with
  | nil => intro j a h; simp at h
  | cons b l ih =>
    intro j a h
    cases j with
    | zero =>
      simp only [List.getElem?_cons_zero, Option.some.injEq] at h
      subst h
      rw [List.flatMap_cons, hc]
      rfl
    | succ j =>
      have h2 := ih (j := j) (a := a) (by simpa using h)
      rw [List.flatMap_cons, hc, show 0 + (j + 1) * 2 + 1 = (0 + j * 2 + 1) + 1 + 1 by omega, List.append_assoc, ← h2]
      rfl
theorem flat_ln {K : Kind II} (hc : ∀ a : II, K.c a = [.int .i64 a.1, .int .i64 a.2]) (l : List II) : (l.flatMap K.c).length = l.length * 2 := by
  induction l with
  | nil => rfl
  | cons b l ih => rw [List.flatMap_cons, hc, List.length_append, ih, List.length_cons]; simp only [List.length_cons, List.length_nil]; omega
theorem ListAt.blk {K : Kind II} (hm : K.m = 2) (hs : ∀ a, K.sl a = []) (hc : ∀ a : II, K.c a = [.int .i64 a.1, .int .i64 a.2]) {w : World} {g c : Nat} {tg : TypeId} {l : List II} {sp : List Value} (hg : w.heap[g]? = some (cel tg (l.flatMap K.c ++ sp))) (h0 : l.length ≤ 1000) : ListAt K w (fun j => j = g) ⟨some ⟨g, 0, none⟩, l.length, c⟩ l := by
  refine ⟨⟨?_, fun _ => ⟨_, rfl, rfl, fun j u hj => ?_⟩⟩, by simp only; omega, fun a ha x hx => by rw [hs] at hx; cases hx⟩
  · show (l.flatMap K.c).length = l.length * K.m
    rw [flat_ln hc, hm]
  · rw [add_off, Nat.zero_add]
    have : (l.flatMap K.c ++ sp)[j]? = some u := by
      rw [List.getElem?_append_left (List.getElem?_eq_some_iff.1 hj).1]; exact hj
    simpa [World.cell?, hg] using this
section
variable {P : Program} {T : TT} {N : Nat} {B : Nat} {w0 : World} {ds : List Deferred} {Q : Exit → Act → World → Prop} {F : Fr} {L : Lo} {pu : Prop} {ops : Array Oper} {rest : List Oper}
variable {dst : Option Tmp} {ty : TypeId} {p : String} {af : Array Edge} {gd : Option (Nat × Bool)}
theorem Ev.load_at2 (hT : TOK P T) (i : Nat) {t : TypeId} {x : Operand} {g j : Nat} {tg : TypeId} {cs : List Value} {v : Value} (hx : evo F x = some (.pointer (some (((⟨g, 0, none⟩ : Addr).add (j * 2)).add 1)))) (hL : L[i]? = some (g, cel tg cs))
    (h1 : lkG T.one t = some ()) (hv : cs[0 + j * 2 + 1]? = some v) : Ev P N B w0 ds pu F L ⟨dst, .load t x, ty, p, af, gd⟩ v := by
  rw [add_off] at hx
  exact Ev.load_at hT i hx hL h1 hv
theorem XL.store_at2 (hT : TOK P T) (i : Nat) {t : TypeId} {x y : Operand} {g j : Nat} {tg : TypeId} {v : Value} {cs : List Value} {L' : Lo}
    (hx : evo F x = some (.pointer (some (((⟨g, 0, none⟩ : Addr).add (j * 2)).add 1)))) (hy : evo F y = some v) (hL : L[i]? = some (g, cel tg cs)) (ht : lkG T.one t = some ()) (h1 : one1 v = true) (hj : 0 + j * 2 + 1 < cs.length)
    (hL' : setN L i (g, cel tg (cs.set (0 + j * 2 + 1) v)) = some L') (k : XL P N B w0 ds Q ops rest F L') :
    XL P N B w0 ds Q ops ({ dst := none, op := .store t x y, type := ty, pos := p, after := af, guard := none } :: rest) F L := by
  rw [add_off] at hx
  exact XL.store_at hT i hx hy hL ht h1 hj hL' k
end
theorem Fam.swap {W : World} {b0 : Nat} {ks : List Nat} {r1 r2 : RowX} {hs : List Held} (h : Fam W b0 ks [r1, r2] hs) : Fam W b0 ks [r2, r1] hs := by
  have hm : ∀ r, r ∈ [r2, r1] → r ∈ [r1, r2] := fun r hr => by
    rcases List.mem_cons.1 hr with rfl | hr
    · exact .tail _ (.head _)
    · rw [List.mem_singleton.1 hr]; exact .head _
  have hm' : ∀ r, r ∈ [r1, r2] → r ∈ [r2, r1] := fun r hr => by
    rcases List.mem_cons.1 hr with rfl | hr
    · exact .tail _ (.head _)
    · rw [List.mem_singleton.1 hr]; exact .head _
  have hf : ∀ j, Free W b0 ks [r1, r2] j → Free W b0 ks [r2, r1] j := fun j hj => ⟨hj.1, hj.2.1, hj.2.2.1, fun r hr => hj.2.2.2 r (hm r hr)⟩
  refine ⟨h.base, fun r hr => h.row r (hm r hr), fun r hr => h.sep r (hm r hr), ?_, fun r hr a ha x hx => x.mono (h.ins r (hm r hr) a ha x hx) hf, fun x hx => x.mono (h.held x hx) hf⟩
  have h2 := (List.pairwise_cons.1 h.two).1 r2 (.head _)
  refine List.pairwise_cons.2 ⟨fun r hr => ?_, List.pairwise_singleton _ _⟩
  rw [List.mem_singleton.1 hr]
  exact fun k hk hk2 => h2 k hk2 hk
end Go.Proofs.YtmpaiphakjogjaaGreat.X
namespace Go.Proofs.YtmpaiphakjogjaaGreat.Bs
open Go Go.Proofs.YtmpaiphakjogjaaGreat.X
theorem dec_ln {t : CTk} {r : CRu} (h : t.decE r = 0) : (t.decD r).peaks.length ≤ 8 ∧ (t.decD r).later.length ≤ 60 := by
  obtain ⟨h0, h1⟩ := decE_0 h
  obtain ⟨hc, ho, _⟩ := ruE_0 h0
  have hm := ho.m8
  have hb := beg_le ho
  have hp : ∀ p, (t.peaks p).length = t.m := fun p => by unfold CTk.peaks; rw [List.length_map, List.length_range]
  rcases h1 with ⟨h2, e⟩ | ⟨h2, i, h3, h4, e⟩
  · rw [e]
    exact ⟨by rw [hp]; exact hm, Nat.zero_le _⟩
  · rw [e]
    refine ⟨by rw [hp]; exact hm, ?_⟩
    unfold CTk.laterL
    rw [List.length_map, List.length_range]
    omega
end Go.Proofs.YtmpaiphakjogjaaGreat.Bs
namespace Go.Proofs.YtmpaiphakjogjaaGreat.X
open Go Go.RowKit Go.Proofs.YtmpaiphakjogjaaGreat.Bs
theorem arrB3 : arrB (Tryz.prog.underlying 66) = some (3, 65) := by kernel_rfl
theorem i8_sz5 : (Tryz.prog.info? 65).map (·.size) = some 1 := by kernel_rfl
set_option maxHeartbeats 16000000 in
theorem ClosureKeeps_any {v : CTV} {t : CTk} {r : CRu} {y0 y1 y2 : Int} {w : World} (hT : CtAt w w.heap.size v t) (hy : (-128 ≤ y0 ∧ y0 ≤ 127) ∧ (-128 ≤ y1 ∧ y1 ≤ 127) ∧ (-128 ≤ y2 ∧ y2 ≤ 127)) :
    Calls Tryz.prog 7 #[ctkV v t, ruV r, .agg ⟨[.int .i8 y0, .int .i8 y1, .int .i8 y2]⟩] w fun e w' => e = .returned (.bool true) ∧ Below w.heap.size w w' := by
  have haw := fun {L : Lo} {W : World} (w5 : World) (S5 : Sys w.heap.size W L w5) => Awake5_any (w := w5)
  have hlo := fun (w5 : World) (hB : Below w.heap.size w w5) => Longz_any (hT.sys (Sys.ofBelow hB))
  have hd1 := fun (w5 : World) (hB : Below w.heap.size w w5) => Decide_made (r := r) (hT.sys (Sys.ofBelow hB))
  have hac := fun (d : CDe) (q1 q2 : SV) (w5 : World) (hB : Below w.heap.size w w5) (h1 : ListAt pekK5 w5 (Lt w5.heap.size) q1 d.peaks) (h2 : ListAt wtnK5 w5 (Lt w5.heap.size) q2 d.later) => Accept_any (r := r) (hT.sys (Sys.ofBelow hB)) h1 h2
  have hbc := fun (d : CDe) (q1 q2 : SV) (w5 : World) (hB : Below w.heap.size w w5) (h1 : ListAt pekK5 w5 (Lt w5.heap.size) q1 d.peaks) (h2 : ListAt wtnK5 w5 (Lt w5.heap.size) q2 d.later) => refAccept5_any (r := r) (hT.sys (Sys.ofBelow hB)) h1 h2
  have hw1 : IntKind.i64.wrap y1 = y1 := wrap_in (by unfold i64in; omega)
  have hw2 : IntKind.i64.wrap y2 = y2 := wrap_in (by unfold i64in; omega)
  simp only [ctkV, ctkC, ruV, decV, decC, svV] at hlo hd1 hac hbc ⊢
  refine enter Tryz.func7 rfl Tryz.ntmps7 rfl ?_; simp only [frame, Nat.zero_add, Nat.reduceAdd]
  repeat (first | (refine M0 ?_; first | refine SL ?_ | refine SB fun _ _ => ?_) | (refine M1 ?_; refine SC ?_) | (refine M2 ?_; refine SE ?_))
  rename_i g3 hg3 g4 hg4 g5 hg5
  refine XL.callF (ks := []) (rs := []) (hs := []) (b0 := w.heap.size) (wE := w) (DecR t r) (ck rfl) rfl rfl (Fam.start (Nat.le_refl w.heap.size)) (fun _ h => by cases h) (Below.refl w.heap.size w) (fun w5 S5 _ hB5 => hd1 w5 hB5) (fun w1 x new hR hF7 hB7 hk7 => ?_) ZZHL
  obtain ⟨⟨a1, an, a3⟩, ⟨b1, bn, b3⟩, rfl, rfl⟩ := hR
  obtain ⟨d, hd⟩ : ∃ d, t.decD r = d := ⟨_, rfl⟩
  rw [hd] at hF7 ⊢
  have hA := (hF7.held (hList pekK5 ⟨a1, an, a3⟩ d.peaks) (.head _)).len (by decide)
  have hA2 := (hF7.held (hList wtnK5 ⟨b1, bn, b3⟩ d.later) (.tail _ (.head _))).len (by decide)
  simp only at hA hA2
  subst hA hA2
  simp only [decV, decC, svV]
  repeat (first | (refine M0 ?_; first | refine SL ?_ | refine SB fun _ _ => ?_ | refine Y4 (Ev.call (f := 8) (ck rfl) rfl (fun w5 S5 => hlo w5 (hB7.trans S5.toBelow))) ?_) | (refine M1 ?_; refine SC ?_) | (refine M2 ?_; refine SE ?_))
  rename_i g7 hg7
  cases hlg : t.longB with
  | true =>
    repeat (first | (refine M0 ?_; first | refine SL ?_ | refine SB fun _ _ => ?_ | refine Y4 (Ev.call (f := 9) (ck rfl) rfl (fun w5 S5 => haw w5 S5)) ?_) | (refine M1 ?_; refine SC ?_) | (refine M2 ?_; refine SE ?_))
    refine XE.retg tok Tryz.results7 rfl (by simp only [and_self, and_true]) (fun w' S => ?_)
    exact ⟨rfl, hB7.trans S.toBelow⟩
  | false =>
  repeat (first | (refine M0 ?_; first | refine SL ?_ | refine SB fun _ _ => ?_) | (refine M1 ?_; refine SC ?_) | (refine M2 ?_; refine SE ?_))
  by_cases hE : t.decE r = 0
  rotate_left
  · rw [show decide (t.decE r ≠ 0) = true from decide_eq_true hE]
    repeat (first | (refine M0 ?_; first | refine SL ?_ | refine SB fun _ _ => ?_ | refine Y4 (Ev.call (f := 9) (ck rfl) rfl (fun w5 S5 => haw w5 S5)) ?_) | (refine M1 ?_; refine SC ?_) | (refine M2 ?_; refine SE ?_))
    refine XE.retg tok Tryz.results7 rfl (by simp only [and_self, and_true]) (fun w' S => ?_)
    exact ⟨rfl, hB7.trans S.toBelow⟩
  rw [show decide (t.decE r ≠ 0) = false from decide_eq_false (fun h => h hE)]
  have hln := dec_ln hE
  rw [hd] at hln
  have hle : w.heap.size ≤ w.heap.size := Nat.le_refl _
  have hz7 := hB7.size
  repeat (first | (refine M0 ?_; first | refine SL ?_ | refine SB fun _ _ => ?_) | (refine M1 ?_; refine SC ?_) | (refine M2 ?_; refine SE ?_))
  obtain ⟨kn, hkn⟩ : ∃ kn : Nat, (kn : Int) = if y1 < 0 then -(y1 + 1) else y1 := by
    by_cases h : y1 < 0
    · exact ⟨(-(y1 + 1)).toNat, by rw [if_pos h]; omega⟩
    · exact ⟨y1.toNat, by rw [if_neg h]; omega⟩
  refine XC.cutn [3, 4, 5] rfl (fun z : World × SV × SV × Nat => [(9, .pointer (some ⟨z.2.2.2, 0, none⟩))]) (fun z => [(z.2.2.2, cel 46 [.int .i64 d.plan.close, .int .i64 d.plan.open_, svV z.2.1, svV z.2.2.1]), (g7, cel 46 [.int .i64 d.plan.close, .int .i64 d.plan.open_, .slice a1 d.peaks.length a3, .slice b1 d.later.length b3]), (g5, cel 66 [.int .i8 y0, .int .i8 y1, .int .i8 y2]), (g4, cel 31 [.int .i64 r.count, .int .i64 r.early]), (g3, cel 29 (ctkC v t))]) (fun z => z.1)
    (fun z => Below w.heap.size w z.1 ∧ Fam z.1 w.heap.size [z.2.2.2, g7, g5, g4, g3] [⟨II, pekK5, svV z.2.1, d.peaks⟩, ⟨II, wtnK5, svV z.2.2.1, d.later⟩] [] ∧ ∀ x, x ∈ [z.2.2.2, g7, g5, g4, g3] → x < z.1.heap.size) ?_ ?_
  · refine XC.drawRS (trunc w w.heap.size) [(g7, cel 46 [.int .i64 d.plan.close, .int .i64 d.plan.open_, .slice a1 d.peaks.length a3, .slice b1 d.later.length b3])] [0, 1, 3, 4, 7, 8] [2, 5, 6, 9, 10, 11, 12] mixed (fun _ h => Sys.anchorT hB7 h (fun e he => by rw [List.mem_singleton.1 he]; exact .head _) (by simp) hle) rfl (by kernel_rfl) ?_
    repeat (any_goals (first | (refine M0 ?_; first | refine SL ?_ | refine SB fun _ _ => ?_ | refine Y4 (Ev.load_loc_agg tok 0 (g := g7) (o := 0) rfl rfl rfl rfl) ?_ | refine Y4 (Ev.load_loc tok 0 (g := g7) (o := 2) rfl rfl rfl rfl) ?_ | refine Y4 (Ev.load_loc tok 0 (g := g7) (o := 3) rfl rfl rfl rfl) ?_ | refine XL.newRow tok (K := pekK5) (l := []) (wE := w) rfl rfl rfl rfl rfl rfl rfl rfl rfl ⟨rfl, rfl⟩ rfl rfl hF7 hk7 hB7 hB7.size (fun a ha => by cases ha) (fun w7 gx hF7 hB7 hk7 => ?_) ZZHL | refine XL.newRow tok (K := wtnK5) (l := []) (wE := w) rfl rfl rfl rfl rfl rfl rfl rfl rfl ⟨rfl, rfl⟩ rfl rfl hF7 hk7 hB7 hB7.size (fun a ha => by cases ha) (fun w7 gx hF7 hB7 hk7 => ?_) ZZHL | (refine XL.at_push 43 ?_; (first | refine XL.pushL (K := pekK5) (l := []) (l2 := d.peaks) (r2 := ⟨a1, d.peaks.length, a3⟩) (wE := w) 0 pek5_el (by decide) rfl rfl rfl hF7 rfl hk7 hB7 (Nat.le_refl _) (fun w9 S9 => Held.lt (x := hList pekK5 ⟨a1, d.peaks.length, a3⟩ d.peaks) ((hF7.sys S9 ZZHL).get (.head _))) (fun a ha x hx => by cases hx) (fun a => rfl) (by simp only [List.length_nil]; omega) (by decide) (fun w7 v8 hF7 hB7 hk7 => ?_) ZZHL | refine XL.pushL (K := pekK5) (l := []) (l2 := d.peaks) (r2 := ⟨a1, d.peaks.length, a3⟩) (wE := w) 1 pek5_el (by decide) rfl rfl rfl hF7 rfl hk7 hB7 (Nat.le_refl _) (fun w9 S9 => Held.lt (x := hList pekK5 ⟨a1, d.peaks.length, a3⟩ d.peaks) ((hF7.sys S9 ZZHL).get (.head _))) (fun a ha x hx => by cases hx) (fun a => rfl) (by simp only [List.length_nil]; omega) (by decide) (fun w7 v8 hF7 hB7 hk7 => ?_) ZZHL); simp only [List.set_cons_zero, List.set_cons_succ, List.nil_append] at hF7; obtain ⟨⟨p1, pn, p3⟩, rfl, hpr⟩ := hF7.sv (K := pekK5) (l := d.peaks) (v := v8) (by first | exact .head _ | exact .tail _ (.head _)); simp only [svV]) | (refine XL.at_push 44 ?_; (first | refine XL.pushL (K := wtnK5) (l := []) (l2 := d.later) (r2 := ⟨b1, d.later.length, b3⟩) (wE := w) 0 wtn5_el (by decide) rfl rfl rfl hF7 rfl hk7 hB7 (Nat.le_refl _) (fun w9 S9 => Held.lt (x := hList wtnK5 ⟨b1, d.later.length, b3⟩ d.later) ((hF7.sys S9 ZZHL).get (.tail _ (.head _)))) (fun a ha x hx => by cases hx) (fun a => rfl) (by simp only [List.length_nil]; omega) (by decide) (fun w7 v8 hF7 hB7 hk7 => ?_) ZZHL | refine XL.pushL (K := wtnK5) (l := []) (l2 := d.later) (r2 := ⟨b1, d.later.length, b3⟩) (wE := w) 1 wtn5_el (by decide) rfl rfl rfl hF7 rfl hk7 hB7 (Nat.le_refl _) (fun w9 S9 => Held.lt (x := hList wtnK5 ⟨b1, d.later.length, b3⟩ d.later) ((hF7.sys S9 ZZHL).get (.tail _ (.head _)))) (fun a ha x hx => by cases hx) (fun a => rfl) (by simp only [List.length_nil]; omega) (by decide) (fun w7 v8 hF7 hB7 hk7 => ?_) ZZHL); simp only [List.set_cons_zero, List.set_cons_succ, List.nil_append] at hF7; obtain ⟨⟨s1, sn, s3⟩, rfl, hsr⟩ := hF7.sv (K := wtnK5) (l := d.later) (v := v8) (by first | exact .head _ | exact .tail _ (.head _)); simp only [svV])) | (refine M1 ?_; refine SC ?_) | (refine M2 ?_; first | refine SE ?_ | ((with_reducible refine atHeld ?_); refine z7 ?_)) | (refine M3 ?_; first | refine SG ?_ | refine SF ?_ | refine YF (Ev.load_loc_agg tok 0 (g := g7) (o := 0) rfl rfl rfl rfl) ?_ | refine YF (Ev.load_loc tok 0 (g := g7) (o := 2) rfl rfl rfl rfl) ?_ | refine YF (Ev.load_loc tok 0 (g := g7) (o := 3) rfl rfl rfl rfl) ?_) | (refine M4 ?_; refine SR ?_) | (refine M5 ?_; first | exact M7 | refine YM ?_ | refine YN ?_ ?_)))
    any_goals (repeat (first | exact AnyR.nil | refine AnyR.skip rfl ?_))
    all_goals
      exact XE.leafW (fun z9 S9 => ⟨(z9, ⟨p1, pn, p3⟩, ⟨s1, sn, s3⟩, _), ⟨hB7.trans S9.toBelow, Fam.forget (Fam.add (ks' := [_, g7, g5, g4, g3]) (Fam.atEnd (by first | exact hF7 | exact hF7.swap) S9 ZZHL) (fun x hx => .inl (List.mem_append_left _ hx))) (fun x hx => by cases hx), fun x hx => S9.keyLt x hx⟩, ZZSUB, S9.rebase ZZSM⟩)
  rintro ⟨W, ⟨p1, pn, p3⟩, ⟨s1, sn, s3⟩, g9⟩ ⟨hB, hF, hks⟩
  simp only at hB hF hks
  simp only [svV, ctkC]
  dsimp only [List.cons_append, List.nil_append]
  refine XC.hint 9 4 ?_
  repeat (first | (refine M0 ?_; first | refine SL ?_ | refine SB fun _ _ => ?_ | refine Y4 (Ev.idxArrP 1 arrB3 i8_sz5 rfl rfl rfl (by decide)) ?_ | refine Y4 (Ev.load_at tok 2 (g := g5) (o := 0) (j := 1) rfl rfl rfl rfl) ?_ | refine Y4 (Ev.conv Tryz.underlying65 Tryz.underlying3 rfl hw1) ?_) | (refine M1 ?_; refine SC ?_) | (refine M2 ?_; refine SE ?_))
  refine XC.cutn [3, 4, 5, 9] rfl (fun _ : World => [(10, .int .i64 (kn : Nat))]) (fun _ => [(g9, cel 46 [.int .i64 d.plan.close, .int .i64 d.plan.open_, .slice p1 pn p3, .slice s1 sn s3]), (g7, cel 46 [.int .i64 d.plan.close, .int .i64 d.plan.open_, .slice a1 d.peaks.length a3, .slice b1 d.later.length b3]), (g5, cel 66 [.int .i8 y0, .int .i8 y1, .int .i8 y2]), (g4, cel 31 [.int .i64 r.count, .int .i64 r.early]), (g3, cel 29 (ctkC v t))]) (fun z => z) (fun z => Below w.heap.size w z ∧ Fam z w.heap.size [g9, g7, g5, g4, g3] [⟨II, pekK5, svV ⟨p1, pn, p3⟩, d.peaks⟩, ⟨II, wtnK5, svV ⟨s1, sn, s3⟩, d.later⟩] [] ∧ ∀ x, x ∈ [g9, g7, g5, g4, g3] → x < z.heap.size) ?_ ?_
  · by_cases h : y1 < 0
    · rw [show decide (y1 < 0) = true from decide_eq_true h]
      repeat (first | (refine M0 ?_; first | refine SL ?_ | refine SB fun _ _ => ?_) | (refine M1 ?_; refine SC ?_) | (refine M2 ?_; refine SE ?_))
      exact XE.leafW (fun z9 S9 => ⟨z9, ⟨hB.trans S9.toBelow, hF.sys S9 ZZHL, fun x hx => Nat.lt_of_lt_of_le (hks x hx) S9.size⟩, Sub.cons (by show some _ = some _; rw [hkn, if_pos h]) ZZSUB, S9.rebase ZZSM⟩)
    · rw [show decide (y1 < 0) = false from decide_eq_false h]
      repeat (first | (refine M0 ?_; first | refine SL ?_ | refine SB fun _ _ => ?_) | (refine M1 ?_; refine SC ?_) | (refine M2 ?_; refine SE ?_))
      exact XE.leafW (fun z9 S9 => ⟨z9, ⟨hB.trans S9.toBelow, hF.sys S9 ZZHL, fun x hx => Nat.lt_of_lt_of_le (hks x hx) S9.size⟩, Sub.cons (by show some _ = some _; rw [hkn, if_neg h]) ZZSUB, S9.rebase ZZSM⟩)
  clear hB hF hks
  rintro Wz ⟨hB, hF, hks⟩
  simp only [ctkC]
  dsimp only [List.cons_append, List.nil_append]
  refine XC.seq ?_
  have hp1 := (hF.listOf (K := pekK5) (r := ⟨p1, pn, p3⟩) (l := d.peaks) (.head _)).len (by decide)
  have hs1 := (hF.listOf (K := wtnK5) (r := ⟨s1, sn, s3⟩) (l := d.later) (.tail _ (.head _))).len (by decide)
  simp only at hp1 hs1
  subst hp1 hs1
  refine XC.cutn [3, 4, 5, 9] rfl (fun _ : World × CDe × SV × SV => []) (fun z => [(g9, cel 46 [.int .i64 z.2.1.plan.close, .int .i64 z.2.1.plan.open_, svV z.2.2.1, svV z.2.2.2]), (g7, cel 46 [.int .i64 d.plan.close, .int .i64 d.plan.open_, .slice a1 d.peaks.length a3, .slice b1 d.later.length b3]), (g5, cel 66 [.int .i8 y0, .int .i8 y1, .int .i8 y2]), (g4, cel 31 [.int .i64 r.count, .int .i64 r.early]), (g3, cel 29 (ctkC v t))]) (fun z => z.1) (fun z => Below w.heap.size w z.1 ∧ Fam z.1 w.heap.size [g9, g7, g5, g4, g3] [] [hList pekK5 z.2.2.1 z.2.1.peaks, hList wtnK5 z.2.2.2 z.2.1.later] ∧ ∀ x, x ∈ [g9, g7, g5, g4, g3] → x < z.1.heap.size) ?_ ?_
  · repeat (first | (refine M0 ?_; first | refine SL ?_ | refine SB fun _ _ => ?_ | refine Y4 (Ev.idxArrP 0 arrB3 i8_sz5 rfl rfl rfl (by decide)) ?_ | refine Y4 (Ev.load_at tok 2 (g := g5) (o := 0) (j := 0) rfl rfl rfl rfl) ?_ | refine Y4 (Ev.rem rfl rfl (by decide)) ?_) | (refine M1 ?_; refine SC ?_) | (refine M2 ?_; refine SE ?_))
    by_cases c0 : y0.tmod 3 = 0
    · rw [show decide (y0.tmod 3 = 0) = true from decide_eq_true c0]
      repeat (first | (refine M0 ?_; first | refine SL ?_ | refine SB fun _ _ => ?_ | refine Y4 (Ev.idxArrP 2 arrB3 i8_sz5 rfl rfl rfl (by decide)) ?_ | refine Y4 (Ev.load_at tok 2 (g := g5) (o := 0) (j := 2) rfl rfl rfl rfl) ?_ | refine Y4 (Ev.conv Tryz.underlying65 Tryz.underlying3 rfl hw2) ?_ | refine Y4 (Ev.add_w rfl rfl) ?_) | (refine M1 ?_; refine SC ?_) | (refine M2 ?_; refine SE ?_))
      exact XE.leafW (fun z9 S9 => ⟨(z9, ⟨⟨d.plan.close, IntKind.i64.wrap (d.plan.open_ + y2)⟩, d.peaks, d.later⟩, ⟨p1, d.peaks.length, p3⟩, ⟨s1, d.later.length, s3⟩), ⟨hB.trans S9.toBelow, Fam.forget (((hF.freeze).freeze).sys S9 ZZHL) (fun x hx => by rcases List.mem_cons.1 hx with rfl | hx; exact .tail _ (.head _); rw [List.mem_singleton.1 hx]; exact .head _), fun x hx => Nat.lt_of_lt_of_le (hks x hx) S9.size⟩, ZZSUB, S9.rebase ZZSM⟩)
    rw [show decide (y0.tmod 3 = 0) = false from decide_eq_false c0]
    refine XC.cond_f rfl ?_
    refine XC.seq ?_
    refine XC.cutn [3, 4, 5, 9, 10] rfl (fun _ : World => [(59, .bool (decide (y0.tmod 3 = 1 ∧ 0 < d.peaks.length)))]) (fun _ => [(g9, cel 46 [.int .i64 d.plan.close, .int .i64 d.plan.open_, .slice p1 d.peaks.length p3, .slice s1 d.later.length s3]), (g7, cel 46 [.int .i64 d.plan.close, .int .i64 d.plan.open_, .slice a1 d.peaks.length a3, .slice b1 d.later.length b3]), (g5, cel 66 [.int .i8 y0, .int .i8 y1, .int .i8 y2]), (g4, cel 31 [.int .i64 r.count, .int .i64 r.early]), (g3, cel 29 (ctkC v t))]) (fun z => z) (fun z => Below w.heap.size w z ∧ Fam z w.heap.size [g9, g7, g5, g4, g3] [⟨II, pekK5, svV ⟨p1, d.peaks.length, p3⟩, d.peaks⟩, ⟨II, wtnK5, svV ⟨s1, d.later.length, s3⟩, d.later⟩] [] ∧ ∀ x, x ∈ [g9, g7, g5, g4, g3] → x < z.heap.size) ?_ ?_
    · repeat (first | (refine M0 ?_; first | refine SL ?_ | refine SB fun _ _ => ?_ | refine Y4 (Ev.idxArrP 0 arrB3 i8_sz5 rfl rfl rfl (by decide)) ?_ | refine Y4 (Ev.load_at tok 2 (g := g5) (o := 0) (j := 0) rfl rfl rfl rfl) ?_ | refine Y4 (Ev.rem rfl rfl (by decide)) ?_) | (refine M1 ?_; refine SC ?_) | (refine M2 ?_; refine SE ?_))
      by_cases c1 : y0.tmod 3 = 1
      · rw [show decide (y0.tmod 3 = 1) = true from decide_eq_true c1]
        repeat (first | (refine M0 ?_; first | refine SL ?_ | refine SB fun _ _ => ?_) | (refine M1 ?_; refine SC ?_) | (refine M2 ?_; refine SE ?_))
        exact XE.leafW (fun z9 S9 => ⟨z9, ⟨hB.trans S9.toBelow, hF.sys S9 ZZHL, fun x hx => Nat.lt_of_lt_of_le (hks x hx) S9.size⟩, Sub.cons (by show some _ = some _; congr 2; exact decide_eq_decide.2 ⟨fun h => by have := h; omega, fun h => by have := h.2; omega⟩) ZZSUB, S9.rebase ZZSM⟩)
      · rw [show decide (y0.tmod 3 = 1) = false from decide_eq_false c1]
        repeat (first | (refine M0 ?_; first | refine SL ?_ | refine SB fun _ _ => ?_) | (refine M1 ?_; refine SC ?_) | (refine M2 ?_; refine SE ?_))
        exact XE.leafW (fun z9 S9 => ⟨z9, ⟨hB.trans S9.toBelow, hF.sys S9 ZZHL, fun x hx => Nat.lt_of_lt_of_le (hks x hx) S9.size⟩, Sub.cons (by show some _ = some _; rw [decide_eq_false (fun h => c1 h.1)]) ZZSUB, S9.rebase ZZSM⟩)
    clear hB hF hks
    rintro Wy ⟨hB, hF, hks⟩
    simp only [ctkC]
    dsimp only [List.cons_append, List.nil_append]
    refine XC.cond _ rfl (fun h1 => ?_) (fun h1 => ?_)
    · obtain ⟨c1, hl0⟩ := of_decide_eq_true h1
      have hFr := hF
      have hrow := hFr.row _ (.head _)
      obtain ⟨gr, sp, rfl, -, hgr, hgo, hcap⟩ := owns_block2 (n := d.peaks.length) (xs := d.peaks.flatMap pekK5.c) hrow hl0
      have hsep := hFr.sep _ (.head _) gr rfl
      have hFd := hFr.drop (g := gr) rfl
      have hlg := (Array.getElem?_eq_some_iff.1 hgo).1
      obtain ⟨jj, hjj⟩ : ∃ jj, jj = kn % d.peaks.length := ⟨_, rfl⟩
      have hjl : jj < d.peaks.length := by rw [hjj]; exact Nat.mod_lt _ hl0
      have hrem : ((kn : Nat) : Int).tmod ((d.peaks.length : Nat) : Int) = ((jj : Nat) : Int) := by rw [hjj]; rfl
      have hl9 : ((d.peaks.length : Nat) : Int) ≠ 0 := by omega
      obtain ⟨a, ha⟩ : ∃ a, d.peaks[jj]? = some a := ⟨_, List.getElem?_eq_getElem hjl⟩
      have hat := flat_at1 (K := pekK5) (fun _ => rfl) (sp := sp) ha
      have hst := flat_set1 (K := pekK5) (fun _ => rfl) (sp := sp) (n := IntKind.i64.wrap (a.2 + y2)) ha
      have hfl : 0 + jj * 2 + 1 < (d.peaks.flatMap pekK5.c ++ sp).length := by rw [List.length_append, flat_ln (fun _ => rfl)]; omega
      refine XC.grab hgo hgr (fun e he e1 => hsep (by rw [← e1]; repeat (first | (cases he; done) | (rcases List.mem_cons.1 he with rfl | he; · simp)))) (fun w10 S10 => ?_)
      have hFs := hFd.sys S10 ZZHL
      have hBs := hB.trans S10.toBelow
      refine XC.drawT mixed rfl rfl (by kernel_rfl) ?_
      repeat (first | (refine M0 ?_; first | refine SL ?_ | refine SB fun _ _ => ?_) | (refine M2 ?_; refine SE ?_) | (refine M3 ?_; first | refine SG ?_ | refine SF ?_) | (refine M4 ?_; refine SR ?_) | (refine M5 ?_; first | exact M7 | refine YM ?_ | refine YN ?_ ?_))
      rw [hrem]
      repeat (first | (refine M0 ?_; first | refine SL ?_ | refine SB fun _ _ => ?_ | refine Y4 (Ev.load_at2 tok 0 (g := gr) (j := jj) rfl rfl rfl hat) ?_ | refine Y4 (Ev.idxArrP 2 arrB3 i8_sz5 rfl rfl rfl (by decide)) ?_ | refine Y4 (Ev.load_at tok 3 (g := g5) (o := 0) (j := 2) rfl rfl rfl rfl) ?_ | refine Y4 (Ev.conv Tryz.underlying65 Tryz.underlying3 rfl hw2) ?_ | refine Y4 (Ev.add_w rfl rfl) ?_ | refine XL.store_at2 tok 0 (g := gr) (j := jj) (cs := d.peaks.flatMap pekK5.c ++ sp) rfl rfl rfl rfl rfl hfl rfl ?_) | (refine M2 ?_; refine SE ?_) | (refine M3 ?_; first | refine SG ?_ | refine SF ?_ | refine YF (Ev.load_at2 tok 0 (g := gr) (j := jj) rfl rfl rfl hat) ?_ | refine YF (Ev.idxArrP 2 arrB3 i8_sz5 rfl rfl rfl (by decide)) ?_ | refine YF (Ev.load_at tok 3 (g := g5) (o := 0) (j := 2) rfl rfl rfl rfl) ?_ | refine YF (Ev.conv Tryz.underlying65 Tryz.underlying3 rfl hw2) ?_ | refine YF (Ev.add_w rfl rfl) ?_) | (refine M4 ?_; refine SR ?_) | (refine M5 ?_; first | exact M7 | refine YM ?_ | refine YN ?_ ?_))
      rw [hst]
      repeat (first | (refine M0 ?_; first | refine SL ?_ | refine SB fun _ _ => ?_) | (refine M1 ?_; refine SC ?_) | (refine M2 ?_; refine SE ?_))
      refine XE.leafW (fun z9 S9 => ?_)
      have hFz := Fam.add (ks' := [g9, g7, g5, g4, g3]) (hFs.freeze.sys S9 ZZHL) (fun x hx => .inl (.tail _ hx))
      have hS9 := S9.own (gr, cel 68 ((d.peaks.set jj (a.1, IntKind.i64.wrap (a.2 + y2))).flatMap pekK5.c ++ sp)) (.head _)
      have hblk := ListAt.blk (K := pekK5) rfl (fun _ => rfl) (fun _ => rfl) (c := p3) hS9.2 (by rw [List.length_set]; omega)
      rw [List.length_set] at hblk
      have hfree : ∀ j, j = gr → Free z9 w.heap.size [g9, g7, g5, g4, g3] [] j := fun j hj => by subst hj; exact ⟨hgr, (Array.getElem?_eq_some_iff.1 hS9.2).1, hsep, fun r hr => by cases hr⟩
      exact ⟨(z9, ⟨d.plan, (d.peaks.set jj (a.1, IntKind.i64.wrap (a.2 + y2))), d.later⟩, ⟨some ⟨gr, 0, none⟩, d.peaks.length, p3⟩, ⟨s1, d.later.length, s3⟩), ⟨hBs.trans S9.toBelow, (hFz.hold (x := hList pekK5 ⟨some ⟨gr, 0, none⟩, d.peaks.length, p3⟩ (d.peaks.set jj (a.1, IntKind.i64.wrap (a.2 + y2)))) (ok := fun j => j = gr) hblk hfree), fun x hx => Nat.lt_of_lt_of_le (hks x hx) (Nat.le_trans S10.size S9.size)⟩, ZZSUB, S9.rebase ZZSM⟩
    repeat (first | (refine M0 ?_; first | refine SL ?_ | refine SB fun _ _ => ?_) | (refine M1 ?_; refine SC ?_) | (refine M2 ?_; refine SE ?_))
    by_cases hl0 : 0 < d.later.length
    · rw [show decide ((0 : Int) < (d.later.length : Int)) = true from decide_eq_true (by omega)]
      repeat (first | (refine M0 ?_; first | refine SL ?_ | refine SB fun _ _ => ?_) | (refine M1 ?_; refine SC ?_) | (refine M2 ?_; refine SE ?_))
      have hFr := hF.swap
      have hrow := hFr.row _ (.head _)
      obtain ⟨gr, sp, rfl, -, hgr, hgo, hcap⟩ := owns_block2 (n := d.later.length) (xs := d.later.flatMap wtnK5.c) hrow hl0
      have hsep := hFr.sep _ (.head _) gr rfl
      have hFd := hFr.drop (g := gr) rfl
      have hlg := (Array.getElem?_eq_some_iff.1 hgo).1
      obtain ⟨jj, hjj⟩ : ∃ jj, jj = kn % d.later.length := ⟨_, rfl⟩
      have hjl : jj < d.later.length := by rw [hjj]; exact Nat.mod_lt _ hl0
      have hrem : ((kn : Nat) : Int).tmod ((d.later.length : Nat) : Int) = ((jj : Nat) : Int) := by rw [hjj]; rfl
      have hl9 : ((d.later.length : Nat) : Int) ≠ 0 := by omega
      obtain ⟨a, ha⟩ : ∃ a, d.later[jj]? = some a := ⟨_, List.getElem?_eq_getElem hjl⟩
      have hat := flat_at1 (K := wtnK5) (fun _ => rfl) (sp := sp) ha
      have hst := flat_set1 (K := wtnK5) (fun _ => rfl) (sp := sp) (n := IntKind.i64.wrap (a.2 + y2)) ha
      have hfl : 0 + jj * 2 + 1 < (d.later.flatMap wtnK5.c ++ sp).length := by rw [List.length_append, flat_ln (fun _ => rfl)]; omega
      refine XC.grab hgo hgr (fun e he e1 => hsep (by rw [← e1]; repeat (first | (cases he; done) | (rcases List.mem_cons.1 he with rfl | he; · simp)))) (fun w10 S10 => ?_)
      have hFs := hFd.sys S10 ZZHL
      have hBs := hB.trans S10.toBelow
      refine XC.drawT mixed rfl rfl (by kernel_rfl) ?_
      repeat (first | (refine M0 ?_; first | refine SL ?_ | refine SB fun _ _ => ?_) | (refine M2 ?_; refine SE ?_) | (refine M3 ?_; first | refine SG ?_ | refine SF ?_) | (refine M4 ?_; refine SR ?_) | (refine M5 ?_; first | exact M7 | refine YM ?_ | refine YN ?_ ?_))
      rw [hrem]
      repeat (first | (refine M0 ?_; first | refine SL ?_ | refine SB fun _ _ => ?_ | refine Y4 (Ev.load_at2 tok 0 (g := gr) (j := jj) rfl rfl rfl hat) ?_ | refine Y4 (Ev.idxArrP 2 arrB3 i8_sz5 rfl rfl rfl (by decide)) ?_ | refine Y4 (Ev.load_at tok 3 (g := g5) (o := 0) (j := 2) rfl rfl rfl rfl) ?_ | refine Y4 (Ev.conv Tryz.underlying65 Tryz.underlying3 rfl hw2) ?_ | refine Y4 (Ev.add_w rfl rfl) ?_ | refine XL.store_at2 tok 0 (g := gr) (j := jj) (cs := d.later.flatMap wtnK5.c ++ sp) rfl rfl rfl rfl rfl hfl rfl ?_) | (refine M2 ?_; refine SE ?_) | (refine M3 ?_; first | refine SG ?_ | refine SF ?_ | refine YF (Ev.load_at2 tok 0 (g := gr) (j := jj) rfl rfl rfl hat) ?_ | refine YF (Ev.idxArrP 2 arrB3 i8_sz5 rfl rfl rfl (by decide)) ?_ | refine YF (Ev.load_at tok 3 (g := g5) (o := 0) (j := 2) rfl rfl rfl rfl) ?_ | refine YF (Ev.conv Tryz.underlying65 Tryz.underlying3 rfl hw2) ?_ | refine YF (Ev.add_w rfl rfl) ?_) | (refine M4 ?_; refine SR ?_) | (refine M5 ?_; first | exact M7 | refine YM ?_ | refine YN ?_ ?_))
      rw [hst]
      repeat (first | (refine M0 ?_; first | refine SL ?_ | refine SB fun _ _ => ?_) | (refine M1 ?_; refine SC ?_) | (refine M2 ?_; refine SE ?_))
      refine XE.leafW (fun z9 S9 => ?_)
      have hFz := Fam.add (ks' := [g9, g7, g5, g4, g3]) (hFs.freeze.sys S9 ZZHL) (fun x hx => .inl (.tail _ hx))
      have hS9 := S9.own (gr, cel 70 ((d.later.set jj (a.1, IntKind.i64.wrap (a.2 + y2))).flatMap wtnK5.c ++ sp)) (.head _)
      have hblk := ListAt.blk (K := wtnK5) rfl (fun _ => rfl) (fun _ => rfl) (c := s3) hS9.2 (by rw [List.length_set]; omega)
      rw [List.length_set] at hblk
      have hfree : ∀ j, j = gr → Free z9 w.heap.size [g9, g7, g5, g4, g3] [] j := fun j hj => by subst hj; exact ⟨hgr, (Array.getElem?_eq_some_iff.1 hS9.2).1, hsep, fun r hr => by cases hr⟩
      exact ⟨(z9, ⟨d.plan, d.peaks, (d.later.set jj (a.1, IntKind.i64.wrap (a.2 + y2)))⟩, ⟨p1, d.peaks.length, p3⟩, ⟨some ⟨gr, 0, none⟩, d.later.length, s3⟩), ⟨hBs.trans S9.toBelow, Fam.forget (hFz.hold (x := hList wtnK5 ⟨some ⟨gr, 0, none⟩, d.later.length, s3⟩ (d.later.set jj (a.1, IntKind.i64.wrap (a.2 + y2)))) (ok := fun j => j = gr) hblk hfree) (fun x hx => by rcases List.mem_cons.1 hx with rfl | hx; exact .tail _ (.head _); rw [List.mem_singleton.1 hx]; exact .head _), fun x hx => Nat.lt_of_lt_of_le (hks x hx) (Nat.le_trans S10.size S9.size)⟩, ZZSUB, S9.rebase ZZSM⟩
    · rw [show decide ((0 : Int) < (d.later.length : Int)) = false from decide_eq_false (by omega)]
      repeat (first | (refine M0 ?_; first | refine SL ?_ | refine SB fun _ _ => ?_) | (refine M1 ?_; refine SC ?_) | (refine M2 ?_; refine SE ?_))
      exact XE.leafW (fun z9 S9 => ⟨(z9, d, ⟨p1, d.peaks.length, p3⟩, ⟨s1, d.later.length, s3⟩), ⟨hB.trans S9.toBelow, Fam.forget (((hF.freeze).freeze).sys S9 ZZHL) (fun x hx => by rcases List.mem_cons.1 hx with rfl | hx; exact .tail _ (.head _); rw [List.mem_singleton.1 hx]; exact .head _), fun x hx => Nat.lt_of_lt_of_le (hks x hx) S9.size⟩, ZZSUB, S9.rebase ZZSM⟩)
  clear hB hF hks
  rintro ⟨Wx, e, ⟨u1, un, u3⟩, ⟨x1, xn, x3⟩⟩ ⟨hB, hF, hks⟩
  simp only at hB hF hks
  simp only [svV, ctkC]
  dsimp only [List.cons_append, List.nil_append]
  have hacc := fun {L : Lo} (w5 : World) (S5 : Sys w.heap.size Wx L w5) (hL5 : ∀ f, f ∈ L → f.1 ∈ _ ∨ Wx.heap.size ≤ f.1) => hac e ⟨u1, un, u3⟩ ⟨x1, xn, x3⟩ w5 (hB.trans S5.toBelow) (Held.lt (x := hList pekK5 ⟨u1, un, u3⟩ e.peaks) ((hF.sys S5 hL5).get (.head _))) (Held.lt (x := hList wtnK5 ⟨x1, xn, x3⟩ e.later) ((hF.sys S5 hL5).get (.tail _ (.head _))))
  have hbcc := fun {L : Lo} (w5 : World) (S5 : Sys w.heap.size Wx L w5) (hL5 : ∀ f, f ∈ L → f.1 ∈ _ ∨ Wx.heap.size ≤ f.1) => hbc e ⟨u1, un, u3⟩ ⟨x1, xn, x3⟩ w5 (hB.trans S5.toBelow) (Held.lt (x := hList pekK5 ⟨u1, un, u3⟩ e.peaks) ((hF.sys S5 hL5).get (.head _))) (Held.lt (x := hList wtnK5 ⟨x1, xn, x3⟩ e.later) ((hF.sys S5 hL5).get (.tail _ (.head _))))
  refine XC.hint 9 4 ?_
  repeat (first | (refine M0 ?_; first | refine SL ?_ | refine SB fun _ _ => ?_ | refine Y4 (Ev.call (f := 26) (ck rfl) rfl (fun w5 S5 => hacc w5 S5 ZZHL)) ?_ | refine Y4 (Ev.call (f := 27) (ck rfl) rfl (fun w5 S5 => hbcc w5 S5 ZZHL)) ?_) | (refine M1 ?_; refine SC ?_) | (refine M2 ?_; refine SE ?_))
  by_cases hz : (t.acc r e).2 = 0
  · rw [show decide ((t.acc r e).2 = 0) = true from decide_eq_true hz]
    repeat (first | (refine M0 ?_; first | refine SL ?_ | refine SB fun _ _ => ?_ | refine Y4 (Ev.eqlB Tryz.underlying4 rfl rfl) ?_ | refine Y4 (Ev.call (f := 9) (ck rfl) rfl (fun w5 S5 => haw w5 S5)) ?_) | (refine M1 ?_; refine SC ?_) | (refine M2 ?_; refine SE ?_))
    refine XE.retg tok Tryz.results7 rfl (by simp only [and_self, and_true]) (fun w' S => ?_)
    exact ⟨rfl, hB.trans S.toBelow⟩
  · rw [show decide ((t.acc r e).2 = 0) = false from decide_eq_false hz]
    repeat (first | (refine M0 ?_; first | refine SL ?_ | refine SB fun _ _ => ?_ | refine Y4 (Ev.eqlB Tryz.underlying4 rfl rfl) ?_ | refine Y4 (Ev.call (f := 9) (ck rfl) rfl (fun w5 S5 => haw w5 S5)) ?_) | (refine M1 ?_; refine SC ?_) | (refine M2 ?_; refine SE ?_))
    refine XE.retg tok Tryz.results7 rfl (by simp only [and_self, and_true]) (fun w' S => ?_)
    exact ⟨rfl, hB.trans S.toBelow⟩
end Go.Proofs.YtmpaiphakjogjaaGreat.X
