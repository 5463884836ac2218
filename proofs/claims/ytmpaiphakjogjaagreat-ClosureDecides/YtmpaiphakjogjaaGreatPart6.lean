/-
  The walks of the document's greater and peak (closure).
-/
import Derived.Test.YtmpaiphakjogjaaGreatPart5
import Derived.Test.YtmpaiphakjogjaaGreatPart4
import Derived.Test.YtmpaiphakjogjaaGreatPart2
set_option linter.unusedVariables false
set_option linter.unusedSimpArgs false
namespace Go.Proofs.YtmpaiphakjogjaaGreat.Bs
open Go Go.Proofs.YtmpaiphakjogjaaGreat.X
set_option linter.unusedVariables false
/-- greater inside, as the document says it of what it has inside. -/
noncomputable def CTk.gtR (t : CTk) (x y : RL) : Bool := if x.shut = y.shut then decide (y.n < x.n) else if x.shut = true then decide (y.n < (t.rspan x).2) else decide ((t.rspan y).1 < x.n)
theorem gtR_ins {t : CTk} {k : Nat} {p : CPl} {i j : Nat} : t.gtR (t.rl k p i) (t.rl k p j) = t.gt (lvD (t.ins k p i)) (lvD (t.ins k p j)) := by
  have h1 := rl_ins (t := t) (k := k) (p := p) (i := i)
  have h2 := rl_ins (t := t) (k := k) (p := p) (i := j)
  unfold CTk.gtR CTk.gt
  rw [rspan_ins, rspan_ins, h1.2.1, h1.2.2, h2.2.1, h2.2.2]
theorem pk_1 {t : CTk} {k : Nat} {p : CPl} : t.pkTo k p 1 = 0 := by simp [CTk.pkTo]
theorem pk_t {t : CTk} {k : Nat} {p : CPl} {i : Nat} (h0 : 1 ≤ i) (h : t.gt (lvD (t.ins k p i)) (lvD (t.ins k p (t.pkTo k p i))) = true) : t.pkTo k p (i + 1) = i := by rw [CTk.pkTo, if_pos ⟨h0, h⟩]
theorem pk_f {t : CTk} {k : Nat} {p : CPl} {i : Nat} (h : t.gt (lvD (t.ins k p i)) (lvD (t.ins k p (t.pkTo k p i))) = false) : t.pkTo k p (i + 1) = t.pkTo k p i := by rw [CTk.pkTo, if_neg (by simp [h])]
end Go.Proofs.YtmpaiphakjogjaaGreat.Bs
namespace Go.Proofs.YtmpaiphakjogjaaGreat.X
open Go Go.RowKit Go.Proofs.YtmpaiphakjogjaaGreat.Bs
set_option linter.unusedVariables false
section
variable {v : CTV} {t : CTk} {w : World}
theorem greater5_any {x y : RL} (hT : CtAt w w.heap.size v t) :
    Calls Tryz.prog 95 #[ctkV v t, rlV x, rlV y] w fun e w' => e = .returned (.bool (t.gtR x y)) ∧ Below w.heap.size w w' := by
  have hsx := fun (w5 : World) (hB : Below w.heap.size w w5) => rspan5_any (x := x) (hT.sys (Sys.ofBelow hB))
  have hsy := fun (w5 : World) (hB : Below w.heap.size w w5) => rspan5_any (x := y) (hT.sys (Sys.ofBelow hB))
  obtain ⟨xs, xg, xn⟩ := x
  obtain ⟨ys, yg, yn⟩ := y
  simp only [ctkV, ctkC, rlV] at hsx hsy ⊢
  refine enter Tryz.func95 rfl Tryz.ntmps95 rfl ?_; simp only [frame, Nat.zero_add, Nat.reduceAdd]
  cases xs with
  | false =>
    cases ys with
    | false =>
      repeat (first | (refine M0 ?_; first | refine SL ?_ | refine SB fun _ _ => ?_ | refine Y4 (Ev.eqlB Tryz.underlying4 rfl rfl) ?_) | (refine M1 ?_; refine SC ?_) | (refine M2 ?_; refine SE ?_))
      refine XE.retg tok Tryz.results95 rfl (by simp only [and_self, and_true]) (fun w' S => ?_)
      exact ⟨rfl, S.toBelow⟩
    | true =>
      repeat (first | (refine M0 ?_; first | refine SL ?_ | refine SB fun _ _ => ?_ | refine Y4 (Ev.eqlB Tryz.underlying4 rfl rfl) ?_) | (refine M1 ?_; refine SC ?_) | (refine M2 ?_; refine SE ?_))
      refine XC.drawT mixed rfl rfl (by kernel_rfl) ?_
      repeat (first | (refine M0 ?_; first | refine SL ?_ | refine SB fun _ _ => ?_ | refine Y4 (Ev.call (f := 63) (ck rfl) rfl (fun w5 S5 => hsy w5 S5.toBelow)) ?_) | (refine M2 ?_; refine SE ?_) | (refine M3 ?_; first | refine SG ?_ | refine SF ?_ | refine YF (Ev.call (f := 63) (ck rfl) rfl (fun w5 S5 => hsy w5 S5.toBelow)) ?_) | (refine M4 ?_; refine SR ?_) | (refine M5 ?_; first | exact M7 | refine YM ?_ | refine YN ?_ ?_))
      repeat (first | (refine M0 ?_; first | refine SL ?_ | refine SB fun _ _ => ?_) | (refine M1 ?_; refine SC ?_) | (refine M2 ?_; refine SE ?_))
      refine XE.retg tok Tryz.results95 rfl (by simp only [and_self, and_true]) (fun w' S => ?_)
      exact ⟨rfl, S.toBelow⟩
  | true =>
    cases ys with
    | false =>
      repeat (first | (refine M0 ?_; first | refine SL ?_ | refine SB fun _ _ => ?_ | refine Y4 (Ev.eqlB Tryz.underlying4 rfl rfl) ?_) | (refine M1 ?_; refine SC ?_) | (refine M2 ?_; refine SE ?_))
      refine XC.drawT mixed rfl rfl (by kernel_rfl) ?_
      repeat (first | (refine M0 ?_; first | refine SL ?_ | refine SB fun _ _ => ?_ | refine Y4 (Ev.call (f := 63) (ck rfl) rfl (fun w5 S5 => hsx w5 S5.toBelow)) ?_) | (refine M2 ?_; refine SE ?_) | (refine M3 ?_; first | refine SG ?_ | refine SF ?_ | refine YF (Ev.call (f := 63) (ck rfl) rfl (fun w5 S5 => hsx w5 S5.toBelow)) ?_) | (refine M4 ?_; refine SR ?_) | (refine M5 ?_; first | exact M7 | refine YM ?_ | refine YN ?_ ?_))
      repeat (first | (refine M0 ?_; first | refine SL ?_ | refine SB fun _ _ => ?_) | (refine M1 ?_; refine SC ?_) | (refine M2 ?_; refine SE ?_))
      refine XE.retg tok Tryz.results95 rfl (by simp only [and_self, and_true]) (fun w' S => ?_)
      exact ⟨rfl, S.toBelow⟩
    | true =>
      repeat (first | (refine M0 ?_; first | refine SL ?_ | refine SB fun _ _ => ?_ | refine Y4 (Ev.eqlB Tryz.underlying4 rfl rfl) ?_) | (refine M1 ?_; refine SC ?_) | (refine M2 ?_; refine SE ?_))
      refine XE.retg tok Tryz.results95 rfl (by simp only [and_self, and_true]) (fun w' S => ?_)
      exact ⟨rfl, S.toBelow⟩
set_option maxHeartbeats 8000000 in
theorem peak5_any {k : Nat} {p : CPl} (hT : CtAt w w.heap.size v t) (ho : CtOk t) (hk : k < t.m) (hp : t.strange p = false) :
    Calls Tryz.prog 70 #[ctkV v t, .int .i64 (k : Nat), plnV p] w fun e w' => e = .returned (iiV (t.peak p k)) ∧ Below w.heap.size w w' := by
  have hlv := fun (w5 : World) (hB : Below w.heap.size w w5) => levels5_made (k := k) (p := p) (hT.sys (Sys.ofBelow hB)) ho hk hp
  have hgt := fun (i j : Nat) (w5 : World) (hB : Below w.heap.size w w5) => greater5_any (x := t.rl k p i) (y := t.rl k p j) (hT.sys (Sys.ofBelow hB))
  have hsp := fun (i : Nat) (w5 : World) (hB : Below w.heap.size w w5) => rspan5_any (x := t.rl k p i) (hT.sys (Sys.ofBelow hB))
  have hfr := fun (w5 : World) (hB : Below w.heap.size w w5) => from5_any (hT.sys (Sys.ofBelow hB)) ho
  have h60 := ho.n60
  have h1n := ho.n1
  have hfm := ho.frm
  simp only [gtR_ins, rspan_ins] at hgt hsp
  obtain ⟨c, o⟩ := p
  simp only [ctkV, ctkC, plnV, rlV, iiV] at hlv hgt hsp hfr ⊢
  refine enter Tryz.func70 rfl Tryz.ntmps70 rfl ?_; simp only [frame, Nat.zero_add, Nat.reduceAdd]
  repeat (first | (refine M0 ?_; first | refine SL ?_ | refine SB fun _ _ => ?_) | (refine M1 ?_; refine SC ?_) | (refine M2 ?_; refine SE ?_))
  rename_i g3 hg3 g5 hg5 g6 hg6
  refine XL.callF (ks := []) (rs := []) (hs := []) (b0 := w.heap.size) (wE := w) (RlsV t k ⟨c, o⟩) (ck rfl) rfl rfl (Fam.start (Nat.le_refl w.heap.size)) (fun _ h => by cases h) (Below.refl w.heap.size w) (fun w1 S1 _ hB1 => hlv w1 hB1) (fun w1 x new hR hF1 hB1 hk1 => ?_) ZZHL
  obtain ⟨⟨qA, qn, qc⟩, rfl, rfl⟩ := hR
  have hLF : ListAt rlK5 w1 (Free w1 w.heap.size _ []) ⟨qA, qn, qc⟩ ((List.range t.n).map (t.rl k ⟨c, o⟩)) := hF1.held (hList rlK5 ⟨qA, qn, qc⟩ ((List.range t.n).map (t.rl k ⟨c, o⟩))) (.head _)
  have hqn := hLF.len (by decide)
  simp only [List.length_map, List.length_range] at hqn
  subst hqn
  obtain ⟨ad, rfl, hf⟩ := hLF.addr (by decide) (by rw [List.length_map, List.length_range]; omega)
  have cel5 := fun (i : Nat) (hi : i < t.n) => hLF.elem (show ((List.range t.n).map (t.rl k ⟨c, o⟩))[i]? = some (t.rl k ⟨c, o⟩ i) from by rw [List.getElem?_map, List.getElem?_range hi]; rfl)
  have lb5 := fun (i : Nat) => (show (ad.add (i * 3)).block < w1.heap.size from by rw [add_block]; exact hf.2.1)
  simp only [svV]
  repeat (first | (refine M0 ?_; first | refine SL ?_ | refine SB fun _ _ => ?_) | (refine M1 ?_; refine SC ?_) | (refine M2 ?_; refine SE ?_))
  refine XC.loopk [3, 6, 7] rfl (fun i : Nat => [(8, .int .i64 (t.pkTo k ⟨c, o⟩ i : Nat)), (9, .int .i64 (i : Nat))]) (fun _ => [(g6, cel 68 [.int .i64 0, .int .i64 0]), (g5, cel 42 [.int .i64 c, .int .i64 o]), (g3, cel 29 (ctkC v t))]) (fun _ => w1) (fun i => 1 ≤ i ∧ i ≤ t.n) (fun i => t.n - i) 1 ⟨Nat.le_refl _, h1n⟩ (Sub.cons (by show some _ = some _; rw [pk_1]; try rfl) ZZSUB) (fun _ h => h) ?_
  rintro i ⟨hi1, hi⟩
  have hpk := pkTo_lt t k ⟨c, o⟩ i hi1
  obtain ⟨j, hj⟩ : ∃ j, j = t.pkTo k ⟨c, o⟩ i := ⟨_, rfl⟩
  have hpt := pk_t (t := t) (k := k) (p := ⟨c, o⟩) hi1
  have hpf := pk_f (t := t) (k := k) (p := ⟨c, o⟩) (i := i)
  rw [← hj] at hpt hpf hpk
  simp only [← hj, ctkC]
  dsimp only [List.cons_append, List.nil_append]
  repeat (first | (refine M0 ?_; first | refine SL ?_ | refine SB fun _ _ => ?_) | (refine M1 ?_; refine SC ?_) | (refine M2 ?_; refine SE ?_))
  refine XC.cond _ rfl (fun h2 => ?_) (fun h2 => ?_)
  rotate_left
  · have hin : i = t.n := by have := of_decide_eq_false h2; omega
    subst hin
    have e1 : t.peak ⟨c, o⟩ k = (t.from_ + (j : Int), t.hi (lvD (t.ins k ⟨c, o⟩ j))) := by unfold CTk.peak CTk.pkAt CTk.pkLv; rw [← hj]
    rw [e1]
    have hsp := hsp j
    have cb := cel5 j hpk
    have lb := lb5 j
    repeat (first | (refine M0 ?_; first | refine SL ?_ | refine SB fun _ _ => ?_) | (refine M1 ?_; refine SC ?_) | (refine M2 ?_; refine SE ?_))
    refine XC.drawT mixed rfl rfl (by kernel_rfl) ?_
    repeat (first | (refine M0 ?_; first | refine SL ?_ | refine SB fun _ _ => ?_ | refine Y4 (Ev.call (f := 37) (ck rfl) rfl (fun w5 S5 => hfr w5 (hB1.trans S5.toBelow))) ?_ | refine Y4 (Ev.load_far_agg tok (rlK5.c (t.rl k ⟨c, o⟩ j)) rfl rfl rfl lb (hf.far ZZHL) cb) ?_ | refine Y4 (Ev.call (f := 63) (ck rfl) rfl (fun w5 S5 => hsp w5 (hB1.trans S5.toBelow))) ?_ | refine XL.store tok 0 (g := g6) (o := 0) (cs := [.int .i64 0, .int .i64 0]) rfl rfl rfl rfl (.inr rfl) rfl rfl rfl ?_) | (refine M2 ?_; refine SE ?_) | (refine M3 ?_; first | refine SG ?_ | refine SF ?_ | refine YF (Ev.call (f := 37) (ck rfl) rfl (fun w5 S5 => hfr w5 (hB1.trans S5.toBelow))) ?_ | refine YF (Ev.load_far_agg tok (rlK5.c (t.rl k ⟨c, o⟩ j)) rfl rfl rfl lb (hf.far ZZHL) cb) ?_ | refine YF (Ev.call (f := 63) (ck rfl) rfl (fun w5 S5 => hsp w5 (hB1.trans S5.toBelow))) ?_) | (refine M4 ?_; refine SR ?_) | (refine M5 ?_; first | exact M7 | refine YM ?_ | refine YN ?_ ?_))
    repeat (first | (refine M0 ?_; first | refine SL ?_ | refine SB fun _ _ => ?_) | (refine M1 ?_; refine SC ?_) | (refine M2 ?_; refine SE ?_))
    refine XE.retg tok Tryz.results70 rfl (by simp only [and_self, and_true]) (fun w' S => ?_)
    exact ⟨rfl, hB1.trans S.toBelow⟩
  have hin : i < t.n := by have := of_decide_eq_true h2; omega
  have hgt := hgt i j
  have ca := cel5 i hin
  have la := lb5 i
  have cb := cel5 j (by omega)
  have lb := lb5 j
  cases hx : t.gt (lvD (t.ins k ⟨c, o⟩ i)) (lvD (t.ins k ⟨c, o⟩ j)) with
  | true =>
    simp only [hx] at hgt
    repeat (first | (refine M0 ?_; first | refine SL ?_ | refine SB fun _ _ => ?_) | (refine M1 ?_; refine SC ?_) | (refine M2 ?_; refine SE ?_))
    refine XC.drawT mixed rfl rfl (by kernel_rfl) ?_
    repeat (first | (refine M0 ?_; first | refine SL ?_ | refine SB fun _ _ => ?_ | refine Y4 (Ev.load_far_agg tok (rlK5.c (t.rl k ⟨c, o⟩ i)) rfl rfl rfl la (hf.far ZZHL) ca) ?_ | refine Y4 (Ev.load_far_agg tok (rlK5.c (t.rl k ⟨c, o⟩ j)) rfl rfl rfl lb (hf.far ZZHL) cb) ?_ | refine Y4 (Ev.call (f := 95) (ck rfl) rfl (fun w5 S5 => hgt w5 (hB1.trans S5.toBelow))) ?_) | (refine M2 ?_; refine SE ?_) | (refine M3 ?_; first | refine SG ?_ | refine SF ?_ | refine YF (Ev.load_far_agg tok (rlK5.c (t.rl k ⟨c, o⟩ i)) rfl rfl rfl la (hf.far ZZHL) ca) ?_ | refine YF (Ev.load_far_agg tok (rlK5.c (t.rl k ⟨c, o⟩ j)) rfl rfl rfl lb (hf.far ZZHL) cb) ?_ | refine YF (Ev.call (f := 95) (ck rfl) rfl (fun w5 S5 => hgt w5 (hB1.trans S5.toBelow))) ?_) | (refine M4 ?_; refine SR ?_) | (refine M5 ?_; first | exact M7 | refine YM ?_ | refine YN ?_ ?_))
    repeat (first | (refine M0 ?_; first | refine SL ?_ | refine SB fun _ _ => ?_) | (refine M1 ?_; refine SC ?_) | (refine M2 ?_; refine SE ?_))
    exact XE.round (s := i) (i + 1) ⟨by omega, hin⟩ (by omega) (Sub.cons (by show some _ = some _; rw [hpt hx]) ZZSUB) (fun _ h => h)
  | false =>
    simp only [hx] at hgt
    repeat (first | (refine M0 ?_; first | refine SL ?_ | refine SB fun _ _ => ?_) | (refine M1 ?_; refine SC ?_) | (refine M2 ?_; refine SE ?_))
    refine XC.drawT mixed rfl rfl (by kernel_rfl) ?_
    repeat (first | (refine M0 ?_; first | refine SL ?_ | refine SB fun _ _ => ?_ | refine Y4 (Ev.load_far_agg tok (rlK5.c (t.rl k ⟨c, o⟩ i)) rfl rfl rfl la (hf.far ZZHL) ca) ?_ | refine Y4 (Ev.load_far_agg tok (rlK5.c (t.rl k ⟨c, o⟩ j)) rfl rfl rfl lb (hf.far ZZHL) cb) ?_ | refine Y4 (Ev.call (f := 95) (ck rfl) rfl (fun w5 S5 => hgt w5 (hB1.trans S5.toBelow))) ?_) | (refine M2 ?_; refine SE ?_) | (refine M3 ?_; first | refine SG ?_ | refine SF ?_ | refine YF (Ev.load_far_agg tok (rlK5.c (t.rl k ⟨c, o⟩ i)) rfl rfl rfl la (hf.far ZZHL) ca) ?_ | refine YF (Ev.load_far_agg tok (rlK5.c (t.rl k ⟨c, o⟩ j)) rfl rfl rfl lb (hf.far ZZHL) cb) ?_ | refine YF (Ev.call (f := 95) (ck rfl) rfl (fun w5 S5 => hgt w5 (hB1.trans S5.toBelow))) ?_) | (refine M4 ?_; refine SR ?_) | (refine M5 ?_; first | exact M7 | refine YM ?_ | refine YN ?_ ?_))
    repeat (first | (refine M0 ?_; first | refine SL ?_ | refine SB fun _ _ => ?_) | (refine M1 ?_; refine SC ?_) | (refine M2 ?_; refine SE ?_))
    exact XE.round (s := i) (i + 1) ⟨by omega, hin⟩ (by omega) (Sub.cons (by show some _ = some _; rw [hpf hx]) ZZSUB) (fun _ h => h)
end
end Go.Proofs.YtmpaiphakjogjaaGreat.X
/-
  The walks of the document's count and rules (closure).
-/
namespace Go.Proofs.YtmpaiphakjogjaaGreat.X
open Go Go.RowKit Go.Proofs.YtmpaiphakjogjaaGreat.Bs
set_option linter.unusedVariables false
/-- the own blocks differ. -/
theorem XC.nd {P : Program} {N B : Nat} {w0 : World} {ds : List Deferred} {Q : Exit → Act → World → Prop} {F : Fr} {L : Lo} {c : Code} (h : (L.map (·.1)).Nodup → XC P N B w0 ds Q c F L) : XC P N B w0 ds Q c F L := ⟨fun a w hf hs => (h hs.nd).run a w hf hs⟩
section
variable {v : CTV} {t : CTk} {w : World}
theorem count5_any {q : SV} {l : List Bool} (hL : ListAt boolK5 w (Lt w.heap.size) q l) (hl : l.length ≤ 1000) :
    Calls Tryz.prog 57 #[svV q] w fun e w' => e = .returned (.int .i64 (cntB l : Nat)) ∧ Below w.heap.size w w' := by
  have hn := hL.len (by decide)
  obtain ⟨qA, qn, qc⟩ := q
  simp only at hn
  subst hn
  simp only [svV]
  refine enter Tryz.func57 rfl Tryz.ntmps57 rfl ?_; simp only [frame, Nat.zero_add, Nat.reduceAdd]
  repeat (first | (refine M0 ?_; first | refine SL ?_ | refine SB fun _ _ => ?_) | (refine M1 ?_; refine SC ?_) | (refine M2 ?_; refine SE ?_))
  refine XC.loopk [0] rfl (fun i : Nat => [(3, .int .i64 (cntB (l.take i) : Nat)), (4, .int .i64 (i : Nat))]) (fun _ => []) (fun _ => w) (fun i => i ≤ l.length) (fun i => l.length - i) 0 (Nat.zero_le _) (Sub.cons (by show some _ = some _; rw [cntB_0]; try rfl) ZZSUB) (fun _ h => h) ?_
  intro i hi
  have hcl := cntB_le (l.take i)
  rw [List.length_take] at hcl
  dsimp only [List.cons_append, List.nil_append]
  repeat (first | (refine M0 ?_; first | refine SL ?_ | refine SB fun _ _ => ?_) | (refine M1 ?_; refine SC ?_) | (refine M2 ?_; refine SE ?_))
  refine XC.cond _ rfl (fun h2 => ?_) (fun h2 => ?_)
  rotate_left
  · have hin : i = l.length := by have := of_decide_eq_false h2; omega
    subst hin
    rw [List.take_length]
    repeat (first | (refine M0 ?_; first | refine SL ?_ | refine SB fun _ _ => ?_) | (refine M1 ?_; refine SC ?_) | (refine M2 ?_; refine SE ?_))
    refine XE.retg tok Tryz.results57 rfl (by simp only [and_self, and_true]) (fun w' S => ?_)
    exact ⟨rfl, S.toBelow⟩
  have hin : i < l.length := by have := of_decide_eq_true h2; omega
  obtain ⟨ad, rfl, hlt⟩ := hL.addr (by decide) (by omega)
  obtain ⟨b, hb⟩ : ∃ b, l[i]? = some b := ⟨_, List.getElem?_eq_getElem hin⟩
  have hcell := hL.elem hb 0 (.bool b) rfl
  rw [add_add, Nat.add_zero] at hcell
  have hcell : w.cell? (ad.add (i * 1)) = some (.bool b) := hcell
  cases b with
  | true =>
    repeat (first | (refine M0 ?_; first | refine SL ?_ | refine SB fun _ _ => ?_ | refine Y4 (Ev.load_old tok rfl rfl (add_lt hlt) hcell) ?_) | (refine M1 ?_; refine SC ?_) | (refine M2 ?_; refine SE ?_))
    exact XE.round (s := i) (i + 1) hin (by omega) (Sub.cons (by show some _ = some _; rw [cntB_succ hb, if_pos rfl]; try rfl) ZZSUB) (fun _ h => h)
  | false =>
    repeat (first | (refine M0 ?_; first | refine SL ?_ | refine SB fun _ _ => ?_ | refine Y4 (Ev.load_old tok rfl rfl (add_lt hlt) hcell) ?_) | (refine M1 ?_; refine SC ?_) | (refine M2 ?_; refine SE ?_))
    exact XE.round (s := i) (i + 1) hin (by omega) (Sub.cons (by show some _ = some _; rw [cntB_succ hb, if_neg (by simp)]; try rfl) ZZSUB) (fun _ h => h)
set_option maxHeartbeats 8000000 in
theorem rules5_any {i tick x y : Int} (hT : CtAt w w.heap.size v t) (ho : CtOk t) (h0 : 0 ≤ i) (h1 : i ≤ t.last) (htk : tick = t.from_ + i) :
    Calls Tryz.prog 71 #[ctkV v t, .int .i64 tick, .agg ⟨[.int .i64 x, .int .i64 y]⟩] w fun e w' => e = .returned (.bool (t.rules i (x, y))) ∧ Below w.heap.size w w' := by
  subst htk
  have hfr := fun (w5 : World) (hB : Below w.heap.size w w5) => from5_any (hT.sys (Sys.ofBelow hB)) ho
  have hen := fun (w5 : World) (hB : Below w.heap.size w w5) => end5_any (hT.sys (Sys.ofBelow hB)) ho
  have h60 := ho.n60
  have h1n := ho.n1
  have hm8 := ho.m8
  have hfm := ho.frm
  have hdl := ho.dly
  have hll : t.last ≤ 60 := by unfold CTk.last; omega
  have hpl := fun (w5 : World) (hB : Below w.heap.size w w5) => refplan_any (i := t.from_ + i) (hT.sys (Sys.ofBelow hB)) ho (by omega)
  simp only [show t.from_ + i - t.from_ = i from by omega] at hpl
  have hst : t.strange (t.plan i) = false := (plan_ok ho h0 h1).1
  have hlv := fun (k : Nat) (hk : k < t.m) (w5 : World) (hB : Below w.heap.size w w5) => levels5_made (k := k) (p := t.plan i) (hT.sys (Sys.ofBelow hB)) ho hk hst
  have hft := fun (k j : Nat) (w5 : World) (hB : Below w.heap.size w w5) => fits5_any (x := t.rl k (t.plan i) j) (l := t.limit) (hT.sys (Sys.ofBelow hB))
  have hhn := hT.hn
  obtain ⟨vp, vf, ⟨Ah, nh, ch⟩, vr⟩ := v
  simp only at hhn
  subst hhn
  simp only [fits_above] at hft
  unfold CTk.rules
  simp only
  simp only [ctkV, ctkC, plnV, rlV] at hfr hen hpl hlv hft ⊢
  refine enter Tryz.func71 rfl Tryz.ntmps71 rfl ?_; simp only [frame, Nat.zero_add, Nat.reduceAdd]
  repeat (first | (refine M0 ?_; first | refine SL ?_ | refine SB fun _ _ => ?_) | (refine M1 ?_; refine SC ?_) | (refine M2 ?_; refine SE ?_))
  rename_i g3 hg3 g5 hg5
  cases hb1 : outB x 0 ((t.m : Int) - 1) with
  | true =>
    refine XC.drawT mixed rfl rfl (by kernel_rfl) ?_
    repeat (first | (refine M0 ?_; first | refine SL ?_ | refine SB fun _ _ => ?_ | refine Y4 (Ev.call (f := 35) (ck rfl) rfl (fun w5 S5 => in5_any _ _ _ w5)) ?_) | (refine M2 ?_; refine SE ?_) | (refine M3 ?_; first | refine SG ?_ | refine SF ?_ | refine YF (Ev.call (f := 35) (ck rfl) rfl (fun w5 S5 => in5_any _ _ _ w5)) ?_) | (refine M4 ?_; refine SR ?_) | (refine M5 ?_; first | exact M7 | refine YM ?_ | refine YN ?_ ?_))
    rw [hb1]
    repeat (first | (refine M0 ?_; first | refine SL ?_ | refine SB fun _ _ => ?_) | (refine M2 ?_; refine SE ?_) | (refine M3 ?_; first | refine SG ?_ | refine SF ?_) | (refine M4 ?_; refine SR ?_) | (refine M5 ?_; first | exact M7 | refine YM ?_ | refine YN ?_ ?_))
    repeat (first | (refine M0 ?_; first | refine SL ?_ | refine SB fun _ _ => ?_) | (refine M1 ?_; refine SC ?_) | (refine M2 ?_; refine SE ?_))
    refine XE.retg tok Tryz.results71 rfl (by simp only [and_self, and_true]) (fun w' S => ?_)
    exact ⟨rfl, S.toBelow⟩
  | false =>
  cases hb2 : outB y t.from_ (t.from_ + (t.n : Int) - 1) with
  | true =>
    refine XC.drawT mixed rfl rfl (by kernel_rfl) ?_
    repeat (first | (refine M0 ?_; first | refine SL ?_ | refine SB fun _ _ => ?_ | refine Y4 (Ev.call (f := 35) (ck rfl) rfl (fun w5 S5 => in5_any _ _ _ w5)) ?_) | (refine M2 ?_; refine SE ?_) | (refine M3 ?_; first | refine SG ?_ | refine SF ?_ | refine YF (Ev.call (f := 35) (ck rfl) rfl (fun w5 S5 => in5_any _ _ _ w5)) ?_) | (refine M4 ?_; refine SR ?_) | (refine M5 ?_; first | exact M7 | refine YM ?_ | refine YN ?_ ?_))
    rw [hb1]
    repeat (first | (refine M0 ?_; first | refine SL ?_ | refine SB fun _ _ => ?_ | refine Y4 (Ev.call (f := 37) (ck rfl) rfl (fun w5 S5 => hfr w5 S5.toBelow)) ?_ | refine Y4 (Ev.call (f := 36) (ck rfl) rfl (fun w5 S5 => hen w5 S5.toBelow)) ?_ | refine Y4 (Ev.call (f := 35) (ck rfl) rfl (fun w5 S5 => in5_any _ _ _ w5)) ?_) | (refine M2 ?_; refine SE ?_) | (refine M3 ?_; first | refine SG ?_ | refine SF ?_ | refine YF (Ev.call (f := 37) (ck rfl) rfl (fun w5 S5 => hfr w5 S5.toBelow)) ?_ | refine YF (Ev.call (f := 36) (ck rfl) rfl (fun w5 S5 => hen w5 S5.toBelow)) ?_ | refine YF (Ev.call (f := 35) (ck rfl) rfl (fun w5 S5 => in5_any _ _ _ w5)) ?_) | (refine M4 ?_; refine SR ?_) | (refine M5 ?_; first | exact M7 | refine YM ?_ | refine YN ?_ ?_))
    rw [hb2]
    repeat (first | (refine M0 ?_; first | refine SL ?_ | refine SB fun _ _ => ?_) | (refine M2 ?_; refine SE ?_) | (refine M3 ?_; first | refine SG ?_ | refine SF ?_) | (refine M4 ?_; refine SR ?_) | (refine M5 ?_; first | exact M7 | refine YM ?_ | refine YN ?_ ?_))
    repeat (first | (refine M0 ?_; first | refine SL ?_ | refine SB fun _ _ => ?_) | (refine M1 ?_; refine SC ?_) | (refine M2 ?_; refine SE ?_))
    refine XE.retg tok Tryz.results71 rfl (by simp only [and_self, and_true]) (fun w' S => ?_)
    exact ⟨rfl, S.toBelow⟩
  | false =>
  have hr1 := outB_f.1 hb1
  have hr2 := outB_f.1 hb2
  obtain ⟨hh, rfl⟩ : ∃ hh : Nat, x = (hh : Nat) := ⟨x.toNat, by omega⟩
  obtain ⟨aa, haa⟩ : ∃ aa : Nat, y = t.from_ + (aa : Nat) := ⟨(y - t.from_).toNat, by omega⟩
  have hhm : hh < t.m := by omega
  have han : aa < t.n := by omega
  subst haa
  have e5 : (t.from_ + (aa : Int) - t.from_).toNat = aa := by omega
  rw [Int.toNat_natCast, e5]
  have hft := hft hh aa
  have hlv := hlv hh hhm
  refine XC.drawT mixed rfl rfl (by kernel_rfl) ?_
  repeat (first | (refine M0 ?_; first | refine SL ?_ | refine SB fun _ _ => ?_ | refine Y4 (Ev.call (f := 35) (ck rfl) rfl (fun w5 S5 => in5_any _ _ _ w5)) ?_) | (refine M2 ?_; refine SE ?_) | (refine M3 ?_; first | refine SG ?_ | refine SF ?_ | refine YF (Ev.call (f := 35) (ck rfl) rfl (fun w5 S5 => in5_any _ _ _ w5)) ?_) | (refine M4 ?_; refine SR ?_) | (refine M5 ?_; first | exact M7 | refine YM ?_ | refine YN ?_ ?_))
  rw [hb1]
  repeat (first | (refine M0 ?_; first | refine SL ?_ | refine SB fun _ _ => ?_ | refine Y4 (Ev.call (f := 37) (ck rfl) rfl (fun w5 S5 => hfr w5 S5.toBelow)) ?_ | refine Y4 (Ev.call (f := 36) (ck rfl) rfl (fun w5 S5 => hen w5 S5.toBelow)) ?_ | refine Y4 (Ev.call (f := 35) (ck rfl) rfl (fun w5 S5 => in5_any _ _ _ w5)) ?_) | (refine M2 ?_; refine SE ?_) | (refine M3 ?_; first | refine SG ?_ | refine SF ?_ | refine YF (Ev.call (f := 37) (ck rfl) rfl (fun w5 S5 => hfr w5 S5.toBelow)) ?_ | refine YF (Ev.call (f := 36) (ck rfl) rfl (fun w5 S5 => hen w5 S5.toBelow)) ?_ | refine YF (Ev.call (f := 35) (ck rfl) rfl (fun w5 S5 => in5_any _ _ _ w5)) ?_) | (refine M4 ?_; refine SR ?_) | (refine M5 ?_; first | exact M7 | refine YM ?_ | refine YN ?_ ?_))
  rw [hb2]
  repeat (first | (refine M0 ?_; first | refine SL ?_ | refine SB fun _ _ => ?_) | (refine M2 ?_; refine SE ?_) | (refine M3 ?_; first | refine SG ?_ | refine SF ?_) | (refine M4 ?_; refine SR ?_) | (refine M5 ?_; first | exact M7 | refine YM ?_ | refine YN ?_ ?_))
  repeat (first | (refine M0 ?_; first | refine SL ?_ | refine SB fun _ _ => ?_) | (refine M1 ?_; refine SC ?_) | (refine M2 ?_; refine SE ?_))
  have hle : w.heap.size ≤ w.heap.size := Nat.le_refl _
  have hB0 := Below.refl w.heap.size w
  obtain ⟨b, hb⟩ : ∃ b, t.above hh (t.plan i) aa = b := ⟨_, rfl⟩
  simp only [hb] at hft
  rw [hb]
  refine XC.nd fun hnd => ?_
  have hn53 : g5 ≠ g3 := by simpa using hnd
  cases b with
  | true =>
    refine XC.drawRS (trunc w w.heap.size) [(g5, cel 70 [.int .i64 (hh : Nat), .int .i64 (t.from_ + (aa : Int))]), (g3, cel 29 (ctkC ⟨vp, vf, ⟨Ah, t.m, ch⟩, vr⟩ t))] [0, 1, 2, 3, 4, 5, 8, 9, 10, 15, 16] [6, 7, 11, 12, 13, 14, 17, 18, 19] mixed (fun _ h => Sys.anchorT hB0 h (by intro e he; repeat (first | (cases he; done) | (rcases List.mem_cons.1 he with rfl | he; · repeat (first | exact List.mem_cons_self | apply List.mem_cons_of_mem)))) (by simp; omega) hle) rfl (by kernel_rfl) ?_
    repeat (any_goals (first | (refine M0 ?_; first | refine SL ?_ | refine SB fun _ _ => ?_ | refine Y4 (Ev.load_loc tok 0 (g := g5) (o := 0) rfl rfl rfl rfl) ?_ | refine Y4 (Ev.load_loc tok 0 (g := g5) (o := 1) rfl rfl rfl rfl) ?_ | refine Y4 (Ev.load_loc tok 1 (g := g3) (o := 9) rfl rfl rfl rfl) ?_ | refine Y4 (Ev.load_loc_agg tok 1 (g := g3) (o := 0) rfl rfl rfl rfl) ?_ | refine Y4 (Ev.call (f := 39) (ck rfl) rfl (fun w5 S5 => hpl w5 S5.toBelow)) ?_ | refine Y4 (Ev.call (f := 37) (ck rfl) rfl (fun w5 S5 => hfr w5 S5.toBelow)) ?_ | refine Y4 (Ev.call (f := 37) (ck rfl) rfl (fun w5 S5 => hfr w5 (hB1.trans S5.toBelow))) ?_ | refine Y4 (Ev.load_far_agg tok (rlK5.c (t.rl hh (t.plan i) aa)) rfl rfl rfl la (hf.far ZZHL) ca) ?_ | refine Y4 (Ev.call (f := 79) (ck rfl) rfl (fun w5 S5 => hft w5 (hB1.trans S5.toBelow))) ?_ | (refine XL.at_call 62 ?_; refine XL.callF (ks := []) (rs := []) (hs := []) (b0 := w.heap.size) (wE := w) (RlsV t hh (t.plan i)) (ck rfl) rfl rfl (Fam.start (Nat.le_refl w.heap.size)) (fun _ h => by cases h) (Below.refl w.heap.size w) (fun w1 S1 _ hB1 => hlv w1 hB1) (fun w1 x new hR hF1 hB1 hk1 => ?_) ZZHL; obtain ⟨⟨qA, qn, qc⟩, rfl, rfl⟩ := hR; have hLF : ListAt rlK5 w1 (Free w1 w.heap.size _ []) ⟨qA, qn, qc⟩ ((List.range t.n).map (t.rl hh (t.plan i))) := hF1.held (hList rlK5 ⟨qA, qn, qc⟩ ((List.range t.n).map (t.rl hh (t.plan i)))) (.head _); have hqn := hLF.len (by decide); simp only [List.length_map, List.length_range] at hqn; subst hqn; obtain ⟨ad, rfl, hf⟩ := hLF.addr (by decide) (by rw [List.length_map, List.length_range]; omega); have ca := hLF.elem (show ((List.range t.n).map (t.rl hh (t.plan i)))[(t.from_ + (aa : Int) - t.from_).toNat]? = some (t.rl hh (t.plan i) aa) from by rw [e5, List.getElem?_map, List.getElem?_range han]; rfl); have la : (ad.add ((t.from_ + (aa : Int) - t.from_).toNat * 3)).block < w1.heap.size := (by rw [add_block]; exact hf.2.1); simp only [svV])) | (refine M1 ?_; refine SC ?_) | (refine M2 ?_; first | refine SE ?_ | ((with_reducible refine atHeld ?_); refine z7 ?_)) | (refine M3 ?_; first | refine SG ?_ | refine SF ?_ | refine YF (Ev.load_loc tok 0 (g := g5) (o := 0) rfl rfl rfl rfl) ?_ | refine YF (Ev.load_loc tok 0 (g := g5) (o := 1) rfl rfl rfl rfl) ?_ | refine YF (Ev.load_loc tok 1 (g := g3) (o := 9) rfl rfl rfl rfl) ?_ | refine YF (Ev.load_loc_agg tok 1 (g := g3) (o := 0) rfl rfl rfl rfl) ?_ | refine YF (Ev.call (f := 39) (ck rfl) rfl (fun w5 S5 => hpl w5 S5.toBelow)) ?_ | refine YF (Ev.call (f := 37) (ck rfl) rfl (fun w5 S5 => hfr w5 S5.toBelow)) ?_ | refine YF (Ev.call (f := 37) (ck rfl) rfl (fun w5 S5 => hfr w5 (hB1.trans S5.toBelow))) ?_ | refine YF (Ev.load_far_agg tok (rlK5.c (t.rl hh (t.plan i) aa)) rfl rfl rfl la (hf.far ZZHL) ca) ?_ | refine YF (Ev.call (f := 79) (ck rfl) rfl (fun w5 S5 => hft w5 (hB1.trans S5.toBelow))) ?_) | (refine M4 ?_; refine SR ?_) | (refine M5 ?_; first | exact M7 | refine YM ?_ | refine YN ?_ ?_)))
    any_goals (repeat (first | exact AnyR.nil | refine AnyR.skip rfl ?_))
    all_goals
      repeat (first | (refine M0 ?_; first | refine SL ?_ | refine SB fun _ _ => ?_) | (refine M1 ?_; refine SC ?_) | (refine M2 ?_; refine SE ?_))
      refine XE.retg tok Tryz.results71 rfl (by simp only [and_self, and_true]) (fun w' S => ?_)
      exact ⟨rfl, hB1.trans S.toBelow⟩
  | false =>
    refine XC.drawRS (trunc w w.heap.size) [(g5, cel 70 [.int .i64 (hh : Nat), .int .i64 (t.from_ + (aa : Int))]), (g3, cel 29 (ctkC ⟨vp, vf, ⟨Ah, t.m, ch⟩, vr⟩ t))] [0, 1, 2, 3, 4, 5, 8, 9, 10, 15, 16] [6, 7, 11, 12, 13, 14, 17, 18, 19] mixed (fun _ h => Sys.anchorT hB0 h (by intro e he; repeat (first | (cases he; done) | (rcases List.mem_cons.1 he with rfl | he; · repeat (first | exact List.mem_cons_self | apply List.mem_cons_of_mem)))) (by simp; omega) hle) rfl (by kernel_rfl) ?_
    repeat (any_goals (first | (refine M0 ?_; first | refine SL ?_ | refine SB fun _ _ => ?_ | refine Y4 (Ev.load_loc tok 0 (g := g5) (o := 0) rfl rfl rfl rfl) ?_ | refine Y4 (Ev.load_loc tok 0 (g := g5) (o := 1) rfl rfl rfl rfl) ?_ | refine Y4 (Ev.load_loc tok 1 (g := g3) (o := 9) rfl rfl rfl rfl) ?_ | refine Y4 (Ev.load_loc_agg tok 1 (g := g3) (o := 0) rfl rfl rfl rfl) ?_ | refine Y4 (Ev.call (f := 39) (ck rfl) rfl (fun w5 S5 => hpl w5 S5.toBelow)) ?_ | refine Y4 (Ev.call (f := 37) (ck rfl) rfl (fun w5 S5 => hfr w5 S5.toBelow)) ?_ | refine Y4 (Ev.call (f := 37) (ck rfl) rfl (fun w5 S5 => hfr w5 (hB1.trans S5.toBelow))) ?_ | refine Y4 (Ev.load_far_agg tok (rlK5.c (t.rl hh (t.plan i) aa)) rfl rfl rfl la (hf.far ZZHL) ca) ?_ | refine Y4 (Ev.call (f := 79) (ck rfl) rfl (fun w5 S5 => hft w5 (hB1.trans S5.toBelow))) ?_ | (refine XL.at_call 62 ?_; refine XL.callF (ks := []) (rs := []) (hs := []) (b0 := w.heap.size) (wE := w) (RlsV t hh (t.plan i)) (ck rfl) rfl rfl (Fam.start (Nat.le_refl w.heap.size)) (fun _ h => by cases h) (Below.refl w.heap.size w) (fun w1 S1 _ hB1 => hlv w1 hB1) (fun w1 x new hR hF1 hB1 hk1 => ?_) ZZHL; obtain ⟨⟨qA, qn, qc⟩, rfl, rfl⟩ := hR; have hLF : ListAt rlK5 w1 (Free w1 w.heap.size _ []) ⟨qA, qn, qc⟩ ((List.range t.n).map (t.rl hh (t.plan i))) := hF1.held (hList rlK5 ⟨qA, qn, qc⟩ ((List.range t.n).map (t.rl hh (t.plan i)))) (.head _); have hqn := hLF.len (by decide); simp only [List.length_map, List.length_range] at hqn; subst hqn; obtain ⟨ad, rfl, hf⟩ := hLF.addr (by decide) (by rw [List.length_map, List.length_range]; omega); have ca := hLF.elem (show ((List.range t.n).map (t.rl hh (t.plan i)))[(t.from_ + (aa : Int) - t.from_).toNat]? = some (t.rl hh (t.plan i) aa) from by rw [e5, List.getElem?_map, List.getElem?_range han]; rfl); have la : (ad.add ((t.from_ + (aa : Int) - t.from_).toNat * 3)).block < w1.heap.size := (by rw [add_block]; exact hf.2.1); simp only [svV])) | (refine M1 ?_; refine SC ?_) | (refine M2 ?_; first | refine SE ?_ | ((with_reducible refine atHeld ?_); refine z7 ?_)) | (refine M3 ?_; first | refine SG ?_ | refine SF ?_ | refine YF (Ev.load_loc tok 0 (g := g5) (o := 0) rfl rfl rfl rfl) ?_ | refine YF (Ev.load_loc tok 0 (g := g5) (o := 1) rfl rfl rfl rfl) ?_ | refine YF (Ev.load_loc tok 1 (g := g3) (o := 9) rfl rfl rfl rfl) ?_ | refine YF (Ev.load_loc_agg tok 1 (g := g3) (o := 0) rfl rfl rfl rfl) ?_ | refine YF (Ev.call (f := 39) (ck rfl) rfl (fun w5 S5 => hpl w5 S5.toBelow)) ?_ | refine YF (Ev.call (f := 37) (ck rfl) rfl (fun w5 S5 => hfr w5 S5.toBelow)) ?_ | refine YF (Ev.call (f := 37) (ck rfl) rfl (fun w5 S5 => hfr w5 (hB1.trans S5.toBelow))) ?_ | refine YF (Ev.load_far_agg tok (rlK5.c (t.rl hh (t.plan i) aa)) rfl rfl rfl la (hf.far ZZHL) ca) ?_ | refine YF (Ev.call (f := 79) (ck rfl) rfl (fun w5 S5 => hft w5 (hB1.trans S5.toBelow))) ?_) | (refine M4 ?_; refine SR ?_) | (refine M5 ?_; first | exact M7 | refine YM ?_ | refine YN ?_ ?_)))
    any_goals (repeat (first | exact AnyR.nil | refine AnyR.skip rfl ?_))
    all_goals
      repeat (first | (refine M0 ?_; first | refine SL ?_ | refine SB fun _ _ => ?_) | (refine M1 ?_; refine SC ?_) | (refine M2 ?_; refine SE ?_))
      refine XE.retg tok Tryz.results71 rfl (by simp only [and_self, and_true]) (fun w' S => ?_)
      exact ⟨rfl, hB1.trans S.toBelow⟩
end
end Go.Proofs.YtmpaiphakjogjaaGreat.X
/-
  The walks of the document's peaks and witness (closure).
-/
namespace Go.Proofs.YtmpaiphakjogjaaGreat.Bs
open Go Go.Proofs.YtmpaiphakjogjaaGreat.X
set_option linter.unusedVariables false
theorem rules_in {t : CTk} {i : Int} {k j : Nat} (hk : k < t.m) (hj : j < t.n) : t.rules i (((k : Nat) : Int), t.from_ + (j : Nat)) = t.above k (t.plan i) j := by
  have h1 : outB ((k : Nat) : Int) 0 ((t.m : Int) - 1) = false := outB_f.2 ⟨by omega, by omega⟩
  have h2 : outB (t.from_ + (j : Nat)) t.from_ (t.from_ + t.n - 1) = false := outB_f.2 ⟨by omega, by omega⟩
  unfold CTk.rules
  simp only [h1, h2]
  rw [Int.toNat_natCast, show (t.from_ + (j : Int) - t.from_).toNat = j by omega]
  rfl
theorem wit_0 {t : CTk} {i : Int} (h : ∀ k, k < t.m → t.fails k (t.plan i) = none) : t.wit i = none ∧ t.witC i = (0, 0) := by
  have e : t.wit i = none := by unfold CTk.wit; rw [firstB_none.2 fun k hk => by rw [h k hk]; rfl]
  exact ⟨e, by unfold CTk.witC; rw [e]⟩
theorem wit_at {t : CTk} {i : Int} {k j : Nat} (hk : k < t.m) (h : ∀ k', k' < k → t.fails k' (t.plan i) = none) (hj : t.fails k (t.plan i) = some j) : t.wit i = some (k, j) ∧ t.witC i = (((k : Nat) : Int), t.from_ + ((j : Nat) : Int)) := by
  have e : t.wit i = some (k, j) := by unfold CTk.wit; rw [firstB_some.2 ⟨hk, by rw [hj]; rfl, fun k' hk' => by rw [h k' hk']; rfl⟩]; simp only; rw [hj]; rfl
  exact ⟨e, by unfold CTk.witC; rw [e]⟩
end Go.Proofs.YtmpaiphakjogjaaGreat.Bs
namespace Go.Proofs.YtmpaiphakjogjaaGreat.X
open Go Go.RowKit Go.Proofs.YtmpaiphakjogjaaGreat.Bs
set_option linter.unusedVariables false
section
variable {v : CTV} {t : CTk} {w : World}
set_option maxHeartbeats 8000000 in
theorem peaks5_made {p : CPl} (hT : CtAt w w.heap.size v t) (ho : CtOk t) (hp : t.strange p = false) :
    Calls Tryz.prog 52 #[ctkV v t, plnV p] w (Made w (PksX t p)) := by
  have hho := fun (k : Nat) (hk : k < t.m) (w5 : World) (hB : Below w.heap.size w w5) => peak5_any (k := k) (p := p) (hT.sys (Sys.ofBelow hB)) ho hk hp
  have hhn := hT.hn
  have hm8 := ho.m8
  obtain ⟨vp, vf, ⟨Ah, nh, ch⟩, vr⟩ := v
  simp only at hhn
  subst hhn
  obtain ⟨c, o⟩ := p
  simp only [ctkV, ctkC, plnV, iiV] at hho ⊢
  refine enter Tryz.func52 rfl Tryz.ntmps52 rfl ?_; simp only [frame, Nat.zero_add, Nat.reduceAdd]
  repeat (first | (refine M0 ?_; first | refine SL ?_ | refine SB fun _ _ => ?_) | (refine M1 ?_; refine SC ?_) | (refine M2 ?_; refine SE ?_))
  rename_i g2 hg2 g3 hg3
  refine XC.rebase (List.Sublist.refl _) (fun W0 S0 => ?_)
  have hR0 : Fam W0 w.heap.size [g3, g2] [⟨II, pekK5, .slice none 0 0, (List.range 0).map (t.peak ⟨c, o⟩)⟩] [] := Fam.nil pekK5 (Fam.start S0.size)
  have hks0 : ∀ x, x ∈ [g3, g2] → x < W0.heap.size := fun x hx => S0.keyLt x hx
  refine XC.loopk [2, 3] rfl (fun z : Nat × World × SV => [(5, svV z.2.2), (6, .int .i64 (z.1 : Nat))]) (fun z => [(g3, cel 42 [.int .i64 c, .int .i64 o]), (g2, cel 29 (ctkC ⟨vp, vf, ⟨Ah, t.m, ch⟩, vr⟩ t))]) (fun z => z.2.1)
    (fun z => z.1 ≤ t.m ∧ Below w.heap.size w z.2.1 ∧ Fam z.2.1 w.heap.size [g3, g2] [⟨II, pekK5, svV z.2.2, (List.range z.1).map (t.peak ⟨c, o⟩)⟩] [] ∧ ∀ x, x ∈ [g3, g2] → x < z.2.1.heap.size) (fun z => t.m - z.1) (0, W0, ⟨none, 0, 0⟩) ⟨Nat.zero_le _, S0.toBelow, hR0, hks0⟩ ZZSUB (fun _ h => h) ?_
  rintro ⟨k, W, q⟩ ⟨hk, hB, hF, hks⟩
  simp only at hk hB hF hks
  simp only [svV, ctkC]
  dsimp only [List.cons_append, List.nil_append]
  repeat (first | (refine M0 ?_; first | refine SL ?_ | refine SB fun _ _ => ?_) | (refine M1 ?_; refine SC ?_) | (refine M2 ?_; refine SE ?_))
  refine XC.cond _ rfl (fun h1 => ?_) (fun h1 => ?_)
  rotate_left
  · have hkm : k = t.m := by have := of_decide_eq_false h1; omega
    subst hkm
    repeat (first | (refine M0 ?_; first | refine SL ?_ | refine SB fun _ _ => ?_) | (refine M1 ?_; refine SC ?_) | (refine M2 ?_; refine SE ?_))
    refine XE.retg tok Tryz.results52 rfl (by simp only [and_self, and_true]) (fun w' S => ?_)
    have hF9 := hF.sys S ZZHL
    obtain ⟨qA, qn, qc⟩ := q
    exact ⟨_, _, rfl, ⟨⟨qA, qn, qc⟩, rfl, rfl⟩, fun x hx => by rw [List.mem_singleton.1 hx]; exact hF9.listOf (K := pekK5) (.head _), hB.trans S.toBelow⟩
  have hkm : k < t.m := by have := of_decide_eq_true h1; omega
  have hho := hho k hkm
  repeat (first | (refine M0 ?_; first | refine SL ?_ | refine SB fun _ _ => ?_ | refine Y4 (Ev.call (f := 70) (ck rfl) rfl (fun w5 S5 => hho w5 (hB.trans S5.toBelow))) ?_ | refine XL.buildSlice tok rfl rfl rfl rfl rfl rfl rfl rfl rfl (fun _ _ => ?_)) | (refine M1 ?_; refine SC ?_) | (refine M2 ?_; refine SE ?_))
  refine XL.push (K := pekK5) (a := t.peak ⟨c, o⟩ k) (wE := w) 0 pek5_el (by decide) rfl rfl rfl hF rfl hks hB (Nat.le_refl _) rfl (by rw [List.length_map, List.length_range]; omega) (by decide) (fun x hx => by cases hx) (fun w2 v2 hF2 hB2 hk2 => ?_)
  simp only [List.set_cons_zero, ← peaks_succ] at hF2
  obtain ⟨r', rfl, _⟩ := hF2.sv (K := pekK5) (l := (List.range (k + 1)).map (t.peak ⟨c, o⟩)) (v := v2) (.head _)
  obtain ⟨rA, rn, rc⟩ := r'
  simp only [svV]
  repeat (first | (refine M0 ?_; first | refine SL ?_ | refine SB fun _ _ => ?_) | (refine M1 ?_; refine SC ?_) | (refine M2 ?_; refine SE ?_))
  exact XE.roundW (s := (k, W, q)) (fun w9 S9 => ⟨(k + 1, w9, ⟨rA, rn, rc⟩), ⟨hkm, hB2.trans S9.toBelow, (hF2.sys S9 ZZHL).add (fun x hx => .inl (List.mem_append_right _ hx)), fun x hx => Nat.lt_of_lt_of_le (hk2 x (List.mem_append_right _ hx)) S9.size⟩, by simp only; omega, ZZSUB, S9.rebase ZZSM⟩)
set_option maxHeartbeats 8000000 in
theorem witness5_any {i tick : Int} (hT : CtAt w w.heap.size v t) (ho : CtOk t) (h0 : 0 ≤ i) (h1 : i ≤ t.last) (htk : tick = t.from_ + i) :
    Calls Tryz.prog 53 #[ctkV v t, .int .i64 tick] w fun e w' => e = .returned (.tuple ⟨[iiV (t.witC i), .bool (t.wit i).isSome]⟩) ∧ Below w.heap.size w w' := by
  have hrl := fun (k j : Nat) (w5 : World) (hB : Below w.heap.size w w5) => rules5_any (i := i) (tick := tick) (x := (k : Nat)) (y := t.from_ + (j : Nat)) (hT.sys (Sys.ofBelow hB)) ho h0 h1 htk
  have hfr := fun (w5 : World) (hB : Below w.heap.size w w5) => from5_any (hT.sys (Sys.ofBelow hB)) ho
  have hen := fun (w5 : World) (hB : Below w.heap.size w w5) => end5_any (hT.sys (Sys.ofBelow hB)) ho
  have h60 := ho.n60
  have hm8 := ho.m8
  have hfm := ho.frm
  have hhn := hT.hn
  obtain ⟨vp, vf, ⟨Ah, nh, ch⟩, vr⟩ := v
  simp only at hhn
  subst hhn
  simp only [ctkV, ctkC, iiV] at hrl hfr hen ⊢
  refine enter Tryz.func53 rfl Tryz.ntmps53 rfl ?_; simp only [frame, Nat.zero_add, Nat.reduceAdd]
  repeat (first | (refine M0 ?_; first | refine SL ?_ | refine SB fun _ _ => ?_) | (refine M1 ?_; refine SC ?_) | (refine M2 ?_; refine SE ?_))
  rename_i g2 hg2 g4 hg4
  refine XC.loopk [1, 2, 4] rfl (fun z : Nat × World => [(6, .int .i64 (z.1 : Nat))]) (fun _ => [(g4, cel 70 [.int .i64 0, .int .i64 0]), (g2, cel 29 (ctkC ⟨vp, vf, ⟨Ah, t.m, ch⟩, vr⟩ t))]) (fun z => z.2) (fun z => z.1 ≤ t.m ∧ Below w.heap.size w z.2 ∧ ∀ k, k < z.1 → t.fails k (t.plan i) = none) (fun z => t.m - z.1) (0, w) ⟨Nat.zero_le _, Below.refl _ _, fun k h => absurd h (by simp)⟩ ZZSUB (fun _ h => h) ?_
  rintro ⟨k, W⟩ ⟨hk, hB, hno⟩
  simp only at hk hB hno
  simp only [ctkC]
  dsimp only [List.cons_append, List.nil_append]
  repeat (first | (refine M0 ?_; first | refine SL ?_ | refine SB fun _ _ => ?_) | (refine M1 ?_; refine SC ?_) | (refine M2 ?_; refine SE ?_))
  refine XC.cond _ rfl (fun h2 => ?_) (fun h2 => ?_)
  rotate_left
  · have hkm : k = t.m := by have := of_decide_eq_false h2; omega
    subst hkm
    obtain ⟨e1, e2⟩ := wit_0 hno
    rw [e1, e2]
    repeat (first | (refine M0 ?_; first | refine SL ?_ | refine SB fun _ _ => ?_) | (refine M1 ?_; refine SC ?_) | (refine M2 ?_; refine SE ?_))
    refine XE.retg tok Tryz.results53 rfl (by simp only [and_self, and_true]) (fun w' S => ?_)
    exact ⟨rfl, hB.trans S.toBelow⟩
  have hkm : k < t.m := by have := of_decide_eq_true h2; omega
  repeat (first | (refine M0 ?_; first | refine SL ?_ | refine SB fun _ _ => ?_ | refine Y4 (Ev.call (f := 37) (ck rfl) rfl (fun w5 S5 => hfr w5 (hB.trans S5.toBelow))) ?_) | (refine M1 ?_; refine SC ?_) | (refine M2 ?_; refine SE ?_))
  refine XC.loopk [1, 2, 4, 6] rfl (fun z : Nat × World => [(7, .int .i64 (t.from_ + ((z.1 : Nat) : Int)))]) (fun _ => [(g4, cel 70 [.int .i64 0, .int .i64 0]), (g2, cel 29 (ctkC ⟨vp, vf, ⟨Ah, t.m, ch⟩, vr⟩ t))]) (fun z => z.2) (fun z => z.1 ≤ t.n ∧ Below w.heap.size w z.2 ∧ ∀ j, j < z.1 → t.above k (t.plan i) j = false) (fun z => t.n - z.1) (0, W) ⟨Nat.zero_le _, hB, fun j h => absurd h (by simp)⟩ (Sub.cons (by show some _ = some _; rw [show t.from_ + ((0 : Nat) : Int) = t.from_ from by omega]) ZZSUB) (fun _ h => h) ?_
  rintro ⟨j, W2⟩ ⟨hj, hB2, hnj⟩
  simp only at hj hB2 hnj
  simp only [ctkC]
  dsimp only [List.cons_append, List.nil_append]
  repeat (first | (refine M0 ?_; first | refine SL ?_ | refine SB fun _ _ => ?_ | refine Y4 (Ev.call (f := 36) (ck rfl) rfl (fun w5 S5 => hen w5 (hB2.trans S5.toBelow))) ?_) | (refine M1 ?_; refine SC ?_) | (refine M2 ?_; refine SE ?_))
  refine XC.cond _ rfl (fun h3 => ?_) (fun h3 => ?_)
  rotate_left
  · have hjn : j = t.n := by have := of_decide_eq_false h3; omega
    subst hjn
    repeat (first | (refine M0 ?_; first | refine SL ?_ | refine SB fun _ _ => ?_) | (refine M1 ?_; refine SC ?_) | (refine M2 ?_; refine SE ?_))
    exact XE.roundW (s := (k, W)) (fun w9 S9 => ⟨(k + 1, w9), ⟨hkm, hB2.trans S9.toBelow, fun k' h => by
      rcases Nat.lt_succ_iff_lt_or_eq.1 h with h | rfl
      · exact hno k' h
      · exact firstB_none.2 hnj⟩, by simp only; omega, ZZSUB, S9.rebase ZZSM⟩)
  have hjn : j < t.n := by have := of_decide_eq_true h3; omega
  have hrl := hrl k j
  simp only [rules_in hkm hjn] at hrl
  cases hb : t.above k (t.plan i) j with
  | true =>
    simp only [hb] at hrl
    obtain ⟨e1, e2⟩ := wit_at hkm hno (firstB_some.2 ⟨hjn, hb, hnj⟩)
    rw [e1, e2]
    repeat (first | (refine M0 ?_; first | refine SL ?_ | refine SB fun _ _ => ?_ | refine Y4 (Ev.call (f := 71) (ck rfl) rfl (fun w5 S5 => hrl w5 (hB2.trans S5.toBelow))) ?_) | (refine M1 ?_; refine SC ?_) | (refine M2 ?_; refine SE ?_))
    refine XE.retg tok Tryz.results53 rfl (by simp only [and_self, and_true]) (fun w' S => ?_)
    exact ⟨rfl, hB2.trans S.toBelow⟩
  | false =>
    simp only [hb] at hrl
    repeat (first | (refine M0 ?_; first | refine SL ?_ | refine SB fun _ _ => ?_ | refine Y4 (Ev.call (f := 71) (ck rfl) rfl (fun w5 S5 => hrl w5 (hB2.trans S5.toBelow))) ?_) | (refine M1 ?_; refine SC ?_) | (refine M2 ?_; refine SE ?_))
    exact XE.roundW (s := (j, W2)) (fun w9 S9 => ⟨(j + 1, w9), ⟨hjn, hB2.trans S9.toBelow, fun j' h => by
      rcases Nat.lt_succ_iff_lt_or_eq.1 h with h | rfl
      · exact hnj j' h
      · exact hb⟩, by simp only; omega, Sub.cons (by show some _ = some _; rw [show t.from_ + ((j + 1 : Nat) : Int) = t.from_ + (j : Int) + 1 from by omega]) ZZSUB, S9.rebase ZZSM⟩)
end
end Go.Proofs.YtmpaiphakjogjaaGreat.X
/-
  The walk of the document's Decide (closure).
-/
namespace Go.Proofs.YtmpaiphakjogjaaGreat.Bs
open Go Go.Proofs.YtmpaiphakjogjaaGreat.X
set_option linter.unusedVariables false
theorem allowed_i {t : CTk} {r : CRu} {i : Nat} (hi : i < t.n) : t.allowed r (t.from_ + (i : Int)) = t.may r (i : Nat) := by
  unfold CTk.allowed
  rw [outB_f.2 ⟨by omega, by omega⟩, show t.from_ + (i : Int) - t.from_ = (i : Int) by omega]
  rfl
end Go.Proofs.YtmpaiphakjogjaaGreat.Bs
namespace Go.Proofs.YtmpaiphakjogjaaGreat.X
open Go Go.RowKit Go.Proofs.YtmpaiphakjogjaaGreat.Bs
set_option linter.unusedVariables false
section
variable {v : CTV} {t : CTk} {w : World}
set_option maxHeartbeats 16000000 in
theorem refDecide5_made {r : CRu} (hT : CtAt w w.heap.size v t) :
    Calls Tryz.prog 15 #[ctkV v t, ruV r] w (Made w (DecR t r)) := by
  have hru := fun (w5 : World) (hB : Below w.heap.size w w5) => ruled5_any (r := r) (hT.sys (Sys.ofBelow hB))
  have hne := fun (w5 : World) => rnever5_any w5
  have hca := fun (ho : CtOk t) (w5 : World) (hB : Below w.heap.size w w5) => rcalled5_any (r := r) (hT.sys (Sys.ofBelow hB)) ho
  have hfr := fun (ho : CtOk t) (w5 : World) (hB : Below w.heap.size w w5) => from5_any (hT.sys (Sys.ofBelow hB)) ho
  have hen := fun (ho : CtOk t) (w5 : World) (hB : Below w.heap.size w w5) => end5_any (hT.sys (Sys.ofBelow hB)) ho
  have hpl := fun (ho : CtOk t) (tick i : Int) (hb : 0 ≤ tick ∧ tick ≤ 300000) (he : tick - t.from_ = i) (w5 : World) (hB : Below w.heap.size w w5) => he ▸ refplan_any (i := tick) (hT.sys (Sys.ofBelow hB)) ho hb
  have hwi := fun (ho : CtOk t) (tick i : Int) (h0 : 0 ≤ i) (h1 : i ≤ t.last) (htk : tick = t.from_ + i) (w5 : World) (hB : Below w.heap.size w w5) => witness5_any (hT.sys (Sys.ofBelow hB)) ho h0 h1 htk
  have hal := fun (ho : CtOk t) (hq : RuOk r) (tick : Int) (w5 : World) (hB : Below w.heap.size w w5) => rallowed5_any (r := r) (tick := tick) (hT.sys (Sys.ofBelow hB)) ho hq
  have hpk := fun (ho : CtOk t) (p : CPl) (hp : t.strange p = false) (w5 : World) (hB : Below w.heap.size w w5) => peaks5_made (p := p) (hT.sys (Sys.ofBelow hB)) ho hp
  have hhn := hT.hn
  obtain ⟨vp, vf, ⟨Ah, nh, ch⟩, vr⟩ := v
  simp only at hhn
  subst hhn
  simp only [ctkV, ctkC, ruV, plnV, iiV] at hru hca hfr hen hpl hwi hal hpk ⊢
  refine enter Tryz.func15 rfl Tryz.ntmps15 rfl ?_; simp only [frame, Nat.zero_add, Nat.reduceAdd]
  repeat (first | (refine M0 ?_; first | refine SL ?_ | refine SB fun _ _ => ?_ | refine Y4 (Ev.call (f := 43) (ck rfl) rfl (fun w5 S5 => hru w5 S5.toBelow)) ?_) | (refine M1 ?_; refine SC ?_) | (refine M2 ?_; refine SE ?_))
  rename_i g2 hg2 g3 hg3 g4 hg4
  by_cases hc : ruE t r = 0
  rotate_left
  · rw [show decide (ruE t r ≠ 0) = true from decide_eq_true hc]
    repeat (first | (refine M0 ?_; first | refine SL ?_ | refine SB fun _ _ => ?_) | (refine M1 ?_; refine SC ?_) | (refine M2 ?_; refine SE ?_))
    refine XE.retg tok Tryz.results15 rfl (by simp only [and_self, and_true]) (fun w' S => ?_)
    obtain ⟨d1, d2⟩ := dec_ru hc
    exact decZ d1 d2 S.toBelow
  obtain ⟨hc0, ho, hq⟩ := ruE_0 hc
  have h60 := ho.n60
  have h1n := ho.n1
  have hm8 := ho.m8
  have hfm := ho.frm
  have hdl := ho.dly
  have hll : -31 ≤ t.last ∧ t.last ≤ 60 := by unfold CTk.last; omega
  have hln : t.last < t.n := by unfold CTk.last; omega
  rw [show decide (ruE t r ≠ 0) = false from decide_eq_false (fun h => h hc)]
  have hca := hca ho
  have hle : w.heap.size ≤ w.heap.size := Nat.le_refl _
  have hB0 := Below.refl w.heap.size w
  cases hcl : t.called r with
  | false =>
    simp only [hcl] at hca
    obtain ⟨d1, d2⟩ := dec_0 hc hcl
    have hpk := hpk ho nev (nev_ok t)
    repeat (first | (refine M0 ?_; first | refine SL ?_ | refine SB fun _ _ => ?_ | refine Y4 (Ev.call (f := 50) (ck rfl) rfl (fun w5 S5 => hca w5 S5.toBelow)) ?_) | (refine M1 ?_; refine SC ?_) | (refine M2 ?_; refine SE ?_))
    refine XC.drawRS (trunc w w.heap.size) [(g2, cel 29 (ctkC ⟨vp, vf, ⟨Ah, t.m, ch⟩, vr⟩ t))] [1] [0, 2, 3, 4, 5, 6] mixed (fun _ h => Sys.anchorT hB0 h (fun e he => by rw [List.mem_singleton.1 he]; exact .tail _ (.tail _ (.head _))) (by simp) hle) rfl (by kernel_rfl) ?_
    simp only [ctkC]
    repeat (any_goals (first | (refine M0 ?_; first | refine SL ?_ | refine SB fun _ _ => ?_ | refine Y4 (Ev.load_loc_agg tok 0 (g := g2) (o := 0) rfl rfl rfl rfl) ?_ | refine Y4 (Ev.call (f := 51) (ck rfl) rfl (fun w5 S5 => hne w5)) ?_ | (refine XL.at_call 52 ?_; refine XL.callF (ks := []) (rs := []) (hs := []) (b0 := w.heap.size) (wE := w) (PksX t nev) (ck rfl) rfl rfl (Fam.start (Nat.le_refl w.heap.size)) (fun _ h => by cases h) (Below.refl w.heap.size w) (fun w1 S1 _ hB1 => hpk w1 hB1) (fun w1 x new hR hF1 hB1 hk1 => ?_) ZZHL; obtain ⟨⟨qA, qn, qc⟩, rfl, rfl⟩ := hR; simp only [svV]) | refine XL.store tok 0 (g := g4) (o := 0) (cs := [.int .i64 0, .int .i64 0, .slice none 0 0, .slice none 0 0]) rfl rfl rfl rfl (.inr rfl) rfl rfl rfl ?_) | (refine M1 ?_; refine SC ?_) | (refine M2 ?_; first | refine SE ?_ | ((with_reducible refine atHeld ?_); refine z7 ?_)) | (refine M3 ?_; first | refine SG ?_ | refine SF ?_ | refine YF (Ev.load_loc_agg tok 0 (g := g2) (o := 0) rfl rfl rfl rfl) ?_ | refine YF (Ev.call (f := 51) (ck rfl) rfl (fun w5 S5 => hne w5)) ?_) | (refine M4 ?_; refine SRV ?_) | (refine M5 ?_; first | exact M7 | refine YM ?_ | refine YN ?_ ?_)))
    any_goals (repeat (first | exact AnyR.nil | refine AnyR.skip rfl ?_))
    all_goals
      repeat (first | (refine M0 ?_; first | refine SL ?_ | refine SB fun _ _ => ?_) | (refine M1 ?_; refine SC ?_) | (refine M2 ?_; refine SE ?_))
      refine XE.retg tok Tryz.results15 rfl (by simp only [and_self, and_true]) (fun w' S => ?_)
      refine ⟨_, _, rfl, ⟨⟨qA, qn, qc⟩, ⟨none, 0, 0⟩, by rw [d1, d2]; rfl, rfl⟩, fun x hx => ?_, hB1.trans S.toBelow⟩
      rw [d2] at hx
      simp only [List.mem_cons, List.not_mem_nil, or_false] at hx
      rcases hx with rfl | rfl
      · exact (hF1.sys S ZZHL).get (x := hList pekK5 ⟨qA, qn, qc⟩ (t.peaks nev)) (.head _)
      · exact ListAt.nil
  | true =>
  simp only [hcl] at hca
  have hen := hen ho
  have hfr := hfr ho
  repeat (first | (refine M0 ?_; first | refine SL ?_ | refine SB fun _ _ => ?_ | refine Y4 (Ev.call (f := 50) (ck rfl) rfl (fun w5 S5 => hca w5 S5.toBelow)) ?_) | (refine M1 ?_; refine SC ?_) | (refine M2 ?_; refine SE ?_))
  refine XC.drawT mixed rfl rfl (by kernel_rfl) ?_
  repeat (first | (refine M0 ?_; first | refine SL ?_ | refine SB fun _ _ => ?_ | refine Y4 (Ev.call (f := 36) (ck rfl) rfl (fun w5 S5 => hen w5 S5.toBelow)) ?_) | (refine M2 ?_; refine SE ?_) | (refine M3 ?_; first | refine SG ?_ | refine SF ?_ | refine YF (Ev.call (f := 36) (ck rfl) rfl (fun w5 S5 => hen w5 S5.toBelow)) ?_) | (refine M4 ?_; refine SRV ?_) | (refine M5 ?_; first | exact M7 | refine YM ?_ | refine YN ?_ ?_))
  repeat (first | (refine M0 ?_; first | refine SL ?_ | refine SB fun _ _ => ?_) | (refine M1 ?_; refine SC ?_) | (refine M2 ?_; refine SE ?_))
  refine XC.rebase (List.Sublist.refl _) (fun W0 S0 => ?_)
  have hF0 : Fam W0 w.heap.size [g4, g3, g2] [] [hList wtnK5 ⟨none, 0, 0⟩ (t.laN 0)] := (Fam.start S0.size).hold (ok := fun _ => False) (x := hList wtnK5 ⟨none, 0, 0⟩ (t.laN 0)) ListAt.nil (fun _ h => h.elim)
  have hks0 : ∀ x, x ∈ [g4, g3, g2] → x < W0.heap.size := fun x hx => S0.keyLt x hx
  refine XC.loopk [2, 3, 4] rfl (fun z : Nat × World × SV => [(7, svV z.2.2), (8, .int .i64 (t.from_ + t.last - (z.1 : Int)))]) (fun _ => [(g4, cel 46 [.int .i64 0, .int .i64 0, .slice none 0 0, .slice none 0 0]), (g3, cel 31 [.int .i64 r.count, .int .i64 r.early]), (g2, cel 29 (ctkC ⟨vp, vf, ⟨Ah, t.m, ch⟩, vr⟩ t))]) (fun z => z.2.1)
    (fun z => z.1 ≤ t.beg ∧ Below w.heap.size w z.2.1 ∧ Fam z.2.1 w.heap.size [g4, g3, g2] [] [hList wtnK5 z.2.2 (t.laN z.1)] ∧ (∀ x, x ∈ [g4, g3, g2] → x < z.2.1.heap.size) ∧ ∀ j : Nat, t.last - (z.1 : Int) < (j : Int) → j < t.beg → t.wit (j : Nat) ≠ none) (fun z => t.beg - z.1) (0, W0, ⟨none, 0, 0⟩) ⟨Nat.zero_le _, S0.toBelow, hF0, hks0, fun j h1 h2 => by have := beg_lt.1 h2; omega⟩ (Sub.cons rfl (Sub.cons (by show some _ = some _; rw [show t.from_ + t.last - ((0 : Nat) : Int) = t.from_ + (t.n : Int) - 1 - t.delay from by unfold CTk.last; omega]) ZZSUB)) (fun _ h => h) ?_
  rintro ⟨d, W, ⟨qA, qn, qc⟩⟩ ⟨hd, hB, hF, hks, hno⟩
  simp only at hd hB hF hks hno
  simp only [svV, ctkC]
  dsimp only [List.cons_append, List.nil_append]
  repeat (first | (refine M0 ?_; first | refine SL ?_ | refine SB fun _ _ => ?_ | refine Y4 (Ev.call (f := 37) (ck rfl) rfl (fun w5 S5 => hfr w5 (hB.trans S5.toBelow))) ?_) | (refine M1 ?_; refine SC ?_) | (refine M2 ?_; refine SE ?_))
  refine XC.cond _ rfl (fun h2 => ?_) (fun h2 => ?_)
  rotate_left
  · have hin := of_decide_eq_false h2
    have hlo : t.lastOk = none := lastB_none.2 fun j hj => by
      cases hz : t.wit (j : Nat) with
      | none => exact absurd hz (hno j (by omega) hj)
      | some y => rfl
    obtain ⟨d1, d2⟩ := dec_none hc hcl hlo
    repeat (first | (refine M0 ?_; first | refine SL ?_ | refine SB fun _ _ => ?_) | (refine M1 ?_; refine SC ?_) | (refine M2 ?_; refine SE ?_))
    refine XE.retg tok Tryz.results15 rfl (by simp only [and_self, and_true]) (fun w' S => ?_)
    exact decZ d1 d2 (hB.trans S.toBelow)
  have hin := of_decide_eq_true h2
  obtain ⟨i, hi⟩ : ∃ i : Nat, t.last - (d : Int) = (i : Int) := ⟨(t.last - (d : Int)).toNat, by omega⟩
  have hib : i < t.beg := beg_lt.2 (by omega)
  have hdb : d < t.beg := beg_lt.2 (by omega)
  have hdi : d = t.beg - 1 - i := by unfold CTk.beg at hdb ⊢; omega
  have hil : (i : Int) ≤ t.last := beg_lt.1 hib
  have hpl := hpl ho (t.from_ + t.last - (d : Int)) (i : Int) ⟨by omega, by omega⟩ (by omega)
  have hwi := hwi ho (t.from_ + t.last - (d : Int)) (i : Int) (by omega) hil (by omega)
  have hal := hal ho hq (t.from_ + t.last - (d : Int))
  simp only [show t.allowed r (t.from_ + t.last - (d : Int)) = t.may r (i : Nat) from by rw [show t.from_ + t.last - (d : Int) = t.from_ + (i : Int) by omega]; exact allowed_i (by omega)] at hal
  have hst : t.strange (t.plan (i : Nat)) = false := (plan_ok ho (Int.natCast_nonneg i) hil).1
  cases hwt : t.wit (i : Nat) with
  | none =>
    have hlo : t.lastOk = some i := lastOk_some.2 ⟨hil, hwt, fun j h3 h4 => hno j (by omega) (beg_lt.2 h4)⟩
    obtain ⟨d1, d2⟩ := dec_some hc hcl hlo
    simp only [hwt, Option.isSome_none] at hwi
    cases hmy : t.may r (i : Nat) with
    | false =>
      rw [hmy] at d1 d2
      simp only [hmy] at hal
      repeat (first | (refine M0 ?_; first | refine SL ?_ | refine SB fun _ _ => ?_ | refine Y4 (Ev.call (f := 39) (ck rfl) rfl (fun w5 S5 => hpl w5 (hB.trans S5.toBelow))) ?_ | refine Y4 (Ev.call (f := 53) (ck rfl) rfl (fun w5 S5 => hwi w5 (hB.trans S5.toBelow))) ?_ | refine Y4 (Ev.call (f := 44) (ck rfl) rfl (fun w5 S5 => hal w5 (hB.trans S5.toBelow))) ?_) | (refine M1 ?_; refine SC ?_) | (refine M2 ?_; refine SE ?_))
      refine XE.retg tok Tryz.results15 rfl (by simp only [and_self, and_true]) (fun w' S => ?_)
      exact decZ d1 d2 (hB.trans S.toBelow)
    | true =>
      rw [hmy] at d1 d2
      simp only [hmy] at hal
      repeat (first | (refine M0 ?_; first | refine SL ?_ | refine SB fun _ _ => ?_ | refine Y4 (Ev.call (f := 39) (ck rfl) rfl (fun w5 S5 => hpl w5 (hB.trans S5.toBelow))) ?_ | refine Y4 (Ev.call (f := 53) (ck rfl) rfl (fun w5 S5 => hwi w5 (hB.trans S5.toBelow))) ?_ | refine Y4 (Ev.call (f := 44) (ck rfl) rfl (fun w5 S5 => hal w5 (hB.trans S5.toBelow))) ?_) | (refine M1 ?_; refine SC ?_) | (refine M2 ?_; refine SE ?_))
      rename_i g9 hg9 g10 hg10
      have hpk := hpk ho (t.plan (i : Nat)) hst
      have l2 := hks g2 (by simp)
      refine XC.drawRS (trunc w w.heap.size) [(g9, cel 42 [.int .i64 (t.plan (i : Nat)).close, .int .i64 (t.plan (i : Nat)).open_]), (g2, cel 29 (ctkC ⟨vp, vf, ⟨Ah, t.m, ch⟩, vr⟩ t))] [0, 1, 2, 4] [3, 5, 6, 7] mixed (fun _ h => Sys.anchorT hB h (by intro e he; repeat (first | (cases he; done) | (rcases List.mem_cons.1 he with rfl | he; · repeat (first | exact List.mem_cons_self | apply List.mem_cons_of_mem)))) (by simp; omega) hle) rfl (by kernel_rfl) ?_
      simp only [ctkC]
      repeat (any_goals (first | (refine M0 ?_; first | refine SL ?_ | refine SB fun _ _ => ?_ | refine Y4 (Ev.load_loc_agg tok 0 (g := g9) (o := 0) rfl rfl rfl rfl) ?_ | refine Y4 (Ev.load_loc_agg tok 1 (g := g2) (o := 0) rfl rfl rfl rfl) ?_ | (refine XL.at_call 52 ?_; refine XL.callF (wE := w) (PksX t (t.plan (i : Nat))) (ck rfl) rfl rfl hF hks hB (fun w1 S1 _ hB1 => hpk w1 hB1) (fun w1 x new hR hF1 hB1 hk1 => ?_) ZZHL; obtain ⟨⟨pA, pn, pc⟩, rfl, rfl⟩ := hR; simp only [svV]) | refine XL.store tok 2 (g := g4) (o := 0) (cs := [.int .i64 0, .int .i64 0, .slice none 0 0, .slice none 0 0]) rfl rfl rfl rfl (.inr rfl) rfl rfl rfl ?_) | (refine M1 ?_; refine SC ?_) | (refine M2 ?_; first | refine SE ?_ | ((with_reducible refine atHeld ?_); refine z7 ?_)) | (refine M3 ?_; first | refine SG ?_ | refine SF ?_ | refine YF (Ev.load_loc_agg tok 0 (g := g9) (o := 0) rfl rfl rfl rfl) ?_ | refine YF (Ev.load_loc_agg tok 1 (g := g2) (o := 0) rfl rfl rfl rfl) ?_) | (refine M4 ?_; refine SRV ?_) | (refine M5 ?_; first | exact M7 | refine YM ?_ | refine YN ?_ ?_)))
      any_goals (repeat (first | exact AnyR.nil | refine AnyR.skip rfl ?_))
      repeat (first | (refine M0 ?_; first | refine SL ?_ | refine SB fun _ _ => ?_) | (refine M1 ?_; refine SC ?_) | (refine M2 ?_; refine SE ?_))
      refine XE.retg tok Tryz.results15 rfl (by simp only [and_self, and_true]) (fun w' S => ?_)
      refine ⟨_, _, rfl, ⟨⟨pA, pn, pc⟩, ⟨qA, qn, qc⟩, by rw [d1, d2]; rfl, rfl⟩, fun x hx => ?_, hB1.trans S.toBelow⟩
      rw [d2, if_pos rfl] at hx
      simp only [← laN_later hib, ← hdi] at hx
      have hF9 := hF1.sys S ZZHL
      rcases List.mem_cons.1 hx with rfl | hx
      · exact hF9.get (.head _)
      · rw [List.mem_singleton.1 hx]
        exact hF9.get (.tail _ (.head _))
  | some y =>
    simp only [hwt, Option.isSome_some] at hwi
    repeat (first | (refine M0 ?_; first | refine SL ?_ | refine SB fun _ _ => ?_ | refine Y4 (Ev.call (f := 39) (ck rfl) rfl (fun w5 S5 => hpl w5 (hB.trans S5.toBelow))) ?_ | refine Y4 (Ev.call (f := 53) (ck rfl) rfl (fun w5 S5 => hwi w5 (hB.trans S5.toBelow))) ?_) | (refine M1 ?_; refine SC ?_) | (refine M2 ?_; refine SE ?_))
    refine XL.newRow tok (K := wtnK5) (l := [t.witC (i : Nat)]) (wE := w) rfl rfl rfl rfl rfl rfl rfl rfl rfl ⟨rfl, rfl⟩ rfl rfl hF hks hB hB.size (fun a ha x hx => by cases hx) (fun w7 g7 hF7 hB7 hk7 => ?_) ZZHL
    repeat (first | (refine M0 ?_; first | refine SL ?_ | refine SB fun _ _ => ?_) | (refine M1 ?_; refine SC ?_) | (refine M2 ?_; refine SE ?_))
    refine XL.pushL (K := wtnK5) (l := [t.witC (i : Nat)]) (l2 := t.laN d) (r2 := ⟨qA, qn, qc⟩) (wE := w) 0 wtn5_el (by decide) rfl rfl rfl hF7 rfl hk7 hB7 (Nat.le_refl _) (fun w9 S9 => Held.lt (x := hList wtnK5 ⟨qA, qn, qc⟩ (t.laN d)) ((hF7.sys S9 ZZHL).get (.head _))) (fun a ha x hx => by cases hx) (fun a => rfl) (by rw [laN_len, List.length_singleton]; have := beg_le ho; omega) (by decide) (fun w8 v8 hF8 hB8 hk8 => ?_) ZZHL
    simp only [List.set_cons_zero, List.singleton_append] at hF8
    obtain ⟨⟨r8A, r8n, r8c⟩, rfl, hr8⟩ := hF8.sv (K := wtnK5) (l := t.witC (i : Nat) :: t.laN d) (.head _)
    have hF8 := hF8.freeze
    rw [show t.witC ((i : Nat) : Int) :: t.laN d = t.laN (d + 1) from by rw [← laN_cons hdb, show t.beg - 1 - d = i from by omega]] at hF8
    simp only [svV]
    repeat (first | (refine M0 ?_; first | refine SL ?_ | refine SB fun _ _ => ?_) | (refine M1 ?_; refine SC ?_) | (refine M2 ?_; refine SE ?_))
    exact XE.roundW (s := (d, W, ⟨qA, qn, qc⟩)) (fun w9 S9 => ⟨(d + 1, w9, ⟨r8A, r8n, r8c⟩), ⟨hdb, hB8.trans S9.toBelow, Fam.forget ((hF8.sys S9 ZZHL).add (fun x hx => .inl (List.mem_append_right _ (List.mem_append_right _ hx)))) (fun x hx => by rw [List.mem_singleton.1 hx]; exact .head _), fun x hx => Nat.lt_of_lt_of_le (hk8 x (List.mem_append_right _ (List.mem_append_right _ hx))) S9.size, fun j h1 h3 => by
      by_cases hj : j = i
      · subst hj; rw [hwt]; simp
      · exact hno j (by omega) h3⟩, by simp only; omega, (Sub.cons rfl (Sub.cons (by show some _ = some _; rw [show t.from_ + t.last - ((d + 1 : Nat) : Int) = t.from_ + t.last - (d : Int) - 1 from by omega]) ZZSUB)), S9.rebase ZZSM⟩)
end
end Go.Proofs.YtmpaiphakjogjaaGreat.X
/-
  The walk of the document's Same (closure).
-/
namespace Go.Proofs.YtmpaiphakjogjaaGreat.X
open Go Go.RowKit Go.Proofs.YtmpaiphakjogjaaGreat.Bs
set_option linter.unusedVariables false
section
variable {w : World}
set_option maxHeartbeats 8000000 in
theorem Same5_any {q1 q2 q3 q4 : SV} {d : CDe} (hL1 : ListAt pekK5 w (Lt w.heap.size) q1 d.peaks) (hL2 : ListAt wtnK5 w (Lt w.heap.size) q2 d.later) (hL3 : ListAt pekK5 w (Lt w.heap.size) q3 d.peaks) (hL4 : ListAt wtnK5 w (Lt w.heap.size) q4 d.later) :
    Calls Tryz.prog 16 #[decV q1 q2 d, decV q3 q4 d] w fun e w' => e = .returned (.bool true) ∧ Below w.heap.size w w' := by
  have hn1 := hL1.len (by decide)
  have hn2 := hL2.len (by decide)
  have hn3 := hL3.len (by decide)
  have hn4 := hL4.len (by decide)
  have hx1 := hL1.max
  have hx2 := hL2.max
  obtain ⟨q1A, q1n, q1c⟩ := q1
  obtain ⟨q2A, q2n, q2c⟩ := q2
  obtain ⟨q3A, q3n, q3c⟩ := q3
  obtain ⟨q4A, q4n, q4c⟩ := q4
  simp only at hn1 hn2 hn3 hn4 hx1 hx2
  subst hn1 hn2 hn3 hn4
  obtain ⟨⟨c, o⟩, l1, l2⟩ := d
  simp only at hL1 hL2 hL3 hL4 hx1 hx2
  simp only [decV, decC, svV]
  refine enter Tryz.func16 rfl Tryz.ntmps16 rfl ?_; simp only [frame, Nat.zero_add, Nat.reduceAdd]
  repeat (first | (refine M0 ?_; first | refine SL ?_ | refine SB fun _ _ => ?_ | refine Y4 (Ev.plnNeq rfl rfl) ?_) | (refine M1 ?_; refine SC ?_) | (refine M2 ?_; refine SE ?_))
  rename_i g2 hg2 g3 hg3
  rw [show (!(decide (c = c) && decide (o = o))) = false from by simp]
  repeat (first | (refine M0 ?_; first | refine SL ?_ | refine SB fun _ _ => ?_) | (refine M1 ?_; refine SC ?_) | (refine M2 ?_; refine SE ?_))
  rw [show decide ((l1.length : Int) ≠ (l1.length : Int)) = false from decide_eq_false (fun h => h rfl)]
  repeat (first | (refine M0 ?_; first | refine SL ?_ | refine SB fun _ _ => ?_) | (refine M1 ?_; refine SC ?_) | (refine M2 ?_; refine SE ?_))
  rw [show decide ((l2.length : Int) ≠ (l2.length : Int)) = false from decide_eq_false (fun h => h rfl)]
  repeat (first | (refine M0 ?_; first | refine SL ?_ | refine SB fun _ _ => ?_) | (refine M1 ?_; refine SC ?_) | (refine M2 ?_; refine SE ?_))
  refine XC.loopk [2, 3] rfl (fun i : Nat => [(5, .int .i64 (i : Nat))]) (fun _ => [(g3, cel 46 [.int .i64 c, .int .i64 o, .slice q3A l1.length q3c, .slice q4A l2.length q4c]), (g2, cel 46 [.int .i64 c, .int .i64 o, .slice q1A l1.length q1c, .slice q2A l2.length q2c])]) (fun _ => w) (fun i => i ≤ l1.length) (fun i => l1.length - i) 0 (Nat.zero_le _) ZZSUB (fun _ h => h) ?_
  intro i hi
  dsimp only [List.cons_append, List.nil_append]
  repeat (first | (refine M0 ?_; first | refine SL ?_ | refine SB fun _ _ => ?_) | (refine M1 ?_; refine SC ?_) | (refine M2 ?_; refine SE ?_))
  refine XC.cond _ rfl (fun h1 => ?_) (fun h1 => ?_)
  · have hil : i < l1.length := by have := of_decide_eq_true h1; omega
    obtain ⟨a1, rfl, hlt1⟩ := hL1.addr (by decide) (by omega)
    obtain ⟨a3, rfl, hlt3⟩ := hL3.addr (by decide) (by omega)
    obtain ⟨⟨pa, pb⟩, hpe⟩ : ∃ x, l1[i]? = some x := ⟨_, List.getElem?_eq_getElem hil⟩
    have he1 := hL1.elem hpe
    have he3 := hL3.elem hpe
    repeat (first | (refine M0 ?_; first | refine SL ?_ | refine SB fun _ _ => ?_) | (refine M1 ?_; refine SC ?_) | (refine M2 ?_; refine SE ?_))
    refine XC.drawT mixed rfl rfl (by kernel_rfl) ?_
    repeat (first | (refine M0 ?_; first | refine SL ?_ | refine SB fun _ _ => ?_ | refine Y4 (Ev.load_old_agg tok [.int .i64 pa, .int .i64 pb] rfl rfl rfl (add_lt hlt1) he1) ?_ | refine Y4 (Ev.load_old_agg tok [.int .i64 pa, .int .i64 pb] rfl rfl rfl (add_lt hlt3) he3) ?_ | refine Y4 (Ev.pekNeq rfl rfl) ?_) | (refine M2 ?_; refine SE ?_) | (refine M3 ?_; first | refine SG ?_ | refine SF ?_ | refine YF (Ev.load_old_agg tok [.int .i64 pa, .int .i64 pb] rfl rfl rfl (add_lt hlt1) he1) ?_ | refine YF (Ev.load_old_agg tok [.int .i64 pa, .int .i64 pb] rfl rfl rfl (add_lt hlt3) he3) ?_ | refine YF (Ev.pekNeq rfl rfl) ?_) | (refine M4 ?_; refine SR ?_) | (refine M5 ?_; first | exact M7 | refine YM ?_ | refine YN ?_ ?_))
    rw [show (!(decide (pa = pa) && decide (pb = pb))) = false from by simp]
    repeat (first | (refine M0 ?_; first | refine SL ?_ | refine SB fun _ _ => ?_) | (refine M1 ?_; refine SC ?_) | (refine M2 ?_; refine SE ?_))
    exact XE.round (s := i) (i + 1) hil (by omega) ZZSUB (fun _ h => h)
  repeat (first | (refine M0 ?_; first | refine SL ?_ | refine SB fun _ _ => ?_) | (refine M1 ?_; refine SC ?_) | (refine M2 ?_; refine SE ?_))
  refine XC.loopk [2, 3] rfl (fun i : Nat => [(6, .int .i64 (i : Nat))]) (fun _ => [(g3, cel 46 [.int .i64 c, .int .i64 o, .slice q3A l1.length q3c, .slice q4A l2.length q4c]), (g2, cel 46 [.int .i64 c, .int .i64 o, .slice q1A l1.length q1c, .slice q2A l2.length q2c])]) (fun _ => w) (fun i => i ≤ l2.length) (fun i => l2.length - i) 0 (Nat.zero_le _) ZZSUB (fun _ h => h) ?_
  intro k hk
  dsimp only [List.cons_append, List.nil_append]
  repeat (first | (refine M0 ?_; first | refine SL ?_ | refine SB fun _ _ => ?_) | (refine M1 ?_; refine SC ?_) | (refine M2 ?_; refine SE ?_))
  refine XC.cond _ rfl (fun h2 => ?_) (fun h2 => ?_)
  · have hkl : k < l2.length := by have := of_decide_eq_true h2; omega
    obtain ⟨a2, rfl, hlt2⟩ := hL2.addr (by decide) (by omega)
    obtain ⟨a4, rfl, hlt4⟩ := hL4.addr (by decide) (by omega)
    obtain ⟨⟨pa, pb⟩, hpe⟩ : ∃ x, l2[k]? = some x := ⟨_, List.getElem?_eq_getElem hkl⟩
    have he2 := hL2.elem hpe
    have he4 := hL4.elem hpe
    repeat (first | (refine M0 ?_; first | refine SL ?_ | refine SB fun _ _ => ?_) | (refine M1 ?_; refine SC ?_) | (refine M2 ?_; refine SE ?_))
    refine XC.drawT mixed rfl rfl (by kernel_rfl) ?_
    repeat (first | (refine M0 ?_; first | refine SL ?_ | refine SB fun _ _ => ?_ | refine Y4 (Ev.load_old_agg tok [.int .i64 pa, .int .i64 pb] rfl rfl rfl (add_lt hlt2) he2) ?_ | refine Y4 (Ev.load_old_agg tok [.int .i64 pa, .int .i64 pb] rfl rfl rfl (add_lt hlt4) he4) ?_ | refine Y4 (Ev.wtnNeq rfl rfl) ?_) | (refine M2 ?_; refine SE ?_) | (refine M3 ?_; first | refine SG ?_ | refine SF ?_ | refine YF (Ev.load_old_agg tok [.int .i64 pa, .int .i64 pb] rfl rfl rfl (add_lt hlt2) he2) ?_ | refine YF (Ev.load_old_agg tok [.int .i64 pa, .int .i64 pb] rfl rfl rfl (add_lt hlt4) he4) ?_ | refine YF (Ev.wtnNeq rfl rfl) ?_) | (refine M4 ?_; refine SR ?_) | (refine M5 ?_; first | exact M7 | refine YM ?_ | refine YN ?_ ?_))
    rw [show (!(decide (pa = pa) && decide (pb = pb))) = false from by simp]
    repeat (first | (refine M0 ?_; first | refine SL ?_ | refine SB fun _ _ => ?_) | (refine M1 ?_; refine SC ?_) | (refine M2 ?_; refine SE ?_))
    exact XE.round (s := k) (k + 1) hkl (by omega) ZZSUB (fun _ h => h)
  repeat (first | (refine M0 ?_; first | refine SL ?_ | refine SB fun _ _ => ?_) | (refine M1 ?_; refine SC ?_) | (refine M2 ?_; refine SE ?_))
  refine XE.retg tok Tryz.results16 rfl (by simp only [and_self, and_true]) (fun w' S => ?_)
  exact ⟨rfl, S.toBelow⟩
end
end Go.Proofs.YtmpaiphakjogjaaGreat.X
/-
  The walk of the document's Best (closure).
-/
namespace Go.Proofs.YtmpaiphakjogjaaGreat.Bs
open Go Go.Proofs.YtmpaiphakjogjaaGreat.X
set_option linter.unusedVariables false
theorem bstTo_no {t : CTk} {r : CRu} {i : Nat} (h : t.may r (i : Nat) = false) : t.bstTo r (i + 1) = t.bstTo r i := by rw [CTk.bstTo, if_neg (by simp [h])]
theorem bstTo_new {t : CTk} {r : CRu} {i : Nat} (h : t.may r (i : Nat) = true) (hb : t.bstTo r i = none) : t.bstTo r (i + 1) = some i := by rw [CTk.bstTo, if_pos h, hb]
theorem bstTo_le {t : CTk} {r : CRu} {i j : Nat} (h : t.may r (i : Nat) = true) (hb : t.bstTo r i = some j) (hl : (t.notL (i : Nat)).length ≤ (t.notL (j : Nat)).length) : t.bstTo r (i + 1) = some i := by rw [CTk.bstTo, if_pos h, hb]; simp only; rw [if_pos hl]
theorem bstTo_gt {t : CTk} {r : CRu} {i j : Nat} (h : t.may r (i : Nat) = true) (hb : t.bstTo r i = some j) (hl : (t.notL (j : Nat)).length < (t.notL (i : Nat)).length) : t.bstTo r (i + 1) = some j := by rw [CTk.bstTo, if_pos h, hb]; simp only; rw [if_neg (by omega)]
end Go.Proofs.YtmpaiphakjogjaaGreat.Bs
namespace Go.Proofs.YtmpaiphakjogjaaGreat.X
open Go Go.RowKit Go.Proofs.YtmpaiphakjogjaaGreat.Bs
set_option linter.unusedVariables false
noncomputable def bstMo (t : CTk) (b : Option (Nat × SV)) : Int := match b with | none => -1 | some x => (t.m : Int) - ((t.notL (x.1 : Nat)).length : Nat)
noncomputable def bstA (t : CTk) (b : Option (Nat × SV)) : Int × Int := match b with | none => (0, 0) | some x => ((t.plan (x.1 : Nat)).close, (t.plan (x.1 : Nat)).open_)
def bstI (b : Option (Nat × SV)) : Option Nat := match b with | none => none | some x => some x.1
section
variable {v : CTV} {t : CTk} {w : World}
set_option maxHeartbeats 16000000 in
theorem refBest5_made {r : CRu} (hT : CtAt w w.heap.size v t) :
    Calls Tryz.prog 18 #[ctkV v t, ruV r] w (Made w (BstR t r)) := by
  have hru := fun (w5 : World) (hB : Below w.heap.size w w5) => ruled5_any (r := r) (hT.sys (Sys.ofBelow hB))
  have hne := fun (w5 : World) => rnever5_any w5
  have hca := fun (ho : CtOk t) (w5 : World) (hB : Below w.heap.size w w5) => rcalled5_any (r := r) (hT.sys (Sys.ofBelow hB)) ho
  have hfl := fun (ho : CtOk t) (w5 : World) (hB : Below w.heap.size w w5) => flooded5_made (hT.sys (Sys.ofBelow hB)) ho
  have hfr := fun (ho : CtOk t) (w5 : World) (hB : Below w.heap.size w w5) => from5_any (hT.sys (Sys.ofBelow hB)) ho
  have hen := fun (ho : CtOk t) (w5 : World) (hB : Below w.heap.size w w5) => end5_any (hT.sys (Sys.ofBelow hB)) ho
  have hpl := fun (ho : CtOk t) (tick i : Int) (hb : 0 ≤ tick ∧ tick ≤ 300000) (he : tick - t.from_ = i) (w5 : World) (hB : Below w.heap.size w w5) => he ▸ refplan_any (i := tick) (hT.sys (Sys.ofBelow hB)) ho hb
  have hal := fun (ho : CtOk t) (hq : RuOk r) (tick : Int) (w5 : World) (hB : Below w.heap.size w w5) => rallowed5_any (r := r) (tick := tick) (hT.sys (Sys.ofBelow hB)) ho hq
  have hll := fun (ho : CtOk t) (p : CPl) (hp : t.strange p = false) (w5 : World) (hB : Below w.heap.size w w5) => all5_made (p := p) (hT.sys (Sys.ofBelow hB)) ho hp
  have hhn := hT.hn
  obtain ⟨vp, vf, ⟨Ah, nh, ch⟩, vr⟩ := v
  simp only at hhn
  subst hhn
  simp only [ctkV, ctkC, ruV, plnV] at hru hca hfl hfr hen hpl hal hll ⊢
  refine enter Tryz.func18 rfl Tryz.ntmps18 rfl ?_; simp only [frame, Nat.zero_add, Nat.reduceAdd]
  repeat (first | (refine M0 ?_; first | refine SL ?_ | refine SB fun _ _ => ?_ | refine Y4 (Ev.call (f := 43) (ck rfl) rfl (fun w5 S5 => hru w5 S5.toBelow)) ?_) | (refine M1 ?_; refine SC ?_) | (refine M2 ?_; refine SE ?_))
  rename_i g2 hg2 g3 hg3 g4 hg4
  by_cases hc : ruE t r = 0
  rotate_left
  · rw [show decide (ruE t r ≠ 0) = true from decide_eq_true hc]
    repeat (first | (refine M0 ?_; first | refine SL ?_ | refine SB fun _ _ => ?_) | (refine M1 ?_; refine SC ?_) | (refine M2 ?_; refine SE ?_))
    refine XE.retg tok Tryz.results18 rfl (by simp only [and_self, and_true]) (fun w' S => ?_)
    obtain ⟨d1, d2, d3⟩ := bst_ru hc
    exact bstZ d1 d2 d3 S.toBelow
  obtain ⟨hc0, ho, hq⟩ := ruE_0 hc
  have h60 := ho.n60
  have h1n := ho.n1
  have hm8 := ho.m8
  have hfm := ho.frm
  have hdl := ho.dly
  have hll1 : -31 ≤ t.last ∧ t.last ≤ 60 := by unfold CTk.last; omega
  have hln : t.last < t.n := by unfold CTk.last; omega
  rw [show decide (ruE t r ≠ 0) = false from decide_eq_false (fun h => h hc)]
  have hca := hca ho
  have hle : w.heap.size ≤ w.heap.size := Nat.le_refl _
  have hB0 := Below.refl w.heap.size w
  cases hcl : t.called r with
  | false =>
    simp only [hcl] at hca
    obtain ⟨d1, d2, d3⟩ := bst_0 hc hcl
    have hfl := hfl ho
    repeat (first | (refine M0 ?_; first | refine SL ?_ | refine SB fun _ _ => ?_ | refine Y4 (Ev.call (f := 50) (ck rfl) rfl (fun w5 S5 => hca w5 S5.toBelow)) ?_) | (refine M1 ?_; refine SC ?_) | (refine M2 ?_; refine SE ?_))
    refine XC.drawRS (trunc w w.heap.size) [(g2, cel 29 (ctkC ⟨vp, vf, ⟨Ah, t.m, ch⟩, vr⟩ t))] [1] [0, 2, 3, 4, 5] mixed (fun _ h => Sys.anchorT hB0 h (fun e he => by rw [List.mem_singleton.1 he]; exact .tail _ (.tail _ (.head _))) (by simp) hle) rfl (by kernel_rfl) ?_
    simp only [ctkC]
    repeat (any_goals (first | (refine M0 ?_; first | refine SL ?_ | refine SB fun _ _ => ?_ | refine Y4 (Ev.load_loc_agg tok 0 (g := g2) (o := 0) rfl rfl rfl rfl) ?_ | refine Y4 (Ev.call (f := 51) (ck rfl) rfl (fun w5 S5 => hne w5)) ?_ | (refine XL.at_call 55 ?_; refine XL.callF (ks := []) (rs := []) (hs := []) (b0 := w.heap.size) (wE := w) (FldX t) (ck rfl) rfl rfl (Fam.start (Nat.le_refl w.heap.size)) (fun _ h => by cases h) (Below.refl w.heap.size w) (fun w1 S1 _ hB1 => hfl w1 hB1) (fun w1 x new hR hF1 hB1 hk1 => ?_) ZZHL; obtain ⟨⟨qA, qn, qc⟩, rfl, rfl⟩ := hR; simp only [svV]) | refine XL.store tok 0 (g := g4) (o := 0) (cs := [.int .i64 0, .int .i64 0]) rfl rfl rfl rfl (.inr rfl) rfl rfl rfl ?_) | (refine M1 ?_; refine SC ?_) | (refine M2 ?_; first | refine SE ?_ | ((with_reducible refine atHeld ?_); refine z7 ?_)) | (refine M3 ?_; first | refine SG ?_ | refine SF ?_ | refine YF (Ev.load_loc_agg tok 0 (g := g2) (o := 0) rfl rfl rfl rfl) ?_ | refine YF (Ev.call (f := 51) (ck rfl) rfl (fun w5 S5 => hne w5)) ?_) | (refine M4 ?_; refine SR ?_) | (refine M5 ?_; first | exact M7 | refine YM ?_ | refine YN ?_ ?_)))
    any_goals (repeat (first | exact AnyR.nil | refine AnyR.skip rfl ?_))
    all_goals
      repeat (first | (refine M0 ?_; first | refine SL ?_ | refine SB fun _ _ => ?_) | (refine M1 ?_; refine SC ?_) | (refine M2 ?_; refine SE ?_))
      refine XE.retg tok Tryz.results18 rfl (by simp only [and_self, and_true]) (fun w' S => ?_)
      refine ⟨_, _, rfl, ⟨⟨qA, qn, qc⟩, by rw [d1, d2]; rfl, rfl⟩, fun x hx => ?_, hB1.trans S.toBelow⟩
      rw [d3] at hx
      rw [List.mem_singleton.1 hx]
      exact (hF1.sys S ZZHL).get (x := hList intK5 ⟨qA, qn, qc⟩ (t.fld.map fun k => ((k : Nat) : Int))) (.head _)
  | true =>
  simp only [hcl] at hca
  have hen := hen ho
  have hfr := hfr ho
  repeat (first | (refine M0 ?_; first | refine SL ?_ | refine SB fun _ _ => ?_ | refine Y4 (Ev.call (f := 50) (ck rfl) rfl (fun w5 S5 => hca w5 S5.toBelow)) ?_ | refine Y4 (Ev.call (f := 37) (ck rfl) rfl (fun w5 S5 => hfr w5 S5.toBelow)) ?_) | (refine M1 ?_; refine SC ?_) | (refine M2 ?_; refine SE ?_))
  rename_i g9 hg9
  refine XC.rebase (List.Sublist.refl _) (fun W0 S0 => ?_)
  have hF0 : Fam W0 w.heap.size [g9, g4, g3, g2] [] (bstHs t none) := Fam.start S0.size
  have hks0 : ∀ x, x ∈ [g9, g4, g3, g2] → x < W0.heap.size := fun x hx => S0.keyLt x hx
  refine XC.loopk [2, 3, 4, 9] rfl (fun z : Nat × World × Option (Nat × SV) => [(8, .int .i64 (bstMo t z.2.2)), (10, bstQ z.2.2), (11, .int .i64 (t.from_ + ((z.1 : Nat) : Int)))]) (fun z => [(g9, cel 42 [.int .i64 (bstA t z.2.2).1, .int .i64 (bstA t z.2.2).2]), (g4, cel 42 [.int .i64 0, .int .i64 0]), (g3, cel 31 [.int .i64 r.count, .int .i64 r.early]), (g2, cel 29 (ctkC ⟨vp, vf, ⟨Ah, t.m, ch⟩, vr⟩ t))]) (fun z => z.2.1)
    (fun z => z.1 ≤ t.n ∧ Below w.heap.size w z.2.1 ∧ Fam z.2.1 w.heap.size [g9, g4, g3, g2] [] (bstHs t z.2.2) ∧ (∀ x, x ∈ [g9, g4, g3, g2] → x < z.2.1.heap.size) ∧ t.bstTo r z.1 = bstI z.2.2) (fun z => t.n - z.1) (0, W0, none) ⟨Nat.zero_le _, S0.toBelow, hF0, hks0, rfl⟩ (Sub.cons rfl (Sub.cons rfl (Sub.cons (by show some _ = some _; rw [show t.from_ + ((0 : Nat) : Int) = t.from_ from by omega]) ZZSUB))) (fun _ h => h) ?_
  rintro ⟨i, W, b⟩ ⟨hi, hB, hF, hks, hbb⟩
  simp only at hi hB hF hks hbb
  simp only [ctkC]
  dsimp only [List.cons_append, List.nil_append]
  repeat (first | (refine M0 ?_; first | refine SL ?_ | refine SB fun _ _ => ?_ | refine Y4 (Ev.call (f := 36) (ck rfl) rfl (fun w5 S5 => hen w5 (hB.trans S5.toBelow))) ?_) | (refine M1 ?_; refine SC ?_) | (refine M2 ?_; refine SE ?_))
  refine XC.cond _ rfl (fun h2 => ?_) (fun h2 => ?_)
  rotate_left
  · have hin : i = t.n := by have := of_decide_eq_false h2; omega
    subst hin
    cases b with
    | none =>
      obtain ⟨d1, d2, d3⟩ := bst_none hc hcl hbb
      simp only [bstMo]
      repeat (first | (refine M0 ?_; first | refine SL ?_ | refine SB fun _ _ => ?_) | (refine M1 ?_; refine SC ?_) | (refine M2 ?_; refine SE ?_))
      refine XE.retg tok Tryz.results18 rfl (by simp only [and_self, and_true]) (fun w' S => ?_)
      exact bstZ d1 d2 d3 (hB.trans S.toBelow)
    | some x =>
      obtain ⟨j, qA, qn, qc⟩ := x
      obtain ⟨d1, d2, d3⟩ := bst_some hc hcl hbb
      have hcn := holdL_cnt (t := t) (i := (j : Nat))
      simp only [bstMo, bstQ, bstA, svV]
      repeat (first | (refine M0 ?_; first | refine SL ?_ | refine SB fun _ _ => ?_) | (refine M1 ?_; refine SC ?_) | (refine M2 ?_; refine SE ?_))
      rw [show decide ((t.m : Int) - ((t.notL (j : Nat)).length : Nat) < 0) = false from decide_eq_false (by omega)]
      repeat (first | (refine M0 ?_; first | refine SL ?_ | refine SB fun _ _ => ?_) | (refine M1 ?_; refine SC ?_) | (refine M2 ?_; refine SE ?_))
      refine XE.retg tok Tryz.results18 rfl (by simp only [and_self, and_true]) (fun w' S => ?_)
      refine ⟨_, _, rfl, ⟨⟨qA, qn, qc⟩, by rw [d1, d2]; rfl, rfl⟩, fun x hx => ?_, hB.trans S.toBelow⟩
      rw [d3] at hx
      rw [List.mem_singleton.1 hx]
      exact (hF.sys S ZZHL).get (.head _)
  have hin : i < t.n := by have := of_decide_eq_true h2; omega
  have hal := hal ho hq (t.from_ + (i : Int))
  simp only [allowed_i hin] at hal
  cases hmy : t.may r (i : Nat) with
  | false =>
    simp only [hmy] at hal
    repeat (first | (refine M0 ?_; first | refine SL ?_ | refine SB fun _ _ => ?_ | refine Y4 (Ev.call (f := 44) (ck rfl) rfl (fun w5 S5 => hal w5 (hB.trans S5.toBelow))) ?_) | (refine M1 ?_; refine SC ?_) | (refine M2 ?_; refine SE ?_))
    exact XE.roundW (s := (i, W, b)) (fun w9 S9 => ⟨(i + 1, w9, b), ⟨hin, hB.trans S9.toBelow, hF.sys S9 ZZHL, fun x hx => Nat.lt_of_lt_of_le (hks x hx) S9.size, by rw [bstTo_no hmy]; exact hbb⟩, by simp only; omega, (Sub.cons rfl (Sub.cons rfl (Sub.cons (by show some _ = some _; rw [show t.from_ + ((i + 1 : Nat) : Int) = t.from_ + (i : Int) + 1 from by omega]) ZZSUB))), S9.rebase ZZSM⟩)
  | true =>
  simp only [hmy] at hal
  have hil : (i : Int) ≤ t.last := (may_in hmy).2.2.1
  have hst : t.strange (t.plan (i : Nat)) = false := (plan_ok ho (Int.natCast_nonneg i) hil).1
  have hpl := hpl ho (t.from_ + (i : Int)) (i : Int) ⟨by omega, by omega⟩ (by omega)
  have hll := hll ho (t.plan (i : Nat)) hst
  have hcn := holdL_cnt (t := t) (i := (i : Nat))
  repeat (first | (refine M0 ?_; first | refine SL ?_ | refine SB fun _ _ => ?_ | refine Y4 (Ev.call (f := 44) (ck rfl) rfl (fun w5 S5 => hal w5 (hB.trans S5.toBelow))) ?_) | (refine M1 ?_; refine SC ?_) | (refine M2 ?_; refine SE ?_))
  have l2 := hks g2 (by simp)
  refine XC.drawRS (trunc w w.heap.size) [(g2, cel 29 (ctkC ⟨vp, vf, ⟨Ah, t.m, ch⟩, vr⟩ t))] [0, 1, 2] [3, 4, 5] mixed (fun _ h => Sys.anchorT hB h (by intro e he; repeat (first | (cases he; done) | (rcases List.mem_cons.1 he with rfl | he; · repeat (first | exact List.mem_cons_self | apply List.mem_cons_of_mem)))) (by simp) hle) rfl (by kernel_rfl) ?_
  simp only [ctkC]
  repeat (any_goals (first | (refine M0 ?_; first | refine SL ?_ | refine SB fun _ _ => ?_ | refine Y4 (Ev.load_loc_agg tok 0 (g := g2) (o := 0) rfl rfl rfl rfl) ?_ | refine Y4 (Ev.call (f := 39) (ck rfl) rfl (fun w5 S5 => hpl w5 (hB.trans S5.toBelow))) ?_ | (refine XL.at_call 56 ?_; refine XL.callF (wE := w) (AllV t (t.plan (i : Nat))) (ck rfl) rfl rfl hF hks hB (fun w1 S1 _ hB1 => hll w1 hB1) (fun w1 x new hR hF1 hB1 hk1 => ?_) ZZHL; obtain ⟨⟨lA, ln, lc⟩, rfl, rfl⟩ := hR; simp only [svV])) | (refine M1 ?_; refine SC ?_) | (refine M2 ?_; first | refine SE ?_ | ((with_reducible refine atHeld ?_); refine z7 ?_)) | (refine M3 ?_; first | refine SG ?_ | refine SF ?_ | refine YF (Ev.load_loc_agg tok 0 (g := g2) (o := 0) rfl rfl rfl rfl) ?_ | refine YF (Ev.call (f := 39) (ck rfl) rfl (fun w5 S5 => hpl w5 (hB.trans S5.toBelow))) ?_) | (refine M4 ?_; refine SR ?_) | (refine M5 ?_; first | exact M7 | refine YM ?_ | refine YN ?_ ?_)))
  any_goals (repeat (first | exact AnyR.nil | refine AnyR.skip rfl ?_))
  have hct := fun {L : Lo} (w5 : World) (S5 : Sys w.heap.size w1 L w5) (hL5 : ∀ e, e ∈ L → e.1 ∈ _ ∨ w1.heap.size ≤ e.1) => count5_any (q := ⟨lA, ln, lc⟩) (l := t.holdL (t.plan (i : Nat))) (Held.lt (x := hList boolK5 ⟨lA, ln, lc⟩ (t.holdL (t.plan (i : Nat)))) ((hF1.sys S5 hL5).get (.head _))) (by rw [holdL_len]; omega)
  simp only [svV] at hct
  repeat (first | (refine M0 ?_; first | refine SL ?_ | refine SB fun _ _ => ?_ | refine Y4 (Ev.call (f := 57) (ck rfl) rfl (fun w5 S5 => hct w5 S5 ZZHL)) ?_) | (refine M1 ?_; refine SC ?_) | (refine M2 ?_; refine SE ?_))
  by_cases hlt : ((cntB (t.holdL (t.plan (i : Nat))) : Nat) : Int) < bstMo t b
  · rw [show decide (((cntB (t.holdL (t.plan (i : Nat))) : Nat) : Int) < bstMo t b) = true from decide_eq_true hlt]
    have hkeep : t.bstTo r (i + 1) = bstI b := by
      cases b with
      | none => simp only [bstMo] at hlt; omega
      | some x => simp only [bstMo] at hlt; exact bstTo_gt hmy hbb (by omega)
    repeat (first | (refine M0 ?_; first | refine SL ?_ | refine SB fun _ _ => ?_) | (refine M1 ?_; refine SC ?_) | (refine M2 ?_; refine SE ?_))
    exact XE.roundW (s := (i, W, b)) (fun w9 S9 => ⟨(i + 1, w9, b), ⟨hin, hB1.trans S9.toBelow, Fam.forget ((hF1.sys S9 ZZHL).add (fun x hx => .inl (List.mem_append_right _ hx))) (fun x hx => .tail _ hx), fun x hx => Nat.lt_of_lt_of_le (hk1 x (List.mem_append_right _ hx)) S9.size, hkeep⟩, by simp only; omega, (Sub.cons rfl (Sub.cons rfl (Sub.cons (by show some _ = some _; rw [show t.from_ + ((i + 1 : Nat) : Int) = t.from_ + (i : Int) + 1 from by omega]) ZZSUB))), S9.rebase ZZSM⟩)
  have htake : t.bstTo r (i + 1) = some i := by
    cases b with
    | none => exact bstTo_new hmy hbb
    | some x => simp only [bstMo] at hlt; exact bstTo_le hmy hbb (by omega)
  rw [show decide (((cntB (t.holdL (t.plan (i : Nat))) : Nat) : Int) < bstMo t b) = false from decide_eq_false hlt]
  repeat (first | (refine M0 ?_; first | refine SL ?_ | refine SB fun _ _ => ?_) | (refine M1 ?_; refine SC ?_) | (refine M2 ?_; refine SE ?_))
  refine XC.cutn [2, 3, 4, 9, 11, 12] rfl (fun _ : World => [(8, .int .i64 ((cntB (t.holdL (t.plan (i : Nat))) : Nat) : Int)), (10, .slice none 0 0)]) (fun _ => [(g9, cel 42 [.int .i64 (t.plan (i : Nat)).close, .int .i64 (t.plan (i : Nat)).open_]), (g4, cel 42 [.int .i64 0, .int .i64 0]), (g3, cel 31 [.int .i64 r.count, .int .i64 r.early]), (g2, cel 29 (ctkC ⟨vp, vf, ⟨Ah, t.m, ch⟩, vr⟩ t))]) (fun z => z) (fun z => Below w.heap.size w z ∧ Fam z w.heap.size [g9, g4, g3, g2] [] [hList boolK5 ⟨lA, ln, lc⟩ (t.holdL (t.plan (i : Nat)))] ∧ ∀ x, x ∈ [g9, g4, g3, g2] → x < z.heap.size) ?_ ?_
  · refine XC.drawRS (trunc w w.heap.size) [(g2, cel 29 (ctkC ⟨vp, vf, ⟨Ah, t.m, ch⟩, vr⟩ t))] [0, 2, 3] [1, 4, 5, 6, 7] mixed (fun _ h => Sys.anchorT hB1 h (by intro e he; repeat (first | (cases he; done) | (rcases List.mem_cons.1 he with rfl | he; · repeat (first | exact List.mem_cons_self | apply List.mem_cons_of_mem)))) (by simp) hle) rfl (by kernel_rfl) ?_
    simp only [ctkC]
    repeat (any_goals (first | (refine M0 ?_; first | refine SL ?_ | refine SB fun _ _ => ?_ | refine Y4 (Ev.load_loc_agg tok 0 (g := g2) (o := 0) rfl rfl rfl rfl) ?_ | refine Y4 (Ev.call (f := 39) (ck rfl) rfl (fun w5 S5 => hpl w5 (hB1.trans S5.toBelow))) ?_ | refine Y4 (Ev.call (f := 57) (ck rfl) rfl (fun w5 S5 => hct w5 S5 ZZHL)) ?_ | refine XL.store tok 0 (g := g9) (o := 0) (cs := [.int .i64 (bstA t b).1, .int .i64 (bstA t b).2]) rfl rfl rfl rfl (.inr rfl) rfl rfl rfl ?_) | (refine M1 ?_; refine SC ?_) | (refine M2 ?_; first | refine SE ?_ | ((with_reducible refine atHeld ?_); refine z7 ?_)) | (refine M3 ?_; first | refine SG ?_ | refine SF ?_ | refine YF (Ev.load_loc_agg tok 0 (g := g2) (o := 0) rfl rfl rfl rfl) ?_ | refine YF (Ev.call (f := 39) (ck rfl) rfl (fun w5 S5 => hpl w5 (hB1.trans S5.toBelow))) ?_ | refine YF (Ev.call (f := 57) (ck rfl) rfl (fun w5 S5 => hct w5 S5 ZZHL)) ?_) | (refine M4 ?_; refine SR ?_) | (refine M5 ?_; first | exact M7 | refine YM ?_ | refine YN ?_ ?_)))
    any_goals (repeat (first | exact AnyR.nil | refine AnyR.skip rfl ?_))
    all_goals
      repeat (first | (refine M0 ?_; first | refine SL ?_ | refine SB fun _ _ => ?_) | (refine M1 ?_; refine SC ?_) | (refine M2 ?_; refine SE ?_))
      exact XE.leafW (fun z9 S9 => ⟨z9, ⟨hB1.trans S9.toBelow, Fam.forget ((hF1.sys S9 ZZHL).add (fun x hx => .inl (List.mem_append_right _ hx))) (fun x hx => by rw [List.mem_singleton.1 hx]; exact .head _), fun x hx => Nat.lt_of_lt_of_le (hk1 x (List.mem_append_right _ hx)) S9.size⟩, ZZSUB, S9.rebase ZZSM⟩)
  rintro Wz ⟨hBz, hFz, hkz⟩
  simp only [ctkC]
  dsimp only [List.cons_append, List.nil_append]
  repeat (first | (refine M0 ?_; first | refine SL ?_ | refine SB fun _ _ => ?_) | (refine M1 ?_; refine SC ?_) | (refine M2 ?_; refine SE ?_))
  have hln2 := (hFz.held (hList boolK5 ⟨lA, ln, lc⟩ (t.holdL (t.plan (i : Nat)))) (.head _)).len (by decide)
  simp only [holdL_len] at hln2
  subst hln2
  have hFr : Fam Wz w.heap.size [g9, g4, g3, g2] [⟨Int, intK5, .slice none 0 0, t.notTo i 0⟩] [hList boolK5 ⟨lA, t.m, lc⟩ (t.holdL (t.plan (i : Nat)))] := Fam.nil intK5 hFz
  refine XC.loopk [2, 3, 4, 8, 9, 11, 12] rfl (fun z : Nat × World × SV => [(10, svV z.2.2), (13, .int .i64 (z.1 : Nat))]) (fun _ => [(g9, cel 42 [.int .i64 (t.plan (i : Nat)).close, .int .i64 (t.plan (i : Nat)).open_]), (g4, cel 42 [.int .i64 0, .int .i64 0]), (g3, cel 31 [.int .i64 r.count, .int .i64 r.early]), (g2, cel 29 (ctkC ⟨vp, vf, ⟨Ah, t.m, ch⟩, vr⟩ t))]) (fun z => z.2.1)
    (fun z => z.1 ≤ t.m ∧ Below w.heap.size w z.2.1 ∧ Fam z.2.1 w.heap.size [g9, g4, g3, g2] [⟨Int, intK5, svV z.2.2, t.notTo i z.1⟩] [hList boolK5 ⟨lA, t.m, lc⟩ (t.holdL (t.plan (i : Nat)))] ∧ ∀ x, x ∈ [g9, g4, g3, g2] → x < z.2.1.heap.size) (fun z => t.m - z.1) (0, Wz, ⟨none, 0, 0⟩) ⟨Nat.zero_le _, hBz, hFr, hkz⟩ ZZSUB (fun _ h => h) ?_
  rintro ⟨k, W2, ⟨rA, rn, rc⟩⟩ ⟨hk, hB2, hF2, hk2⟩
  simp only at hk hB2 hF2 hk2
  simp only [svV, ctkC]
  dsimp only [List.cons_append, List.nil_append]
  repeat (first | (refine M0 ?_; first | refine SL ?_ | refine SB fun _ _ => ?_) | (refine M1 ?_; refine SC ?_) | (refine M2 ?_; refine SE ?_))
  refine XC.cond _ rfl (fun h3 => ?_) (fun h3 => ?_)
  rotate_left
  · have hkm : k = t.m := by have := of_decide_eq_false h3; omega
    subst hkm
    have hF2 := hF2.freeze
    rw [notTo_all] at hF2
    repeat (first | (refine M0 ?_; first | refine SL ?_ | refine SB fun _ _ => ?_) | (refine M1 ?_; refine SC ?_) | (refine M2 ?_; refine SE ?_))
    exact XE.roundW (s := (i, W, b)) (fun w9 S9 => ⟨(i + 1, w9, some (i, ⟨rA, rn, rc⟩)), ⟨hin, hB2.trans S9.toBelow, Fam.forget (hF2.sys S9 ZZHL) (fun x hx => by rw [List.mem_singleton.1 hx]; exact .head _), fun x hx => Nat.lt_of_lt_of_le (hk2 x hx) S9.size, htake⟩, by simp only; omega, (Sub.cons (by show some _ = some _; simp only [bstMo]; rw [show ((cntB (t.holdL (t.plan (i : Nat))) : Nat) : Int) = (t.m : Int) - ((t.notL (i : Nat)).length : Nat) from by omega]) (Sub.cons rfl (Sub.cons (by show some _ = some _; rw [show t.from_ + ((i + 1 : Nat) : Int) = t.from_ + (i : Int) + 1 from by omega]) ZZSUB))), S9.rebase ZZSM⟩)
  have hkm : k < t.m := by have := of_decide_eq_true h3; omega
  have hLF : ListAt boolK5 W2 (Free W2 w.heap.size _ _) ⟨lA, t.m, lc⟩ (t.holdL (t.plan (i : Nat))) := hF2.held (hList boolK5 ⟨lA, t.m, lc⟩ (t.holdL (t.plan (i : Nat)))) (.head _)
  obtain ⟨ad, rfl, hf⟩ := hLF.addr (by decide) (by rw [holdL_len]; omega)
  have hcell := hLF.elem (holdL_at hkm) 0 _ rfl
  rw [add_add, Nat.add_zero] at hcell
  have hcell : W2.cell? (ad.add (k * 1)) = some (.bool (t.holds k (t.plan (i : Nat)))) := hcell
  have la : (ad.add (k * 1)).block < W2.heap.size := by rw [add_block]; exact hf.2.1
  cases hx : t.fails k (t.plan (i : Nat)) with
  | none =>
    rw [show t.holds k (t.plan (i : Nat)) = true from by unfold CTk.holds; rw [hx]; rfl] at hcell
    repeat (first | (refine M0 ?_; first | refine SL ?_ | refine SB fun _ _ => ?_ | refine Y4 (Ev.load_far tok rfl rfl la (hf.far ZZHL) hcell) ?_) | (refine M1 ?_; refine SC ?_) | (refine M2 ?_; refine SE ?_))
    exact XE.roundW (s := (k, W2, ⟨rA, rn, rc⟩)) (fun w9 S9 => ⟨(k + 1, w9, ⟨rA, rn, rc⟩), ⟨hkm, hB2.trans S9.toBelow, by rw [notTo_keep hx]; exact hF2.sys S9 ZZHL, fun x hx => Nat.lt_of_lt_of_le (hk2 x hx) S9.size⟩, by simp only; omega, ZZSUB, S9.rebase ZZSM⟩)
  | some a =>
    rw [show t.holds k (t.plan (i : Nat)) = false from by unfold CTk.holds; rw [hx]; rfl] at hcell
    have hnl := notTo_len t i k
    repeat (first | (refine M0 ?_; first | refine SL ?_ | refine SB fun _ _ => ?_ | refine Y4 (Ev.load_far tok rfl rfl la (hf.far ZZHL) hcell) ?_ | refine XL.buildSlice tok rfl rfl rfl rfl rfl rfl rfl rfl rfl (fun _ _ => ?_)) | (refine M1 ?_; refine SC ?_) | (refine M2 ?_; refine SE ?_))
    refine XL.push (K := intK5) (a := ((k : Nat) : Int)) (wE := w) 0 int5_el (by decide) rfl rfl rfl hF2 rfl hk2 hB2 (Nat.le_refl _) rfl (by omega) (by decide) (fun x hx => by cases hx) (fun w3 v3 hF3 hB3 hk3 => ?_)
    simp only [List.set_cons_zero, ← notTo_push hx] at hF3
    obtain ⟨⟨sA, sn, sc⟩, rfl, _⟩ := hF3.sv (K := intK5) (l := t.notTo i (k + 1)) (v := v3) (.head _)
    simp only [svV]
    repeat (first | (refine M0 ?_; first | refine SL ?_ | refine SB fun _ _ => ?_) | (refine M1 ?_; refine SC ?_) | (refine M2 ?_; refine SE ?_))
    exact XE.roundW (s := (k, W2, ⟨rA, rn, rc⟩)) (fun w9 S9 => ⟨(k + 1, w9, ⟨sA, sn, sc⟩), ⟨hkm, hB3.trans S9.toBelow, (hF3.sys S9 ZZHL).add (fun x hx => .inl (List.mem_append_right _ hx)), fun x hx => Nat.lt_of_lt_of_le (hk3 x (List.mem_append_right _ hx)) S9.size⟩, by simp only; omega, ZZSUB, S9.rebase ZZSM⟩)
end
end Go.Proofs.YtmpaiphakjogjaaGreat.X
/-
  The law ClosureDecides.
-/
namespace Go.Proofs.YtmpaiphakjogjaaGreat.X
open Go Go.RowKit Go.Proofs.YtmpaiphakjogjaaGreat.Bs
set_option linter.unusedVariables false
theorem ListAt.intsD5 {w : World} {ok : Nat → Prop} {r : SV} {l : List Int} (h : ListAt intK5 w ok r l) : IntsAt w ok r l := ⟨by have := h.rd; rw [ints_flat5] at this; exact this, h.max⟩
set_option maxHeartbeats 8000000 in
theorem ClosureDecides_any {v : CTV} {t : CTk} {r : CRu} {w : World} (hT : CtAt w w.heap.size v t) :
    Calls Tryz.prog 4 #[ctkV v t, ruV r] w fun e w' => e = .returned (.bool true) ∧ Below w.heap.size w w' := by
  have haw := fun {L : Lo} {W : World} (w5 : World) (S5 : Sys w.heap.size W L w5) => Awake5_any (w := w5)
  have hlo := fun (w5 : World) (hB : Below w.heap.size w w5) => Longz_any (hT.sys (Sys.ofBelow hB))
  have hd1 := fun (w5 : World) (hB : Below w.heap.size w w5) => Decide_made (r := r) (hT.sys (Sys.ofBelow hB))
  have hd2 := fun (w5 : World) (hB : Below w.heap.size w w5) => refDecide5_made (r := r) (hT.sys (Sys.ofBelow hB))
  have hb1 := fun (w5 : World) (hB : Below w.heap.size w w5) => Best_made (r := r) (hT.sys (Sys.ofBelow hB))
  have hb2 := fun (w5 : World) (hB : Below w.heap.size w w5) => refBest5_made (r := r) (hT.sys (Sys.ofBelow hB))
  simp only [ctkV, ctkC, ruV] at hlo hd1 hd2 hb1 hb2 ⊢
  refine enter Tryz.func4 rfl Tryz.ntmps4 rfl ?_; simp only [frame, Nat.zero_add, Nat.reduceAdd]
  repeat (first | (refine M0 ?_; first | refine SL ?_ | refine SB fun _ _ => ?_ | refine Y4 (Ev.call (f := 8) (ck rfl) rfl (fun w5 S5 => hlo w5 S5.toBelow)) ?_) | (refine M1 ?_; refine SC ?_) | (refine M2 ?_; refine SE ?_))
  rename_i g2 hg2 g3 hg3
  cases hlg : t.longB with
  | true =>
    repeat (first | (refine M0 ?_; first | refine SL ?_ | refine SB fun _ _ => ?_ | refine Y4 (Ev.call (f := 9) (ck rfl) rfl (fun w5 S5 => haw w5 S5)) ?_) | (refine M1 ?_; refine SC ?_) | (refine M2 ?_; refine SE ?_))
    refine XE.retg tok Tryz.results4 rfl (by simp only [and_self, and_true]) (fun w' S => ?_)
    exact ⟨rfl, S.toBelow⟩
  | false =>
  repeat (first | (refine M0 ?_; first | refine SL ?_ | refine SB fun _ _ => ?_) | (refine M1 ?_; refine SC ?_) | (refine M2 ?_; refine SE ?_))
  refine XL.callF (ks := []) (rs := []) (hs := []) (b0 := w.heap.size) (wE := w) (DecR t r) (ck rfl) rfl rfl (Fam.start (Nat.le_refl w.heap.size)) (fun _ h => by cases h) (Below.refl w.heap.size w) (fun w5 S5 _ hB5 => hd1 w5 hB5) (fun w1 x new hR hF1 hB1 hk1 => ?_) ZZHL
  obtain ⟨⟨a1, a2, a3⟩, ⟨b1, b2, b3⟩, rfl, rfl⟩ := hR
  simp only [decV, decC, svV]
  repeat (first | (refine M0 ?_; first | refine SL ?_ | refine SB fun _ _ => ?_) | (refine M1 ?_; refine SC ?_) | (refine M2 ?_; refine SE ?_))
  refine XL.callF (wE := w) (DecR t r) (ck rfl) rfl rfl hF1 hk1 hB1 (fun w5 S5 _ hB5 => hd2 w5 hB5) (fun w2 x new hR hF2 hB2 hk2 => ?_) ZZHL
  obtain ⟨⟨c1, c2, c3⟩, ⟨d1, d2, d3⟩, rfl, rfl⟩ := hR
  simp only [decV, decC, svV]
  have hsm := fun {L : Lo} (w5 : World) (S5 : Sys w.heap.size w2 L w5) (hL5 : ∀ e, e ∈ L → e.1 ∈ _ ∨ w2.heap.size ≤ e.1) => Same5_any (q1 := ⟨a1, a2, a3⟩) (q2 := ⟨b1, b2, b3⟩) (q3 := ⟨c1, c2, c3⟩) (q4 := ⟨d1, d2, d3⟩) (d := t.decD r) (Held.lt (x := hList pekK5 ⟨a1, a2, a3⟩ (t.decD r).peaks) ((hF2.sys S5 hL5).get (.tail _ (.tail _ (.head _))))) (Held.lt (x := hList wtnK5 ⟨b1, b2, b3⟩ (t.decD r).later) ((hF2.sys S5 hL5).get (.tail _ (.tail _ (.tail _ (.head _)))))) (Held.lt (x := hList pekK5 ⟨c1, c2, c3⟩ (t.decD r).peaks) ((hF2.sys S5 hL5).get (.head _))) (Held.lt (x := hList wtnK5 ⟨d1, d2, d3⟩ (t.decD r).later) ((hF2.sys S5 hL5).get (.tail _ (.head _))))
  simp only [decV, decC, svV] at hsm
  repeat (first | (refine M0 ?_; first | refine SL ?_ | refine SB fun _ _ => ?_ | refine Y4 (Ev.call (f := 16) (ck rfl) rfl (fun w5 S5 => hsm w5 S5 ZZHL)) ?_) | (refine M1 ?_; refine SC ?_) | (refine M2 ?_; refine SE ?_))
  rw [show decide (t.decE r ≠ t.decE r) = false from decide_eq_false (fun h => h rfl)]
  repeat (first | (refine M0 ?_; first | refine SL ?_ | refine SB fun _ _ => ?_) | (refine M1 ?_; refine SC ?_) | (refine M2 ?_; refine SE ?_))
  refine XL.callF (wE := w) (BstR t r) (ck rfl) rfl rfl hF2 hk2 hB2 (fun w5 S5 _ hB5 => hb1 w5 hB5) (fun w3 x new hR hF3 hB3 hk3 => ?_) ZZHL
  obtain ⟨⟨e1, e2, e3⟩, rfl, rfl⟩ := hR
  simp only [plnV, svV]
  repeat (first | (refine M0 ?_; first | refine SL ?_ | refine SB fun _ _ => ?_) | (refine M1 ?_; refine SC ?_) | (refine M2 ?_; refine SE ?_))
  refine XL.callF (wE := w) (BstR t r) (ck rfl) rfl rfl hF3 hk3 hB3 (fun w5 S5 _ hB5 => hb2 w5 hB5) (fun w4 x new hR hF4 hB4 hk4 => ?_) ZZHL
  obtain ⟨⟨f1, f2, f3⟩, rfl, rfl⟩ := hR
  simp only [plnV, svV]
  have hie := fun {L : Lo} (w5 : World) (S5 : Sys w.heap.size w4 L w5) (hL5 : ∀ e, e ∈ L → e.1 ∈ _ ∨ w4.heap.size ≤ e.1) => intsEq_any (q := ⟨e1, e2, e3⟩) (r := ⟨f1, f2, f3⟩) (l := t.bstN r) (m := t.bstN r) (ListAt.intsD5 (Held.lt (x := hList intK5 ⟨e1, e2, e3⟩ (t.bstN r)) ((hF4.sys S5 hL5).get (.tail _ (.head _))))) (ListAt.intsD5 (Held.lt (x := hList intK5 ⟨f1, f2, f3⟩ (t.bstN r)) ((hF4.sys S5 hL5).get (.head _))))
  simp only [svV, decide_true] at hie
  repeat (first | (refine M0 ?_; first | refine SL ?_ | refine SB fun _ _ => ?_ | refine Y4 (Ev.plnEql rfl rfl) ?_) | (refine M1 ?_; refine SC ?_) | (refine M2 ?_; refine SE ?_))
  rw [show (decide ((t.bstP r).close = (t.bstP r).close) && decide ((t.bstP r).open_ = (t.bstP r).open_)) = true from by simp]
  repeat (first | (refine M0 ?_; first | refine SL ?_ | refine SB fun _ _ => ?_ | refine Y4 (Ev.call (f := 19) (ck rfl) rfl (fun w5 S5 => hie w5 S5 ZZHL)) ?_) | (refine M1 ?_; refine SC ?_) | (refine M2 ?_; refine SE ?_))
  rw [show decide (t.bstE r = t.bstE r) = true from decide_eq_true rfl]
  repeat (first | (refine M0 ?_; first | refine SL ?_ | refine SB fun _ _ => ?_ | refine Y4 (Ev.call (f := 9) (ck rfl) rfl (fun w5 S5 => haw w5 S5)) ?_) | (refine M1 ?_; refine SC ?_) | (refine M2 ?_; refine SE ?_))
  refine XE.retg tok Tryz.results4 rfl (by simp only [and_self, and_true]) (fun w' S => ?_)
  exact ⟨rfl, hB4.trans S.toBelow⟩
end Go.Proofs.YtmpaiphakjogjaaGreat.X
/-
  The walk of lower of the statements (closure).
-/
namespace Go.Proofs.YtmpaiphakjogjaaGreat.Bs
open Go Go.Proofs.YtmpaiphakjogjaaGreat.X
set_option linter.unusedVariables false
def lowV (bs : List Int) (v : Int) (i : Nat) : Int := if 0 < bs.length then max (-20000) (v - at0 bs (i % bs.length)) else v
def lowTo (l bs : List Int) (n : Nat) : List Int := (List.range n).map fun i => lowV bs (at0 l i) i
end Go.Proofs.YtmpaiphakjogjaaGreat.Bs
namespace Go.Proofs.YtmpaiphakjogjaaGreat.X
open Go Go.RowKit Go.Proofs.YtmpaiphakjogjaaGreat.Bs
set_option linter.unusedVariables false
def LowR (h : His) (bs : List Int) (x : Value) (new : List Held) : Prop := ∃ q : SV, x = .agg ⟨[.int .i64 h.from_, svV q]⟩ ∧ new = [hInts q (lowTo h.vals bs h.vals.length)]
end Go.Proofs.YtmpaiphakjogjaaGreat.X
