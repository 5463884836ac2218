/-
  The walk of holds (closure's check).
-/
import Derived.Test.YtmpaiphakjogjaaPart4
import Derived.Test.YtmpaiphakjogjaaPart3
set_option linter.unusedVariables false
set_option linter.unusedSimpArgs false
namespace Go.Proofs.Ytmpaiphakjogjaa.X
open Go Go.RowKit Go.Proofs.Ytmpaiphakjogjaa.Bs
set_option linter.unusedVariables false
noncomputable def _root_.Go.Proofs.Ytmpaiphakjogjaa.Bs.CTk.hldsB (t : CTk) (d : CDe) : Bool := decide (d.plan = nev) || (decide (d.plan = t.plan (d.plan.close - t.from_)) && !(t.wit (d.plan.close - t.from_)).isSome)
theorem mustE_t (v : Value) : mustE true v = .returned (.tuple #[]) := rfl
section
variable {t : CTk} {v : CTV} {r : CRu} {b0 g gr gc gm : Nat} {ks : List Nat} {w : World} {q1 q2 : SV} {d : CDe}
set_option maxHeartbeats 16000000 in
theorem holdsC_any (hG : Gam t v b0 g gm ks [] [] w) (ho : CtOk t) (hc : w.heap[gc]? = some (chkO gr q1 q2 d)) (hr : w.heap[gr]? = some (rulO g r)) (hgc : gc ∈ ks) (hgr : gr ∈ ks) (hbc : b0 ≤ gc) (hbr : b0 ≤ gr) (hst : t.strange d.plan = false)
    (hm : d.plan ≠ nev → t.may r (d.plan.close - t.from_) = true) :
    Calls Try.prog 68 #[.pointer (some ⟨gc, 0, none⟩)] w (GamE t b0 gm ks (mustE (t.hldsB d) (refV 0 151)) w) := by
  have hg : w.heap[g]? = some (gamO v t gm) := hG.game
  have n1 : gc ≠ gr := fun e => by subst e; rw [hr] at hc; simp [chkO, rulO, chkC, rulC] at hc
  have n2 : gc ≠ g := fun e => by subst e; rw [hg] at hc; simp [chkO, gamO, chkC, gamC] at hc
  have n3 : gr ≠ g := fun e => by subst e; rw [hg] at hr; simp [rulO, gamO, rulC, gamC] at hr
  have hb0 : b0 ≤ w.heap.size := hG.fam.base
  have S0 := Sys.start3 (B := b0) hb0 hbc hbr hG.bg hc hr hg n1 n2 n3
  have hrm : gr ≠ gm := fun e => hG.nin (e ▸ hgr)
  have hcm : gc ≠ gm := fun e => hG.nin (e ▸ hgc)
  have hgs := hG.gin
  have h60 := ho.n60
  have hfr := ho.frm
  have hdl := ho.dly
  have hsh := fun {L : Lo} {W : World} (w5 : World) (S5 : Sys b0 W L w5) (m1 : (gc, chkO gr q1 q2 d) ∈ L) => shut_any (S5.own _ m1).2
  have hix := fun (hi : i64in (d.plan.close - t.from_)) {L : Lo} {W : World} (w5 : World) (S5 : Sys b0 W L w5) (m0 : (gc, chkO gr q1 q2 d) ∈ L) (m1 : (gr, rulO g r) ∈ L) (m2 : (g, gamO v t gm) ∈ L) => cindex_any (t := t) (S5.own _ m0).2 (S5.own _ m1).2 (S5.own _ m2).2 hi
  obtain ⟨⟨c, o⟩, l1, l2⟩ := d
  by_cases hn : (⟨c, o⟩ : CPl) = nev
  · obtain ⟨rfl, rfl⟩ : c = -1 ∧ o = -1 := ⟨congrArg CPl.close hn, congrArg CPl.open_ hn⟩
    have e0 : decide ((⟨-1, -1⟩ : CPl) ≠ nev) = false := decide_eq_false fun h => h rfl
    simp only [e0] at hsh
    have e1 : t.hldsB ⟨⟨-1, -1⟩, l1, l2⟩ = true := by unfold CTk.hldsB; rw [decide_eq_true hn]; rfl
    rw [e1, mustE_t]
    simp only [chkO, chkC, decC, svV, rulO, rulC, gamO, gamC] at S0
    refine enterL Try.func68 rfl Try.ntmps68 rfl (S0) ?_; simp only [frame, Nat.zero_add, Nat.reduceAdd]
    refine XC.hint 0 2 ?_
    repeat (first | (refine M0 ?_; first | refine SL ?_ | refine SB fun _ _ => ?_ | refine Y4 (Ev.call (f := 91) (ck rfl) rfl (fun w5 S5 => hsh w5 S5 (.head _))) ?_) | (refine M1 ?_; refine SC ?_) | (refine M2 ?_; refine SE ?_))
    refine XE.retg tok Try.results68 rfl (by simp only [and_self, and_true]) (fun w' S => ?_)
    exact GamE.of (GamR.end2 (kk := []) (R := fun _ _ => True) (x := .nilFunc) hG Since.refl S (.tail _ (.tail _ (.head _))) trivial ZZHM (own3 hg hr hc ZZO4))
  · obtain ⟨b1, b2⟩ := strange_f hst hn
    obtain ⟨c1, c2, c3, c4⟩ := may_in (hm hn)
    simp only at b1 b2 c2 c3 c4
    have hix := @hix (by unfold i64in; simp only; unfold CTk.last at b1; omega)
    have e0 : decide ((⟨c, o⟩ : CPl) ≠ nev) = true := decide_eq_true hn
    simp only [e0] at hsh
    obtain ⟨i, hi⟩ : ∃ i : Nat, c - t.from_ = (i : Nat) := ⟨(c - t.from_).toNat, by omega⟩
    simp only [hi] at hix
    rw [hi] at c3
    have e1 : t.hldsB ⟨⟨c, o⟩, l1, l2⟩ = (decide (c = (t.plan (i : Nat)).close) && decide (o = (t.plan (i : Nat)).open_) && !(t.wit (i : Nat)).isSome) := by
      unfold CTk.hldsB
      simp only
      rw [decide_eq_false hn, hi, Bool.false_or]
      congr 1
      obtain ⟨a, b⟩ := t.plan (i : Nat)
      by_cases x1 : c = a <;> by_cases x2 : o = b <;> simp [x1, x2]
    rw [e1]
    have hl1 : -31 ≤ t.last ∧ t.last ≤ 60 := by unfold CTk.last; omega
    have hpl := fun {L : Lo} {B : Nat} {W1 : World} (w9 : World) (S9 : Sys B W1 L w9) (hm : (g, gamO v t gm) ∈ L) => plan_any (v := v) (t := t) (gm := gm) (i := (i : Nat)) (S9.own _ hm).2 ho ⟨by omega, by omega⟩
    simp only [plnV] at hpl
    simp only [chkO, chkC, decC, svV, rulO, rulC, gamO, gamC] at S0
    refine enterL Try.func68 rfl Try.ntmps68 rfl (S0) ?_; simp only [frame, Nat.zero_add, Nat.reduceAdd]
    refine XC.hint 0 2 ?_
    repeat (first | (refine M0 ?_; first | refine SL ?_ | refine SB fun _ _ => ?_ | refine Y4 (Ev.call (f := 91) (ck rfl) rfl (fun w5 S5 => hsh w5 S5 (.head _))) ?_) | (refine M1 ?_; refine SC ?_) | (refine M2 ?_; refine SE ?_))
    refine XC.cutn [0] rfl (fun z : World => [(3, .bool (t.wit (i : Nat)).isSome)]) (fun _ => [(gc, cel 137 (chkC gr q1 q2 ⟨⟨c, o⟩, l1, l2⟩)), (gr, rulO g r), (g, gamO v t gm)]) (fun z => z) (fun z => Gam t v b0 g gm ks [] [] z ∧ Since w gm z) ?_ ?_
    · have hB : Below b0 w w := Below.refl b0 w
      simp only [rulO, rulC, gamO, gamC]
      refine XC.drawRS (trunc w b0) [(gc, cel 137 [.pointer (some ⟨gr, 0, none⟩), .int .i64 c, .int .i64 o, .slice q1.A q1.n q1.c, .slice q2.A q2.n q2.c])] [0, 1, 2, 3, 4] [5, 6, 7, 8, 9, 10, 11, 12] mixed (fun _ h => Sys.anchorT hB h (fun e he => by rw [List.mem_singleton.1 he]; exact .head _) (by simp) hb0) rfl (by kernel_rfl) ?_
      repeat (any_goals (first | (refine M0 ?_; first | refine SL ?_ | refine SB fun _ _ => ?_ | refine Y4 (Ev.load_loc tok 0 (g := gc) (o := 0) rfl rfl rfl rfl) ?_ | refine Y4 (Ev.call (f := 92) (ck rfl) rfl (fun w5 S5 => hix w5 S5 (by first | exact .head _ | exact .tail _ (.head _)) (by first | exact .tail _ (.head _) | exact .tail _ (.tail _ (.head _))) (by first | exact .tail _ (.tail _ (.head _)) | exact .tail _ (.tail _ (.tail _ (.head _)))))) ?_ | (refine XL.at_call 58 ?_; refine XL.callI (WitX t (i : Nat)) (ck rfl) rfl rfl hG Since.refl (by first | exact .tail _ (.tail _ (.head _)) | exact .tail _ (.tail _ (.tail _ (.head _)))) (fun w5 ks2 S5 hL5 hG5 => witness_any hG5 ho (S5.own (gr, rulO g r) (by first | exact .tail _ (.head _) | exact .tail _ (.tail _ (.head _)))).2 (hL5 (gr, rulO g r) (by first | exact .tail _ (.head _) | exact .tail _ (.tail _ (.head _)))) hbr c3) (fun w5 x new hR hG5 hS5 => ?_) ZZHM (own3 hg hr hc ZZO4); obtain ⟨rfl, rfl⟩ := hR; have hB5 : Below b0 w w5 := hS5.below hG.bm hb0; have hz5 := hS5.size)) | (refine M1 ?_; refine SC ?_) | (refine M2 ?_; first | refine SE ?_ | ((with_reducible refine atHeld ?_); refine z7 ?_)) | (refine M3 ?_; first | refine SG ?_ | refine SF ?_ | refine YF (Ev.load_loc tok 0 (g := gc) (o := 0) rfl rfl rfl rfl) ?_ | refine YF (Ev.call (f := 92) (ck rfl) rfl (fun w5 S5 => hix w5 S5 (by first | exact .head _ | exact .tail _ (.head _)) (by first | exact .tail _ (.head _) | exact .tail _ (.tail _ (.head _))) (by first | exact .tail _ (.tail _ (.head _)) | exact .tail _ (.tail _ (.tail _ (.head _)))))) ?_) | (refine M4 ?_; refine SR ?_) | (refine M5 ?_; first | exact M7 | refine YM ?_ | refine YN ?_ ?_)))
      any_goals (repeat (first | exact AnyR.nil | refine AnyR.skip rfl ?_))
      all_goals
        exact XE.leafW (fun z9 S9 => ⟨z9, ⟨hG5.on (ks := ks) S9 (by repeat (first | exact List.mem_cons_self | apply List.mem_cons_of_mem)) ZZMK (fun x hx => List.mem_append_right _ (List.mem_append_right _ hx)) hgs (fun x hx => hx), Since.end2 hG5 hS5 S9 ZZMK (own3 (hS5.keep hg hG.ne) (hS5.keep hr hrm) (hS5.keep hc hcm) ZZO4)⟩, ZZSUB, S9.rebase ZZSM⟩)
    rintro z ⟨hGz, hSz⟩
    simp only [chkO, chkC, decC, svV, rulO, rulC, gamO, gamC]
    dsimp only [List.cons_append, List.nil_append]
    cases hb : (decide (c = (t.plan (i : Nat)).close) && decide (o = (t.plan (i : Nat)).open_)) with
    | false =>
      refine XC.drawT mixed rfl rfl (by kernel_rfl) ?_
      repeat (first | (refine M0 ?_; first | refine SL ?_ | refine SB fun _ _ => ?_ | refine Y4 (Ev.load_loc_agg tok 0 (g := gc) (o := 1) rfl rfl rfl rfl) ?_ | refine Y4 (Ev.load_loc tok 1 (g := gr) (o := 0) rfl rfl rfl rfl) ?_ | refine Y4 (Ev.call (f := 92) (ck rfl) rfl (fun w5 S5 => hix w5 S5 (.head _) (.tail _ (.head _)) (.tail _ (.tail _ (.head _))))) ?_ | refine Y4 (Ev.call (f := 50) (ck rfl) rfl (fun w5 S5 => hpl w5 S5 (.tail _ (.tail _ (.head _))))) ?_ | refine Y4 (Ev.plnEql rfl rfl) ?_) | (refine M2 ?_; refine SE ?_) | (refine M3 ?_; first | refine SG ?_ | refine SF ?_ | refine YF (Ev.load_loc_agg tok 0 (g := gc) (o := 1) rfl rfl rfl rfl) ?_ | refine YF (Ev.load_loc tok 1 (g := gr) (o := 0) rfl rfl rfl rfl) ?_ | refine YF (Ev.call (f := 92) (ck rfl) rfl (fun w5 S5 => hix w5 S5 (.head _) (.tail _ (.head _)) (.tail _ (.tail _ (.head _))))) ?_ | refine YF (Ev.call (f := 50) (ck rfl) rfl (fun w5 S5 => hpl w5 S5 (.tail _ (.tail _ (.head _))))) ?_ | refine YF (Ev.plnEql rfl rfl) ?_) | (refine M4 ?_; refine SR ?_) | (refine M5 ?_; first | exact M7 | refine YM ?_ | refine YN ?_ ?_))
      rw [hb]
      repeat (first | (refine M0 ?_; first | refine SL ?_ | refine SB fun _ _ => ?_) | (refine M2 ?_; refine SE ?_) | (refine M3 ?_; first | refine SG ?_ | refine SF ?_) | (refine M4 ?_; refine SR ?_) | (refine M5 ?_; first | exact M7 | refine YM ?_ | refine YN ?_ ?_))
      refine XL.callM false (refV 0 151) (ck rfl) rfl rfl (fun w _ => must_any _ _ _ w) (fun h => by cases h) (fun _ => ?_)
      exact XE.panic0 fun w' S => GamE.of (GamR.end2 (kk := []) (R := fun _ _ => True) (x := .nilFunc) hGz hSz S (.tail _ (.tail _ (.head _))) trivial ZZHM (own3 hGz.game (hSz.keep hr hrm) (hSz.keep hc hcm) ZZO4))
    | true =>
      cases hw : (t.wit (i : Nat)).isSome with
      | false =>
        refine XC.drawT mixed rfl rfl (by kernel_rfl) ?_
        repeat (first | (refine M0 ?_; first | refine SL ?_ | refine SB fun _ _ => ?_ | refine Y4 (Ev.load_loc_agg tok 0 (g := gc) (o := 1) rfl rfl rfl rfl) ?_ | refine Y4 (Ev.load_loc tok 1 (g := gr) (o := 0) rfl rfl rfl rfl) ?_ | refine Y4 (Ev.call (f := 92) (ck rfl) rfl (fun w5 S5 => hix w5 S5 (.head _) (.tail _ (.head _)) (.tail _ (.tail _ (.head _))))) ?_ | refine Y4 (Ev.call (f := 50) (ck rfl) rfl (fun w5 S5 => hpl w5 S5 (.tail _ (.tail _ (.head _))))) ?_ | refine Y4 (Ev.plnEql rfl rfl) ?_) | (refine M2 ?_; refine SE ?_) | (refine M3 ?_; first | refine SG ?_ | refine SF ?_ | refine YF (Ev.load_loc_agg tok 0 (g := gc) (o := 1) rfl rfl rfl rfl) ?_ | refine YF (Ev.load_loc tok 1 (g := gr) (o := 0) rfl rfl rfl rfl) ?_ | refine YF (Ev.call (f := 92) (ck rfl) rfl (fun w5 S5 => hix w5 S5 (.head _) (.tail _ (.head _)) (.tail _ (.tail _ (.head _))))) ?_ | refine YF (Ev.call (f := 50) (ck rfl) rfl (fun w5 S5 => hpl w5 S5 (.tail _ (.tail _ (.head _))))) ?_ | refine YF (Ev.plnEql rfl rfl) ?_) | (refine M4 ?_; refine SR ?_) | (refine M5 ?_; first | exact M7 | refine YM ?_ | refine YN ?_ ?_))
        rw [hb]
        repeat (first | (refine M0 ?_; first | refine SL ?_ | refine SB fun _ _ => ?_) | (refine M2 ?_; refine SE ?_) | (refine M3 ?_; first | refine SG ?_ | refine SF ?_) | (refine M4 ?_; refine SR ?_) | (refine M5 ?_; first | exact M7 | refine YM ?_ | refine YN ?_ ?_))
        refine XL.callM true (refV 0 151) (ck rfl) rfl rfl (fun w _ => must_any _ _ _ w) (fun _ => ?_) (fun h => by cases h)
        repeat (first | (refine M0 ?_; first | refine SL ?_ | refine SB fun _ _ => ?_) | (refine M1 ?_; refine SC ?_) | (refine M2 ?_; refine SE ?_))
        exact XE.end0 Try.results68 fun w' S => GamE.of (GamR.end2 (kk := []) (R := fun _ _ => True) (x := .nilFunc) hGz hSz S (.tail _ (.tail _ (.head _))) trivial ZZHM (own3 hGz.game (hSz.keep hr hrm) (hSz.keep hc hcm) ZZO4))
      | true =>
        refine XC.drawT mixed rfl rfl (by kernel_rfl) ?_
        repeat (first | (refine M0 ?_; first | refine SL ?_ | refine SB fun _ _ => ?_ | refine Y4 (Ev.load_loc_agg tok 0 (g := gc) (o := 1) rfl rfl rfl rfl) ?_ | refine Y4 (Ev.load_loc tok 1 (g := gr) (o := 0) rfl rfl rfl rfl) ?_ | refine Y4 (Ev.call (f := 92) (ck rfl) rfl (fun w5 S5 => hix w5 S5 (.head _) (.tail _ (.head _)) (.tail _ (.tail _ (.head _))))) ?_ | refine Y4 (Ev.call (f := 50) (ck rfl) rfl (fun w5 S5 => hpl w5 S5 (.tail _ (.tail _ (.head _))))) ?_ | refine Y4 (Ev.plnEql rfl rfl) ?_) | (refine M2 ?_; refine SE ?_) | (refine M3 ?_; first | refine SG ?_ | refine SF ?_ | refine YF (Ev.load_loc_agg tok 0 (g := gc) (o := 1) rfl rfl rfl rfl) ?_ | refine YF (Ev.load_loc tok 1 (g := gr) (o := 0) rfl rfl rfl rfl) ?_ | refine YF (Ev.call (f := 92) (ck rfl) rfl (fun w5 S5 => hix w5 S5 (.head _) (.tail _ (.head _)) (.tail _ (.tail _ (.head _))))) ?_ | refine YF (Ev.call (f := 50) (ck rfl) rfl (fun w5 S5 => hpl w5 S5 (.tail _ (.tail _ (.head _))))) ?_ | refine YF (Ev.plnEql rfl rfl) ?_) | (refine M4 ?_; refine SR ?_) | (refine M5 ?_; first | exact M7 | refine YM ?_ | refine YN ?_ ?_))
        rw [hb]
        repeat (first | (refine M0 ?_; first | refine SL ?_ | refine SB fun _ _ => ?_) | (refine M2 ?_; refine SE ?_) | (refine M3 ?_; first | refine SG ?_ | refine SF ?_) | (refine M4 ?_; refine SR ?_) | (refine M5 ?_; first | exact M7 | refine YM ?_ | refine YN ?_ ?_))
        refine XL.callM false (refV 0 151) (ck rfl) rfl rfl (fun w _ => must_any _ _ _ w) (fun h => by cases h) (fun _ => ?_)
        exact XE.panic0 fun w' S => GamE.of (GamR.end2 (kk := []) (R := fun _ _ => True) (x := .nilFunc) hGz hSz S (.tail _ (.tail _ (.head _))) trivial ZZHM (own3 hGz.game (hSz.keep hr hrm) (hSz.keep hc hcm) ZZO4))
end
end Go.Proofs.Ytmpaiphakjogjaa.X
/-
  The walk of heights (closure's check).
-/
namespace Go.Proofs.Ytmpaiphakjogjaa.X
open Go Go.RowKit Go.Proofs.Ytmpaiphakjogjaa.Bs
set_option linter.unusedVariables false
/-- how heights ends. -/
noncomputable def _root_.Go.Proofs.Ytmpaiphakjogjaa.Bs.CTk.hgtE (t : CTk) (d : CDe) : Ending := match firstB (fun k => decide (d.peaks[k]?.getD (0, 0) ≠ t.peak d.plan k)) t.m with
  | none => .returned (.tuple #[])
  | some k => .panicked (pan (refV (k : Nat) 152))
section
variable {t : CTk} {v : CTV} {r : CRu} {b0 g gr gc gm : Nat} {ks : List Nat} {w : World} {q1 q2 : SV} {d : CDe}
set_option maxHeartbeats 16000000 in
theorem heights_any (hG : Gam t v b0 g gm ks [] [] w) (ho : CtOk t) (hc : w.heap[gc]? = some (chkO gr q1 q2 d)) (hr : w.heap[gr]? = some (rulO g r)) (hgc : gc ∈ ks) (hgr : gr ∈ ks) (hbc : b0 ≤ gc) (hbr : b0 ≤ gr) (hst : t.strange d.plan = false)
    (hall : ∀ k i, k < t.m → i < t.n → (t.ins k d.plan i).isSome = true) (hL1 : ListAt pekK5 w (Lt b0) q1 d.peaks) (hlen : d.peaks.length = t.m) :
    Calls Try.prog 69 #[.pointer (some ⟨gc, 0, none⟩)] w (GamE t b0 gm ks (t.hgtE d) w) := by
  have hg : w.heap[g]? = some (gamO v t gm) := hG.game
  have n1 : gc ≠ gr := fun e => by subst e; rw [hr] at hc; simp [chkO, rulO, chkC, rulC] at hc
  have n2 : gc ≠ g := fun e => by subst e; rw [hg] at hc; simp [chkO, gamO, chkC, gamC] at hc
  have n3 : gr ≠ g := fun e => by subst e; rw [hg] at hr; simp [rulO, gamO, rulC, gamC] at hr
  have hb0 : b0 ≤ w.heap.size := hG.fam.base
  have S0 := Sys.start3 (B := b0) hb0 hbc hbr hG.bg hc hr hg n1 n2 n3
  have hrm : gr ≠ gm := fun e => hG.nin (e ▸ hgr)
  have hcm : gc ≠ gm := fun e => hG.nin (e ▸ hgc)
  have hgs := hG.gin
  have hm8 := ho.m8
  have lgc := hG.lt gc (.tail _ hgc)
  have lgr := hG.lt gr (.tail _ hgr)
  have lg := hG.lt g (.tail _ hgs)
  have hpk := fun (k : Nat) (hk : k < t.m) (w5 : World) (ks2 : List Nat) (hG5 : Gam t v b0 g gm ks2 [] [] w5) (hr5 : w5.heap[gr]? = some (rulO g r)) (h5 : gr ∈ ks2) => peak_any hG5 ho hr5 h5 hbr hk hst (hall k · hk)
  have hn1 := hL1.len (by decide)
  obtain ⟨q1A, q1n, q1c⟩ := q1
  simp only at hn1
  rw [hlen] at hn1
  subst hn1
  obtain ⟨⟨c, o⟩, l1, l2⟩ := d
  simp only at hlen hL1
  simp only [plnV] at hpk
  simp only [chkO, chkC, decC, svV, rulO, rulC, gamO, gamC] at S0
  refine enterL Try.func69 rfl Try.ntmps69 rfl (S0) ?_; simp only [frame, Nat.zero_add, Nat.reduceAdd]
  refine XC.hint 0 2 ?_
  repeat (first | (refine M0 ?_; first | refine SL ?_ | refine SB fun _ _ => ?_) | (refine M1 ?_; refine SC ?_) | (refine M2 ?_; refine SE ?_))
  refine XC.loopk [0, 8, 9] rfl (fun z : Nat × World => [(10, .int .i64 (z.1 : Nat))]) (fun _ => [(gc, cel 137 (chkC gr ⟨q1A, t.m, q1c⟩ q2 ⟨⟨c, o⟩, l1, l2⟩)), (gr, rulO g r), (g, gamO v t gm)]) (fun z => z.2)
    (fun z => z.1 ≤ t.m ∧ Gam t v b0 g gm ks [] [] z.2 ∧ Since w gm z.2 ∧ ∀ j, j < z.1 → l1[j]?.getD (0, 0) = t.peak ⟨c, o⟩ j) (fun z => t.m - z.1) (0, w) ⟨Nat.zero_le _, hG, Since.refl, fun j hj => absurd hj (by simp)⟩ ZZSUB (fun _ h => h) ?_
  rintro ⟨k, W⟩ ⟨hk, hGW, hSW, hno⟩
  simp only at hk hGW hSW hno
  have hgW := hGW.game
  have hrW := hSW.keep hr hrm
  have hcW := hSW.keep hc hcm
  have hzW := hSW.size
  have hBW : Below b0 w W := hSW.below hG.bm hb0
  simp only [chkO, chkC, decC, svV, rulO, rulC, gamO, gamC]
  dsimp only [List.cons_append, List.nil_append]
  repeat (first | (refine M0 ?_; first | refine SL ?_ | refine SB fun _ _ => ?_) | (refine M1 ?_; refine SC ?_) | (refine M2 ?_; refine SE ?_))
  refine XC.cond _ rfl (fun h1 => ?_) (fun h1 => ?_)
  rotate_left
  · have hkm : k = t.m := by have := of_decide_eq_false h1; omega
    subst hkm
    repeat (first | (refine M0 ?_; first | refine SL ?_ | refine SB fun _ _ => ?_) | (refine M1 ?_; refine SC ?_) | (refine M2 ?_; refine SE ?_))
    refine XE.end0 Try.results69 fun w' S => ?_
    have e1 : t.hgtE ⟨⟨c, o⟩, l1, l2⟩ = .returned (.tuple #[]) := by
      unfold CTk.hgtE
      rw [firstB_none.2 fun j hj => by simp only [decide_eq_false_iff_not]; exact fun h => h (hno j hj)]
    rw [e1]
    exact GamE.of (GamR.end2 (kk := []) (R := fun _ _ => True) (x := .nilFunc) hGW hSW S (.tail _ (.tail _ (.head _))) trivial ZZHM (own3 hgW hrW hcW ZZO4))
  have hkm : k < t.m := by have := of_decide_eq_true h1; omega
  have hL1W := hL1.below hBW
  obtain ⟨ad, rfl, hlt⟩ := hL1.addr (by decide) (by omega)
  have hkl : k < l1.length := by omega
  obtain ⟨⟨pa, pb⟩, hpe⟩ : ∃ x, l1[k]? = some x := ⟨_, List.getElem?_eq_getElem hkl⟩
  have hel := hL1W.elem hpe
  repeat (first | (refine M0 ?_; first | refine SL ?_ | refine SB fun _ _ => ?_ | refine Y4 (Ev.load_old_agg tok [.int .i64 pa, .int .i64 pb] rfl rfl rfl (add_lt hlt) hel) ?_) | (refine M1 ?_; refine SC ?_) | (refine M2 ?_; refine SE ?_))
  rename_i g3 hg3
  refine XC.drawRT (trunc w b0) [(g3, cel 76 [.int .i64 pa, .int .i64 pb]), (gc, cel 137 [.pointer (some ⟨gr, 0, none⟩), .int .i64 c, .int .i64 o, .slice (some ad) t.m q1c, .slice q2.A q2.n q2.c]), (gr, rulO g r), (g, gamO v t gm)] [0, 1, 2, 3, 4, 5, 6, 7, 8, 9, 10, 13] [11, 12] mixed (fun _ h => Sys.anchorT hBW h (by intro e he; repeat (first | (cases he; done) | (rcases List.mem_cons.1 he with rfl | he; · repeat (first | exact List.mem_cons_self | apply List.mem_cons_of_mem)))) (by simp [n1, n2, n3]; omega) hb0) rfl rfl (by kernel_rfl) rfl (by kernel_rfl) ?_
  repeat (first | (refine M0 ?_; first | refine SL ?_ | refine SB fun _ _ => ?_ | refine Y4 (Ev.load_loc_agg tok 0 (g := g3) (o := 0) rfl rfl rfl rfl) ?_ | refine Y4 (Ev.load_loc tok 1 (g := gc) (o := 0) rfl rfl rfl rfl) ?_ | refine Y4 (Ev.load_loc_agg tok 1 (g := gc) (o := 1) rfl rfl rfl rfl) ?_) | (refine M2 ?_; refine SE ?_) | (refine M3 ?_; first | refine SG ?_ | refine SF ?_ | refine YF (Ev.load_loc_agg tok 0 (g := g3) (o := 0) rfl rfl rfl rfl) ?_ | refine YF (Ev.load_loc tok 1 (g := gc) (o := 0) rfl rfl rfl rfl) ?_ | refine YF (Ev.load_loc_agg tok 1 (g := gc) (o := 1) rfl rfl rfl rfl) ?_) | (refine M4 ?_; refine SR ?_) | (refine M5 ?_; first | exact M7 | refine YM ?_ | refine YN ?_ ?_))
  refine XL.callI (PekX t k ⟨c, o⟩) (ck rfl) rfl rfl hGW hSW (.tail _ (.tail _ (.tail _ (.head _)))) (fun w5 ks2 S5 hL5 hG5 => hpk k hkm w5 ks2 hG5 (S5.own (gr, rulO g r) (.tail _ (.tail _ (.head _)))).2 (hL5 (gr, rulO g r) (.tail _ (.tail _ (.head _))))) (fun w5 x new hR hG5 hS5 => ?_) ZZMK (own3 hgW hrW hcW ZZO4)
  obtain ⟨rfl, rfl⟩ := hR
  have hz5 := hS5.size
  have hB5 : Below b0 w w5 := hS5.below hG.bm hb0
  have hg5 := hG5.game
  have hr5 := hS5.keep hr hrm
  have hc5 := hS5.keep hc hcm
  simp only [iiV]
  repeat (first | (refine M0 ?_; first | refine SL ?_ | refine SB fun _ _ => ?_ | refine Y4 (Ev.pekEql rfl rfl) ?_) | (refine M2 ?_; refine SE ?_) | (refine M3 ?_; first | refine SG ?_ | refine SF ?_ | refine YF (Ev.pekEql rfl rfl) ?_) | (refine M4 ?_; refine SR ?_) | (refine M5 ?_; first | exact M7 | refine YM ?_ | refine YN ?_ ?_))
  refine z7 ?_
  repeat (first | (refine M0 ?_; first | refine SL ?_ | refine SB fun _ _ => ?_ | refine Y4 (Ev.pekEql rfl rfl) ?_) | (refine M2 ?_; refine SE ?_) | (refine M3 ?_; first | refine SG ?_ | refine SF ?_ | refine YF (Ev.pekEql rfl rfl) ?_) | (refine M4 ?_; refine SR ?_) | (refine M5 ?_; first | exact M7 | refine YM ?_ | refine YN ?_ ?_))
  refine z7 ?_
  repeat (first | (refine M0 ?_; first | refine SL ?_ | refine SB fun _ _ => ?_) | (refine M2 ?_; refine SE ?_) | (refine M3 ?_; first | refine SG ?_ | refine SF ?_) | (refine M4 ?_; refine SR ?_) | (refine M5 ?_; first | exact M7 | refine YM ?_ | refine YN ?_ ?_))
  refine XE.lastZ (fun _ _ h => h) ?_
  cases hb : (decide (pa = (t.peak ⟨c, o⟩ k).1) && decide (pb = (t.peak ⟨c, o⟩ k).2)) with
  | true =>
    have hpq : l1[k]?.getD (0, 0) = t.peak ⟨c, o⟩ k := by
      rw [hpe]
      simp only [Bool.and_eq_true, decide_eq_true_eq] at hb
      exact Prod.ext hb.1 hb.2
    refine XL.callM true (refV (k : Nat) 152) (ck rfl) rfl rfl (fun w _ => must_any _ _ _ w) (fun _ => ?_) (fun h => by cases h)
    repeat (first | (refine M0 ?_; first | refine SL ?_ | refine SB fun _ _ => ?_) | (refine M1 ?_; refine SC ?_) | (refine M2 ?_; refine SE ?_))
    refine XE.roundW (s := (k, W)) (fun w9 S9 => ⟨(k + 1, w9), ⟨hkm, hG5.on (ks := ks) S9 (by repeat (first | exact List.mem_cons_self | apply List.mem_cons_of_mem)) ZZMK (fun x hx => List.mem_append_right _ (List.mem_append_right _ hx)) hgs (fun x hx => hx), Since.end2 hG5 hS5 S9 ZZMK (own3 hg5 hr5 hc5 ZZO4), fun j hj => ?_⟩, by simp only; omega, ZZSUB, S9.rebase ZZSM⟩)
    rcases Nat.lt_or_ge j k with h2 | h2
    · exact hno j h2
    · have : j = k := by omega
      subst this
      exact hpq
  | false =>
    refine XL.callM false (refV (k : Nat) 152) (ck rfl) rfl rfl (fun w _ => must_any _ _ _ w) (fun h => by cases h) (fun _ => ?_)
    refine ⟨fun a w' hf S => And.intro hf.defers ?_⟩
    have e1 : t.hgtE ⟨⟨c, o⟩, l1, l2⟩ = .panicked (pan (refV (k : Nat) 152)) := by
      unfold CTk.hgtE
      rw [firstB_some.2 ⟨hkm, ?_, fun j hj => by simp only [decide_eq_false_iff_not]; exact fun h => h (hno j hj)⟩]
      simp only [decide_eq_true_eq]
      rw [hpe]
      intro h
      simp only [Option.getD_some] at h
      rw [← h] at hb
      simp at hb
    rw [e1]
    exact GamE.of (GamR.end2 (kk := _) (R := fun _ _ => True) (x := .nilFunc) hG5 hS5 S (.tail _ (.tail _ (.tail _ (.head _)))) trivial ZZMK (own3 hg5 hr5 hc5 ZZO4))
  any_goals (repeat (first | exact AnyR.nil | refine AnyR.skip rfl ?_))
end
end Go.Proofs.Ytmpaiphakjogjaa.X
/-
  The walk of later (closure's check).
-/
namespace Go.Proofs.Ytmpaiphakjogjaa.X
open Go Go.RowKit Go.Proofs.Ytmpaiphakjogjaa.Bs
set_option linter.unusedVariables false
noncomputable def _root_.Go.Proofs.Ytmpaiphakjogjaa.Bs.CTk.manyI (t : CTk) (d : CDe) : Int := if d.plan = nev then 0 else t.last - (d.plan.close - t.from_)
/-- how later ends. -/
noncomputable def _root_.Go.Proofs.Ytmpaiphakjogjaa.Bs.CTk.latE (t : CTk) (d : CDe) : Ending := if (d.later.length : Int) ≠ t.manyI d then .panicked (pan (refV 0 2)) else
  match firstB (fun k => !t.rules (d.plan.close - t.from_ + 1 + (k : Nat)) (d.later[k]?.getD (0, 0))) d.later.length with
  | none => .returned (.tuple #[])
  | some k => .panicked (pan (refV (k : Nat) 153))
section
variable {t : CTk} {v : CTV} {r : CRu} {b0 g gr gc gm : Nat} {ks : List Nat} {w : World} {q1 q2 : SV} {d : CDe}
set_option maxHeartbeats 16000000 in
theorem later_any (hG : Gam t v b0 g gm ks [] [] w) (ho : CtOk t) (hc : w.heap[gc]? = some (chkO gr q1 q2 d)) (hr : w.heap[gr]? = some (rulO g r)) (hgc : gc ∈ ks) (hgr : gr ∈ ks) (hbc : b0 ≤ gc) (hbr : b0 ≤ gr) (hst : t.strange d.plan = false)
    (hm : d.plan ≠ nev → t.may r (d.plan.close - t.from_) = true) (hL2 : ListAt wtnK5 w (Lt b0) q2 d.later) :
    Calls Try.prog 70 #[.pointer (some ⟨gc, 0, none⟩)] w (GamE t b0 gm ks (t.latE d) w) := by
  have hg : w.heap[g]? = some (gamO v t gm) := hG.game
  have n1 : gc ≠ gr := fun e => by subst e; rw [hr] at hc; simp [chkO, rulO, chkC, rulC] at hc
  have n2 : gc ≠ g := fun e => by subst e; rw [hg] at hc; simp [chkO, gamO, chkC, gamC] at hc
  have n3 : gr ≠ g := fun e => by subst e; rw [hg] at hr; simp [rulO, gamO, rulC, gamC] at hr
  have hb0 : b0 ≤ w.heap.size := hG.fam.base
  have S0 := Sys.start3 (B := b0) hb0 hbc hbr hG.bg hc hr hg n1 n2 n3
  have hrm : gr ≠ gm := fun e => hG.nin (e ▸ hgr)
  have hcm : gc ≠ gm := fun e => hG.nin (e ▸ hgc)
  have hgs := hG.gin
  have hm8 := ho.m8
  have h60 := ho.n60
  have hfr := ho.frm
  have hdl := ho.dly
  have hl1 : -31 ≤ t.last ∧ t.last ≤ 60 := by unfold CTk.last; omega
  have lgc := hG.lt gc (.tail _ hgc)
  have lgr := hG.lt gr (.tail _ hgr)
  have lg := hG.lt g (.tail _ hgs)
  have hhn := hG.task.hn
  have hn2 := hL2.len (by decide)
  have hx2 := hL2.max
  have hsh := fun {L : Lo} {W : World} (w5 : World) (S5 : Sys b0 W L w5) (m1 : (gc, chkO gr q1 q2 d) ∈ L) => shut_any (S5.own _ m1).2
  have hix := fun (hi : i64in (d.plan.close - t.from_)) {L : Lo} {W : World} (w5 : World) (S5 : Sys b0 W L w5) (m0 : (gc, chkO gr q1 q2 d) ∈ L) (m1 : (gr, rulO g r) ∈ L) (m2 : (g, gamO v t gm) ∈ L) => cindex_any (t := t) (S5.own _ m0).2 (S5.own _ m1).2 (S5.own _ m2).2 hi
  have hla := fun {L : Lo} {W : World} (w5 : World) (S5 : Sys b0 W L w5) (m2 : (g, gamO v t gm) ∈ L) => last_any (v := v) (t := t) (gm := gm) (S5.own _ m2).2 ho
  have hidx : d.plan ≠ nev → ∃ i : Nat, d.plan.close - t.from_ = (i : Nat) ∧ (i : Int) ≤ t.last := fun hn => by
    obtain ⟨c1, c2, c3, c4⟩ := may_in (hm hn)
    exact ⟨(d.plan.close - t.from_).toNat, by omega, by omega⟩
  obtain ⟨vp, vf, ⟨Ah, nh, ch'⟩, vr⟩ := v
  simp only at hhn
  subst hhn
  obtain ⟨q2A, q2n, q2c⟩ := q2
  simp only at hn2 hx2
  subst hn2
  obtain ⟨⟨c, o⟩, l1, l2⟩ := d
  simp only at hL2 hidx hx2
  simp only [chkO, chkC, decC, svV, rulO, rulC, gamO, gamC] at S0
  refine enterL Try.func70 rfl Try.ntmps70 rfl (S0) ?_; simp only [frame, Nat.zero_add, Nat.reduceAdd]
  refine XC.hint 0 2 ?_
  repeat (first | (refine M0 ?_; first | refine SL ?_ | refine SB fun _ _ => ?_ | refine Y4 (Ev.call (f := 91) (ck rfl) rfl (fun w5 S5 => hsh w5 S5 (.head _))) ?_) | (refine M1 ?_; refine SC ?_) | (refine M2 ?_; refine SE ?_))
  refine XC.cutn [0] rfl (fun _ : World => [(2, .int .i64 (t.manyI ⟨⟨c, o⟩, l1, l2⟩))]) (fun _ => [(gc, cel 137 (chkC gr q1 ⟨q2A, l2.length, q2c⟩ ⟨⟨c, o⟩, l1, l2⟩)), (gr, rulO g r), (g, gamO ⟨vp, vf, ⟨Ah, t.m, ch'⟩, vr⟩ t gm)]) (fun z => z) (fun z => Gam t ⟨vp, vf, ⟨Ah, t.m, ch'⟩, vr⟩ b0 g gm ks [] [] z ∧ Since w gm z) ?_ ?_
  · by_cases hn : (⟨c, o⟩ : CPl) = nev
    · rw [show decide ((⟨c, o⟩ : CPl) ≠ nev) = false from decide_eq_false fun h => h hn]
      have e1 : t.manyI ⟨⟨c, o⟩, l1, l2⟩ = 0 := by unfold CTk.manyI; rw [if_pos hn]
      rw [e1]
      repeat (first | (refine M0 ?_; first | refine SL ?_ | refine SB fun _ _ => ?_) | (refine M1 ?_; refine SC ?_) | (refine M2 ?_; refine SE ?_))
      exact XE.leafW (fun z9 S9 => ⟨z9, ⟨hG.on (ks := ks) S9 (.tail _ (.tail _ (.head _))) ZZMK (fun x hx => List.mem_append_right _ hx) hgs (fun x hx => hx), Since.end2 hG Since.refl S9 ZZMK (own3 hg hr hc ZZO4)⟩, ZZSUB, S9.rebase ZZSM⟩)
    · rw [show decide ((⟨c, o⟩ : CPl) ≠ nev) = true from decide_eq_true hn]
      obtain ⟨i, hi, hil⟩ := hidx hn
      have hix := @hix (by unfold i64in; simp only; omega)
      simp only [hi] at hix
      have e1 : t.manyI ⟨⟨c, o⟩, l1, l2⟩ = t.last - (i : Nat) := by unfold CTk.manyI; rw [if_neg hn]; simp only; rw [hi]
      rw [e1]
      repeat (first | (refine M0 ?_; first | refine SL ?_ | refine SB fun _ _ => ?_ | refine Y4 (Ev.load_loc tok 1 (g := gr) (o := 0) rfl rfl rfl rfl) ?_ | refine Y4 (Ev.call (f := 49) (ck rfl) rfl (fun w5 S5 => hla w5 S5 (.tail _ (.tail _ (.head _))))) ?_ | refine Y4 (Ev.call (f := 92) (ck rfl) rfl (fun w5 S5 => hix w5 S5 (.head _) (.tail _ (.head _)) (.tail _ (.tail _ (.head _))))) ?_) | (refine M1 ?_; refine SC ?_) | (refine M2 ?_; refine SE ?_))
      exact XE.leafW (fun z9 S9 => ⟨z9, ⟨hG.on (ks := ks) S9 (.tail _ (.tail _ (.head _))) ZZMK (fun x hx => List.mem_append_right _ hx) hgs (fun x hx => hx), Since.end2 hG Since.refl S9 ZZMK (own3 hg hr hc ZZO4)⟩, ZZSUB, S9.rebase ZZSM⟩)
  rintro z ⟨hGz, hSz⟩
  simp only [chkC, decC, svV, rulO, rulC, gamO, gamC]
  dsimp only [List.cons_append, List.nil_append]
  repeat (first | (refine M0 ?_; first | refine SL ?_ | refine SB fun _ _ => ?_) | (refine M1 ?_; refine SC ?_) | (refine M2 ?_; refine SE ?_))
  have hgz := hGz.game
  have hrz := hSz.keep hr hrm
  have hcz := hSz.keep hc hcm
  by_cases hmn : (l2.length : Int) = t.manyI ⟨⟨c, o⟩, l1, l2⟩
  rotate_left
  · rw [show decide ((l2.length : Int) = t.manyI ⟨⟨c, o⟩, l1, l2⟩) = false from decide_eq_false hmn]
    refine XL.callM false (refV 0 2) (ck rfl) rfl rfl (fun w _ => must_any _ _ _ w) (fun h => by cases h) (fun _ => ?_)
    refine ⟨fun a w' hf S => And.intro hf.defers ?_⟩
    have e1 : t.latE ⟨⟨c, o⟩, l1, l2⟩ = .panicked (pan (refV 0 2)) := by unfold CTk.latE; rw [if_pos hmn]
    rw [e1]
    exact GamE.of (GamR.end2 (kk := []) (R := fun _ _ => True) (x := .nilFunc) hGz hSz S (.tail _ (.tail _ (.head _))) trivial ZZHM (own3 hgz hrz hcz ZZO4))
  rw [show decide ((l2.length : Int) = t.manyI ⟨⟨c, o⟩, l1, l2⟩) = true from decide_eq_true hmn]
  refine XL.callM true (refV 0 2) (ck rfl) rfl rfl (fun w _ => must_any _ _ _ w) (fun _ => ?_) (fun h => by cases h)
  repeat (first | (refine M0 ?_; first | refine SL ?_ | refine SB fun _ _ => ?_) | (refine M1 ?_; refine SC ?_) | (refine M2 ?_; refine SE ?_))
  refine XC.loopk [0, 32, 33] rfl (fun z : Nat × World => [(34, .int .i64 (z.1 : Nat))]) (fun _ => [(gc, cel 137 (chkC gr q1 ⟨q2A, l2.length, q2c⟩ ⟨⟨c, o⟩, l1, l2⟩)), (gr, rulO g r), (g, gamO ⟨vp, vf, ⟨Ah, t.m, ch'⟩, vr⟩ t gm)]) (fun z => z.2)
    (fun z => z.1 ≤ l2.length ∧ Gam t ⟨vp, vf, ⟨Ah, t.m, ch'⟩, vr⟩ b0 g gm ks [] [] z.2 ∧ Since w gm z.2 ∧ ∀ j, j < z.1 → t.rules (c - t.from_ + 1 + (j : Nat)) (l2[j]?.getD (0, 0)) = true) (fun z => l2.length - z.1) (0, z) ⟨Nat.zero_le _, hGz, hSz, fun j hj => absurd hj (by simp)⟩ ZZSUB (fun _ h => h) ?_
  rintro ⟨k, W⟩ ⟨hk, hGW, hSW, hno⟩
  simp only at hk hGW hSW hno
  have hgW := hGW.game
  have hrW := hSW.keep hr hrm
  have hcW := hSW.keep hc hcm
  have hzW := hSW.size
  have hBW : Below b0 w W := hSW.below hG.bm hb0
  simp only [chkC, decC, svV, rulO, rulC, gamO, gamC]
  dsimp only [List.cons_append, List.nil_append]
  repeat (first | (refine M0 ?_; first | refine SL ?_ | refine SB fun _ _ => ?_) | (refine M1 ?_; refine SC ?_) | (refine M2 ?_; refine SE ?_))
  refine XC.cond _ rfl (fun h1 => ?_) (fun h1 => ?_)
  rotate_left
  · have hkm : k = l2.length := by have := of_decide_eq_false h1; omega
    subst hkm
    repeat (first | (refine M0 ?_; first | refine SL ?_ | refine SB fun _ _ => ?_) | (refine M1 ?_; refine SC ?_) | (refine M2 ?_; refine SE ?_))
    refine XE.end0 Try.results70 fun w' S => ?_
    have e1 : t.latE ⟨⟨c, o⟩, l1, l2⟩ = .returned (.tuple #[]) := by
      unfold CTk.latE
      rw [if_neg (fun h => h hmn)]
      simp only
      rw [firstB_none.2 fun j hj => by rw [hno j hj]; rfl]
    rw [e1]
    exact GamE.of (GamR.end2 (kk := []) (R := fun _ _ => True) (x := .nilFunc) hGW hSW S (.tail _ (.tail _ (.head _))) trivial ZZHM (own3 hgW hrW hcW ZZO4))
  have hkl : k < l2.length := by have := of_decide_eq_true h1; omega
  have hn : ¬ (⟨c, o⟩ : CPl) = nev := fun h => by
    unfold CTk.manyI at hmn
    rw [if_pos h] at hmn
    omega
  obtain ⟨i, hi, hil⟩ := hidx hn
  have hik : (i : Int) + 1 + (k : Nat) ≤ t.last := by
    unfold CTk.manyI at hmn
    rw [if_neg hn] at hmn
    simp only at hmn
    omega
  have hix := @hix (by unfold i64in; simp only; omega)
  simp only [hi] at hix
  have hL2W := hL2.below hBW
  obtain ⟨ad, rfl, hlt⟩ := hL2.addr (by decide) (by omega)
  obtain ⟨⟨pa, pb⟩, hpe⟩ : ∃ x, l2[k]? = some x := ⟨_, List.getElem?_eq_getElem hkl⟩
  have hel := hL2W.elem hpe
  have hbad : t.rules (c - t.from_ + 1 + (k : Nat)) (pa, pb) = false → t.latE ⟨⟨c, o⟩, l1, l2⟩ = .panicked (pan (refV (k : Nat) 153)) := fun h => by
    unfold CTk.latE
    rw [if_neg (fun h => h hmn)]
    simp only
    rw [firstB_some.2 ⟨hkl, by rw [hpe]; simp only [Option.getD_some]; rw [h]; rfl, fun j hj => by rw [hno j hj]; rfl⟩]
  have hrul : t.rules (c - t.from_ + 1 + (k : Nat)) (pa, pb) = (!outB pa 0 ((t.m : Int) - 1) && (!outB pb t.from_ (t.from_ + t.n - 1) && t.above pa.toNat (t.plan ((i : Int) + 1 + (k : Nat))) (pb - t.from_).toNat)) := by
    unfold CTk.rules
    rw [hi]
  repeat (first | (refine M0 ?_; first | refine SL ?_ | refine SB fun _ _ => ?_ | refine Y4 (Ev.load_old_agg tok [.int .i64 pa, .int .i64 pb] rfl rfl rfl (add_lt hlt) hel) ?_) | (refine M1 ?_; refine SC ?_) | (refine M2 ?_; refine SE ?_))
  rename_i g4 hg4
  refine XC.drawT mixed rfl rfl (by kernel_rfl) ?_
  cases hb1 : outB pa 0 ((t.m : Int) - 1) with
  | true =>
    rw [hb1] at hrul
    repeat (first | (refine M0 ?_; first | refine SL ?_ | refine SB fun _ _ => ?_ | refine Y4 (Ev.load_loc tok 1 (g := gc) (o := 0) rfl rfl rfl rfl) ?_ | refine Y4 (Ev.load_loc tok 2 (g := gr) (o := 0) rfl rfl rfl rfl) ?_ | refine Y4 (Ev.load_loc tok 3 (g := g) (o := 6) rfl rfl rfl rfl) ?_ | refine Y4 (Ev.call (f := 37) (ck rfl) rfl (fun w S => cout_any _ _ _ w)) ?_) | (refine M2 ?_; refine SE ?_) | (refine M3 ?_; first | refine SG ?_ | refine SF ?_ | refine YF (Ev.load_loc tok 1 (g := gc) (o := 0) rfl rfl rfl rfl) ?_ | refine YF (Ev.load_loc tok 2 (g := gr) (o := 0) rfl rfl rfl rfl) ?_ | refine YF (Ev.load_loc tok 3 (g := g) (o := 6) rfl rfl rfl rfl) ?_ | refine YF (Ev.call (f := 37) (ck rfl) rfl (fun w S => cout_any _ _ _ w)) ?_) | (refine M4 ?_; refine SR ?_) | (refine M5 ?_; first | exact M7 | refine YM ?_ | refine YN ?_ ?_))
    rw [hb1]
    repeat (first | (refine M0 ?_; first | refine SL ?_ | refine SB fun _ _ => ?_) | (refine M2 ?_; refine SE ?_) | (refine M3 ?_; first | refine SG ?_ | refine SF ?_) | (refine M4 ?_; refine SR ?_) | (refine M5 ?_; first | exact M7 | refine YM ?_ | refine YN ?_ ?_))
    repeat (first | (refine M0 ?_; first | refine SL ?_ | refine SB fun _ _ => ?_) | (refine M1 ?_; refine SC ?_) | (refine M2 ?_; refine SE ?_))
    refine XC.drawT mixed rfl rfl (by kernel_rfl) ?_
    repeat (first | (refine M0 ?_; first | refine SL ?_ | refine SB fun _ _ => ?_) | (refine M2 ?_; refine SE ?_) | (refine M3 ?_; first | refine SG ?_ | refine SF ?_) | (refine M4 ?_; refine SR ?_) | (refine M5 ?_; first | exact M7 | refine YM ?_ | refine YN ?_ ?_))
    refine XL.callM false (refV (k : Nat) 153) (ck rfl) rfl rfl (fun w _ => must_any _ _ _ w) (fun h => by cases h) (fun _ => ?_)
    refine ⟨fun a w' hf S => And.intro hf.defers ?_⟩
    rw [hbad hrul]
    exact GamE.of (GamR.end2 (kk := []) (R := fun _ _ => True) (x := .nilFunc) hGW hSW S (.tail _ (.tail _ (.tail _ (.head _)))) trivial ZZMK (own3 hgW hrW hcW ZZO4))
  | false =>
    cases hb2 : outB pb t.from_ (t.from_ + t.n - 1) with
    | true =>
      rw [hb1, hb2] at hrul
      repeat (first | (refine M0 ?_; first | refine SL ?_ | refine SB fun _ _ => ?_ | refine Y4 (Ev.load_loc tok 1 (g := gc) (o := 0) rfl rfl rfl rfl) ?_ | refine Y4 (Ev.load_loc tok 2 (g := gr) (o := 0) rfl rfl rfl rfl) ?_ | refine Y4 (Ev.load_loc tok 3 (g := g) (o := 6) rfl rfl rfl rfl) ?_ | refine Y4 (Ev.call (f := 37) (ck rfl) rfl (fun w S => cout_any _ _ _ w)) ?_) | (refine M2 ?_; refine SE ?_) | (refine M3 ?_; first | refine SG ?_ | refine SF ?_ | refine YF (Ev.load_loc tok 1 (g := gc) (o := 0) rfl rfl rfl rfl) ?_ | refine YF (Ev.load_loc tok 2 (g := gr) (o := 0) rfl rfl rfl rfl) ?_ | refine YF (Ev.load_loc tok 3 (g := g) (o := 6) rfl rfl rfl rfl) ?_ | refine YF (Ev.call (f := 37) (ck rfl) rfl (fun w S => cout_any _ _ _ w)) ?_) | (refine M4 ?_; refine SR ?_) | (refine M5 ?_; first | exact M7 | refine YM ?_ | refine YN ?_ ?_))
      rw [hb1]
      repeat (first | (refine M0 ?_; first | refine SL ?_ | refine SB fun _ _ => ?_ | refine Y4 (Ev.load_loc tok 0 (g := g4) (o := 1) rfl rfl rfl rfl) ?_ | refine Y4 (Ev.load_loc tok 1 (g := gc) (o := 0) rfl rfl rfl rfl) ?_ | refine Y4 (Ev.load_loc tok 2 (g := gr) (o := 0) rfl rfl rfl rfl) ?_ | refine Y4 (Ev.load_loc tok 3 (g := g) (o := 11) rfl rfl rfl rfl) ?_ | refine Y4 (Ev.load_loc tok 3 (g := g) (o := 12) rfl rfl rfl rfl) ?_ | refine Y4 (Ev.call (f := 37) (ck rfl) rfl (fun w S => cout_any _ _ _ w)) ?_) | (refine M2 ?_; refine SE ?_) | (refine M3 ?_; first | refine SG ?_ | refine SF ?_ | refine YF (Ev.load_loc tok 0 (g := g4) (o := 1) rfl rfl rfl rfl) ?_ | refine YF (Ev.load_loc tok 1 (g := gc) (o := 0) rfl rfl rfl rfl) ?_ | refine YF (Ev.load_loc tok 2 (g := gr) (o := 0) rfl rfl rfl rfl) ?_ | refine YF (Ev.load_loc tok 3 (g := g) (o := 11) rfl rfl rfl rfl) ?_ | refine YF (Ev.load_loc tok 3 (g := g) (o := 12) rfl rfl rfl rfl) ?_ | refine YF (Ev.call (f := 37) (ck rfl) rfl (fun w S => cout_any _ _ _ w)) ?_) | (refine M4 ?_; refine SR ?_) | (refine M5 ?_; first | exact M7 | refine YM ?_ | refine YN ?_ ?_))
      rw [hb2]
      repeat (first | (refine M0 ?_; first | refine SL ?_ | refine SB fun _ _ => ?_) | (refine M2 ?_; refine SE ?_) | (refine M3 ?_; first | refine SG ?_ | refine SF ?_) | (refine M4 ?_; refine SR ?_) | (refine M5 ?_; first | exact M7 | refine YM ?_ | refine YN ?_ ?_))
      repeat (first | (refine M0 ?_; first | refine SL ?_ | refine SB fun _ _ => ?_) | (refine M1 ?_; refine SC ?_) | (refine M2 ?_; refine SE ?_))
      refine XC.drawT mixed rfl rfl (by kernel_rfl) ?_
      repeat (first | (refine M0 ?_; first | refine SL ?_ | refine SB fun _ _ => ?_) | (refine M2 ?_; refine SE ?_) | (refine M3 ?_; first | refine SG ?_ | refine SF ?_) | (refine M4 ?_; refine SR ?_) | (refine M5 ?_; first | exact M7 | refine YM ?_ | refine YN ?_ ?_))
      refine XL.callM false (refV (k : Nat) 153) (ck rfl) rfl rfl (fun w _ => must_any _ _ _ w) (fun h => by cases h) (fun _ => ?_)
      refine ⟨fun a w' hf S => And.intro hf.defers ?_⟩
      rw [hbad hrul]
      exact GamE.of (GamR.end2 (kk := []) (R := fun _ _ => True) (x := .nilFunc) hGW hSW S (.tail _ (.tail _ (.tail _ (.head _)))) trivial ZZMK (own3 hgW hrW hcW ZZO4))
    | false =>
      have hr1 := outB_f.1 hb1
      have hr2 := outB_f.1 hb2
      obtain ⟨hh, rfl⟩ : ∃ hh : Nat, pa = (hh : Nat) := ⟨pa.toNat, by omega⟩
      obtain ⟨aa, haa⟩ : ∃ aa : Nat, pb - t.from_ = (aa : Nat) := ⟨(pb - t.from_).toNat, by omega⟩
      rw [hb1, hb2, haa, Int.toNat_natCast, Int.toNat_natCast] at hrul
      have hhm : hh < t.m := by omega
      have han : aa < t.n := by omega
      have hstk : t.strange (t.plan ((i : Int) + 1 + (k : Nat))) = false := (plan_ok ho (by omega) hik).1
      have hpl := fun {L : Lo} {B : Nat} {W1 : World} (w9 : World) (S9 : Sys B W1 L w9) (hm : (g, gamO ⟨vp, vf, ⟨Ah, t.m, ch'⟩, vr⟩ t gm) ∈ L) => plan_any (v := ⟨vp, vf, ⟨Ah, t.m, ch'⟩, vr⟩) (t := t) (gm := gm) (i := (i : Int) + 1 + (k : Nat)) (S9.own _ hm).2 ho ⟨by omega, by omega⟩
      have hab := fun (w5 : World) (ks2 : List Nat) (hG5 : Gam t ⟨vp, vf, ⟨Ah, t.m, ch'⟩, vr⟩ b0 g gm ks2 [] [] w5) => cabove_any (p := t.plan ((i : Int) + 1 + (k : Nat))) hG5 ho hhm han hstk
      simp only [plnV] at hpl hab
      repeat (first | (refine M0 ?_; first | refine SL ?_ | refine SB fun _ _ => ?_ | refine Y4 (Ev.load_loc tok 1 (g := gc) (o := 0) rfl rfl rfl rfl) ?_ | refine Y4 (Ev.load_loc tok 2 (g := gr) (o := 0) rfl rfl rfl rfl) ?_ | refine Y4 (Ev.load_loc tok 3 (g := g) (o := 6) rfl rfl rfl rfl) ?_ | refine Y4 (Ev.call (f := 37) (ck rfl) rfl (fun w S => cout_any _ _ _ w)) ?_) | (refine M2 ?_; refine SE ?_) | (refine M3 ?_; first | refine SG ?_ | refine SF ?_ | refine YF (Ev.load_loc tok 1 (g := gc) (o := 0) rfl rfl rfl rfl) ?_ | refine YF (Ev.load_loc tok 2 (g := gr) (o := 0) rfl rfl rfl rfl) ?_ | refine YF (Ev.load_loc tok 3 (g := g) (o := 6) rfl rfl rfl rfl) ?_ | refine YF (Ev.call (f := 37) (ck rfl) rfl (fun w S => cout_any _ _ _ w)) ?_) | (refine M4 ?_; refine SR ?_) | (refine M5 ?_; first | exact M7 | refine YM ?_ | refine YN ?_ ?_))
      rw [hb1]
      repeat (first | (refine M0 ?_; first | refine SL ?_ | refine SB fun _ _ => ?_ | refine Y4 (Ev.load_loc tok 0 (g := g4) (o := 1) rfl rfl rfl rfl) ?_ | refine Y4 (Ev.load_loc tok 1 (g := gc) (o := 0) rfl rfl rfl rfl) ?_ | refine Y4 (Ev.load_loc tok 2 (g := gr) (o := 0) rfl rfl rfl rfl) ?_ | refine Y4 (Ev.load_loc tok 3 (g := g) (o := 11) rfl rfl rfl rfl) ?_ | refine Y4 (Ev.load_loc tok 3 (g := g) (o := 12) rfl rfl rfl rfl) ?_ | refine Y4 (Ev.call (f := 37) (ck rfl) rfl (fun w S => cout_any _ _ _ w)) ?_) | (refine M2 ?_; refine SE ?_) | (refine M3 ?_; first | refine SG ?_ | refine SF ?_ | refine YF (Ev.load_loc tok 0 (g := g4) (o := 1) rfl rfl rfl rfl) ?_ | refine YF (Ev.load_loc tok 1 (g := gc) (o := 0) rfl rfl rfl rfl) ?_ | refine YF (Ev.load_loc tok 2 (g := gr) (o := 0) rfl rfl rfl rfl) ?_ | refine YF (Ev.load_loc tok 3 (g := g) (o := 11) rfl rfl rfl rfl) ?_ | refine YF (Ev.load_loc tok 3 (g := g) (o := 12) rfl rfl rfl rfl) ?_ | refine YF (Ev.call (f := 37) (ck rfl) rfl (fun w S => cout_any _ _ _ w)) ?_) | (refine M4 ?_; refine SR ?_) | (refine M5 ?_; first | exact M7 | refine YM ?_ | refine YN ?_ ?_))
      rw [hb2]
      repeat (first | (refine M0 ?_; first | refine SL ?_ | refine SB fun _ _ => ?_) | (refine M2 ?_; refine SE ?_) | (refine M3 ?_; first | refine SG ?_ | refine SF ?_) | (refine M4 ?_; refine SR ?_) | (refine M5 ?_; first | exact M7 | refine YM ?_ | refine YN ?_ ?_))
      repeat (first | (refine M0 ?_; first | refine SL ?_ | refine SB fun _ _ => ?_) | (refine M1 ?_; refine SC ?_) | (refine M2 ?_; refine SE ?_))
      refine XC.drawRT (trunc w b0) [(g4, cel 88 [.int .i64 (hh : Nat), .int .i64 pb]), (gc, cel 137 [.pointer (some ⟨gr, 0, none⟩), .int .i64 c, .int .i64 o, .slice q1.A q1.n q1.c, .slice (some ad) l2.length q2c]), (gr, rulO g r), (g, gamO ⟨vp, vf, ⟨Ah, t.m, ch'⟩, vr⟩ t gm)] [0, 1, 2, 3, 4, 5, 6, 7, 8, 9, 10, 11, 12, 13, 14, 15, 16, 17, 18, 21, 24, 25, 26, 27, 28, 29, 30, 31, 32, 33, 34, 35, 36, 39] [19, 20, 22, 23, 37, 38] mixed (fun _ h => Sys.anchorT hBW h (by intro e he; repeat (first | (cases he; done) | (rcases List.mem_cons.1 he with rfl | he; · repeat (first | exact List.mem_cons_self | apply List.mem_cons_of_mem)))) (by simp [n1, n2, n3]; omega) hb0) rfl rfl (by kernel_rfl) rfl (by kernel_rfl) ?_
      repeat (first | (refine M0 ?_; first | refine SL ?_ | refine SB fun _ _ => ?_ | refine Y4 (Ev.load_loc tok 0 (g := g4) (o := 0) rfl rfl rfl rfl) ?_ | refine Y4 (Ev.load_loc tok 0 (g := g4) (o := 1) rfl rfl rfl rfl) ?_ | refine Y4 (Ev.load_loc tok 1 (g := gc) (o := 0) rfl rfl rfl rfl) ?_ | refine Y4 (Ev.load_loc tok 2 (g := gr) (o := 0) rfl rfl rfl rfl) ?_ | refine Y4 (Ev.load_loc tok 3 (g := g) (o := 11) rfl rfl rfl rfl) ?_ | refine Y4 (Ev.call (f := 92) (ck rfl) rfl (fun w5 S5 => hix w5 S5 (.tail _ (.head _)) (.tail _ (.tail _ (.head _))) (.tail _ (.tail _ (.tail _ (.head _)))))) ?_) | (refine M2 ?_; refine SE ?_) | (refine M3 ?_; first | refine SG ?_ | refine SF ?_ | refine YF (Ev.load_loc tok 0 (g := g4) (o := 0) rfl rfl rfl rfl) ?_ | refine YF (Ev.load_loc tok 0 (g := g4) (o := 1) rfl rfl rfl rfl) ?_ | refine YF (Ev.load_loc tok 1 (g := gc) (o := 0) rfl rfl rfl rfl) ?_ | refine YF (Ev.load_loc tok 2 (g := gr) (o := 0) rfl rfl rfl rfl) ?_ | refine YF (Ev.load_loc tok 3 (g := g) (o := 11) rfl rfl rfl rfl) ?_ | refine YF (Ev.call (f := 92) (ck rfl) rfl (fun w5 S5 => hix w5 S5 (.tail _ (.head _)) (.tail _ (.tail _ (.head _))) (.tail _ (.tail _ (.tail _ (.head _)))))) ?_) | (refine M4 ?_; refine SR ?_) | (refine M5 ?_; first | exact M7 | refine YM ?_ | refine YN ?_ ?_))
      rw [haa]
      refine z7 ?_
      repeat (first | (refine M0 ?_; first | refine SL ?_ | refine SB fun _ _ => ?_) | (refine M2 ?_; refine SE ?_) | (refine M3 ?_; first | refine SG ?_ | refine SF ?_) | (refine M4 ?_; refine SR ?_) | (refine M5 ?_; first | exact M7 | refine YM ?_ | refine YN ?_ ?_))
      refine z7 ?_
      repeat (first | (refine M0 ?_; first | refine SL ?_ | refine SB fun _ _ => ?_) | (refine M2 ?_; refine SE ?_) | (refine M3 ?_; first | refine SG ?_ | refine SF ?_) | (refine M4 ?_; refine SR ?_) | (refine M5 ?_; first | exact M7 | refine YM ?_ | refine YN ?_ ?_))
      refine z7 ?_
      repeat (first | (refine M0 ?_; first | refine SL ?_ | refine SB fun _ _ => ?_ | refine Y4 (Ev.call (f := 50) (ck rfl) rfl (fun w5 S5 => hpl w5 S5 (.tail _ (.tail _ (.tail _ (.head _)))))) ?_) | (refine M2 ?_; refine SE ?_) | (refine M3 ?_; first | refine SG ?_ | refine SF ?_ | refine YF (Ev.call (f := 50) (ck rfl) rfl (fun w5 S5 => hpl w5 S5 (.tail _ (.tail _ (.tail _ (.head _)))))) ?_) | (refine M4 ?_; refine SR ?_) | (refine M5 ?_; first | exact M7 | refine YM ?_ | refine YN ?_ ?_))
      refine z7 ?_
      repeat (first | (refine M0 ?_; first | refine SL ?_ | refine SB fun _ _ => ?_) | (refine M2 ?_; refine SE ?_) | (refine M3 ?_; first | refine SG ?_ | refine SF ?_) | (refine M4 ?_; refine SR ?_) | (refine M5 ?_; first | exact M7 | refine YM ?_ | refine YN ?_ ?_))
      refine XL.callI (BoolR (t.above hh (t.plan ((i : Int) + 1 + (k : Nat))) aa)) (ck rfl) rfl rfl hGW hSW (.tail _ (.tail _ (.tail _ (.head _)))) (fun w5 ks2 _ _ hG5 => hab w5 ks2 hG5) (fun w5 x new hR hG5 hS5 => ?_) ZZMK (own3 hgW hrW hcW ZZO4)
      obtain ⟨rfl, rfl⟩ := hR
      have hz5 := hS5.size
      have hB5 : Below b0 w w5 := hS5.below hG.bm hb0
      have hg5 := hG5.game
      have hr5 := hS5.keep hr hrm
      have hc5 := hS5.keep hc hcm
      repeat (first | (refine M0 ?_; first | refine SL ?_ | refine SB fun _ _ => ?_) | (refine M2 ?_; refine SE ?_) | (refine M3 ?_; first | refine SG ?_ | refine SF ?_) | (refine M4 ?_; refine SR ?_) | (refine M5 ?_; first | exact M7 | refine YM ?_ | refine YN ?_ ?_))
      refine z7 ?_
      repeat (first | (refine M0 ?_; first | refine SL ?_ | refine SB fun _ _ => ?_) | (refine M2 ?_; refine SE ?_) | (refine M3 ?_; first | refine SG ?_ | refine SF ?_) | (refine M4 ?_; refine SR ?_) | (refine M5 ?_; first | exact M7 | refine YM ?_ | refine YN ?_ ?_))
      refine z7 ?_
      repeat (first | (refine M0 ?_; first | refine SL ?_ | refine SB fun _ _ => ?_) | (refine M2 ?_; refine SE ?_) | (refine M3 ?_; first | refine SG ?_ | refine SF ?_) | (refine M4 ?_; refine SR ?_) | (refine M5 ?_; first | exact M7 | refine YM ?_ | refine YN ?_ ?_))
      refine XE.lastZ (fun _ _ h => h) ?_
      cases hbv : t.above hh (t.plan ((i : Int) + 1 + (k : Nat))) aa with
      | true =>
        rw [hbv] at hrul
        refine XL.callM true (refV (k : Nat) 153) (ck rfl) rfl rfl (fun w _ => must_any _ _ _ w) (fun _ => ?_) (fun h => by cases h)
        repeat (first | (refine M0 ?_; first | refine SL ?_ | refine SB fun _ _ => ?_) | (refine M1 ?_; refine SC ?_) | (refine M2 ?_; refine SE ?_))
        refine XE.roundW (s := (k, W)) (fun w9 S9 => ⟨(k + 1, w9), ⟨hkl, hG5.on (ks := ks) S9 (by repeat (first | exact List.mem_cons_self | apply List.mem_cons_of_mem)) ZZMK (fun x hx => List.mem_append_right _ (List.mem_append_right _ hx)) hgs (fun x hx => hx), Since.end2 hG5 hS5 S9 ZZMK (own3 hg5 hr5 hc5 ZZO4), fun j hj => ?_⟩, by simp only; omega, ZZSUB, S9.rebase ZZSM⟩)
        rcases Nat.lt_or_ge j k with h2 | h2
        · exact hno j h2
        · have : j = k := by omega
          subst this
          rw [hpe]
          exact hrul
      | false =>
        rw [hbv] at hrul
        refine XL.callM false (refV (k : Nat) 153) (ck rfl) rfl rfl (fun w _ => must_any _ _ _ w) (fun h => by cases h) (fun _ => ?_)
        refine ⟨fun a w' hf S => And.intro hf.defers ?_⟩
        rw [hbad hrul]
        exact GamE.of (GamR.end2 (kk := _) (R := fun _ _ => True) (x := .nilFunc) hG5 hS5 S (.tail _ (.tail _ (.tail _ (.head _)))) trivial ZZMK (own3 hg5 hr5 hc5 ZZO4))
      any_goals (repeat (first | exact AnyR.nil | refine AnyR.skip rfl ?_))
end
end Go.Proofs.Ytmpaiphakjogjaa.X
/-
  The walk of Accept's deferred function (closure).
-/
namespace Go.Proofs.Ytmpaiphakjogjaa.X
open Go Go.RowKit Go.Proofs.Ytmpaiphakjogjaa.Bs
set_option linter.unusedVariables false
theorem any_if5 : isIf (Try.prog.underlying 20) = true := by kernel_rfl
section
variable {w : World} {b g6 g7 : Nat} {x y : Int}
/-- a frame that returns: nothing is recovered. -/
theorem catch_ret (hb : b ≤ w.heap.size) (h6 : w.heap[g6]? = some (cel 3 [.int .i64 x])) (h7 : w.heap[g7]? = some (cel 30 [.int .i64 y])) (b6 : b ≤ g6) (b7 : b ≤ g7) (hne : g6 ≠ g7) :
    CallsD Try.prog 65 #[.pointer (some ⟨g6, 0, none⟩), .pointer (some ⟨g7, 0, none⟩)] .returning w fun en u' w' => (∃ v, en = .returned v) ∧ u' = .returning ∧ Sys b w [(g6, cel 3 [.int .i64 x]), (g7, cel 30 [.int .i64 y])] w' := by
  have S0 := Sys.start2 b6 b7 h6 h7 hne
  refine enterRec Try.func65 rfl Try.ntmps65 rfl rfl S0 recR ?_
  simp only [frame, Nat.zero_add, Nat.reduceAdd]
  repeat (first | (refine M0 ?_; first | refine SL ?_ | refine SB fun _ _ => ?_ | refine Y4 (Ev.ifEql rfl rfl any_if5) ?_) | (refine M1 ?_; refine SC ?_) | (refine M2 ?_; refine SE ?_))
  exact XE.end0 Try.results65 fun w' S => ⟨⟨_, rfl⟩, trivial, S⟩
theorem catch_ref {i e : Int} (hb : b ≤ w.heap.size) (h6 : w.heap[g6]? = some (cel 3 [.int .i64 x])) (h7 : w.heap[g7]? = some (cel 30 [.int .i64 y])) (b6 : b ≤ g6) (b7 : b ≤ g7) (hne : g6 ≠ g7) :
    CallsD Try.prog 65 #[.pointer (some ⟨g6, 0, none⟩), .pointer (some ⟨g7, 0, none⟩)] (.panicking (pan (refV i e))) w fun en u' w' => (∃ v, en = .returned v) ∧ settle u' = .returning ∧ Sys b w [(g6, cel 3 [.int .i64 i]), (g7, cel 30 [.int .i64 e])] w' := by
  have S0 := Sys.start2 b6 b7 h6 h7 hne
  have l6 := (Array.getElem?_eq_some_iff.1 h6).1
  have l7 := (Array.getElem?_eq_some_iff.1 h7).1
  refine enterRec Try.func65 rfl Try.ntmps65 rfl rfl S0 recP ?_
  simp only [frame, Nat.zero_add, Nat.reduceAdd, refV]
  refine XC.hint 0 1 (XC.hint 1 0 ?_)
  repeat (first | (refine M0 ?_; first | refine SL ?_ | refine SB fun _ _ => ?_ | refine Y4 (Ev.ifEql rfl rfl any_if5) ?_ | refine Y4 (Ev.assertOk rfl ref_con tok rfl (.tuple ⟨[.agg ⟨[.int .i64 i, .int .i64 e]⟩, .bool true]⟩) rfl) ?_) | (refine M1 ?_; refine SC ?_) | (refine M2 ?_; refine SE ?_))
  rename_i g3 hg3
  have hBw : Below b w w := Below.refl b w
  refine XC.drawRS (trunc w b) [(g3, cel 134 [.int .i64 i, .int .i64 e])] [0, 1, 2, 3] [4, 5] mixed (fun _ h => Sys.anchorT hBw h (fun e he => by rw [List.mem_singleton.1 he]; exact .head _) (by simp) hb) rfl (by kernel_rfl) ?_
  repeat (first | (refine M0 ?_; first | refine SL ?_ | refine SB fun _ _ => ?_ | refine Y4 (Ev.load_loc tok 0 (g := g3) (o := 0) rfl rfl rfl rfl) ?_ | refine Y4 (Ev.load_loc tok 0 (g := g3) (o := 1) rfl rfl rfl rfl) ?_) | (refine M2 ?_; refine SE ?_) | (refine M3 ?_; first | refine SG ?_ | refine SF ?_ | refine YF (Ev.load_loc tok 0 (g := g3) (o := 0) rfl rfl rfl rfl) ?_ | refine YF (Ev.load_loc tok 0 (g := g3) (o := 1) rfl rfl rfl rfl) ?_) | (refine M4 ?_; refine SR ?_) | (refine M5 ?_; first | exact M7 | refine YM ?_ | refine YN ?_ ?_))
  repeat (any_goals (first | (refine M0 ?_; first | refine SL ?_ | refine SB fun _ _ => ?_) | (refine M1 ?_; refine SC ?_) | (refine M2 ?_; first | refine SE ?_ | ((with_reducible refine atHeld ?_); refine z7 ?_)) | (refine M3 ?_; first | refine SG ?_ | refine SF ?_) | (refine M4 ?_; refine SR ?_) | (refine M5 ?_; first | exact M7 | refine YM ?_ | refine YN ?_ ?_)))
  any_goals (repeat (first | exact AnyR.nil | refine AnyR.skip rfl ?_))
  all_goals
    exact XE.end0 Try.results65 fun w' S => ⟨⟨_, rfl⟩, rfl, S.pick (fun e he => by simp only [List.mem_cons, List.not_mem_nil, or_false] at he; rcases he with rfl | rfl <;> simp) (by simp [hne]) (fun e he => by simp only [List.mem_cons, List.not_mem_nil, or_false] at he; rcases he with rfl | rfl | rfl <;> simp [hg3])⟩
end
end Go.Proofs.Ytmpaiphakjogjaa.X
/-
  The walk of Accept (closure).
-/
namespace Go.Proofs.Ytmpaiphakjogjaa.X
open Go Go.RowKit Go.Proofs.Ytmpaiphakjogjaa.Bs
set_option linter.unusedVariables false
section
variable {t : CTk} {v : CTV} {r : CRu} {b0 g gm : Nat} {ks : List Nat} {w w' : World} {d : CDe}
theorem GamE.ofBelow {e e0 : Ending} (hG : Gam t v b0 g gm ks [] [] w) (h : e = e0 ∧ Below w.heap.size w w') : GamE t b0 gm ks e0 w e w' :=
  ⟨h.1, Since.refl.made h.2, (hG.made (new := []) h.2 (fun x hx => by cases hx)).memo⟩
theorem acc_form (h : ruE t r = 0) (hb : (!t.strange d.plan && decide (d.peaks.length = t.m)) = false) : t.acc r d = (0, 2) := by
  unfold CTk.acc
  rw [if_neg (by simp [h]), if_pos]
  cases hs : t.strange d.plan with
  | true => exact .inl rfl
  | false =>
    rw [hs] at hb
    right
    simpa using hb
theorem acc_early (h : ruE t r = 0) (hs : t.strange d.plan = false) (hl : d.peaks.length = t.m) (hb : t.earB r d = false) : t.acc r d = (0, 150) := by
  unfold CTk.acc
  rw [if_neg (by simp [h]), if_neg (by simp [hs, hl]), if_pos]
  unfold CTk.earB at hb
  by_cases hn : d.plan = nev
  · rw [if_pos hn] at hb ⊢; simpa using hb
  · rw [if_neg hn] at hb ⊢; simpa using hb
theorem acc_3 (h : ruE t r = 0) (hs : t.strange d.plan = false) (hl : d.peaks.length = t.m) (hb : t.earB r d = true) : t.acc r d = (if d.plan ≠ nev ∧ (d.plan ≠ t.plan (d.plan.close - t.from_) ∨ t.wit (d.plan.close - t.from_) ≠ none) then (0, 151) else
  match firstB (fun k => decide (d.peaks[k]?.getD (0, 0) ≠ t.peak d.plan k)) t.m with
  | some k => (((k : Nat) : Int), (152 : Int))
  | none =>
    if (d.later.length : Int) ≠ (if d.plan = nev then 0 else t.last - (d.plan.close - t.from_)) then (0, 2) else
    match firstB (fun k => !t.rules (d.plan.close - t.from_ + 1 + (k : Nat)) (d.later[k]?.getD (0, 0))) d.later.length with
    | some k => (((k : Nat) : Int), 153)
    | none => (0, 0)) := by
  unfold CTk.acc
  rw [if_neg (by simp [h]), if_neg (by simp [hs, hl]), if_neg]
  · rfl
  unfold CTk.earB at hb
  by_cases hn : d.plan = nev
  · rw [if_pos hn] at hb ⊢; simpa using hb
  · rw [if_neg hn] at hb ⊢; simpa using hb
theorem hlds_t (hb : t.hldsB d = true) : ¬ (d.plan ≠ nev ∧ (d.plan ≠ t.plan (d.plan.close - t.from_) ∨ t.wit (d.plan.close - t.from_) ≠ none)) := by
  unfold CTk.hldsB at hb
  simp only [Bool.or_eq_true, Bool.and_eq_true, decide_eq_true_eq, Bool.not_eq_true', Option.isSome_eq_false_iff, Option.isNone_iff_eq_none] at hb
  rintro ⟨h1, h2⟩
  rcases hb with hb | hb
  · exact h1 hb
  · rcases h2 with h2 | h2
    · exact h2 hb.1
    · exact h2 hb.2
theorem hlds_f (hb : t.hldsB d = false) : d.plan ≠ nev ∧ (d.plan ≠ t.plan (d.plan.close - t.from_) ∨ t.wit (d.plan.close - t.from_) ≠ none) := by
  refine Classical.byContradiction fun h => ?_
  have : t.hldsB d = true := by
    unfold CTk.hldsB
    by_cases hn : d.plan = nev
    · simp [hn]
    · have h1 : d.plan = t.plan (d.plan.close - t.from_) := Decidable.byContradiction fun h2 => h ⟨hn, .inl h2⟩
      have h2 : t.wit (d.plan.close - t.from_) = none := Classical.byContradiction fun h2 => h ⟨hn, .inr h2⟩
      simp only [Bool.or_eq_true, Bool.and_eq_true, decide_eq_true_eq]
      exact .inr ⟨h1, by rw [h2]; rfl⟩
  rw [hb] at this; cases this
theorem acc_holds (h : ruE t r = 0) (hs : t.strange d.plan = false) (hl : d.peaks.length = t.m) (hb : t.earB r d = true) (hh : t.hldsB d = false) : t.acc r d = (0, 151) := by
  rw [acc_3 h hs hl hb, if_pos (hlds_f hh)]
theorem acc_heights (h : ruE t r = 0) (hs : t.strange d.plan = false) (hl : d.peaks.length = t.m) (hb : t.earB r d = true) (hh : t.hldsB d = true) {k : Nat} (hk : firstB (fun k => decide (d.peaks[k]?.getD (0, 0) ≠ t.peak d.plan k)) t.m = some k) : t.acc r d = (((k : Nat) : Int), 152) := by
  rw [acc_3 h hs hl hb, if_neg (hlds_t hh), hk]
theorem acc_many (h : ruE t r = 0) (hs : t.strange d.plan = false) (hl : d.peaks.length = t.m) (hb : t.earB r d = true) (hh : t.hldsB d = true) (hk : firstB (fun k => decide (d.peaks[k]?.getD (0, 0) ≠ t.peak d.plan k)) t.m = none) (hm : (d.later.length : Int) ≠ t.manyI d) : t.acc r d = (0, 2) := by
  rw [acc_3 h hs hl hb, if_neg (hlds_t hh), hk]
  simp only
  unfold CTk.manyI at hm
  rw [if_pos hm]
theorem acc_later (h : ruE t r = 0) (hs : t.strange d.plan = false) (hl : d.peaks.length = t.m) (hb : t.earB r d = true) (hh : t.hldsB d = true) (hk : firstB (fun k => decide (d.peaks[k]?.getD (0, 0) ≠ t.peak d.plan k)) t.m = none) (hm : ¬ (d.later.length : Int) ≠ t.manyI d) {k : Nat}
    (hf : firstB (fun k => !t.rules (d.plan.close - t.from_ + 1 + (k : Nat)) (d.later[k]?.getD (0, 0))) d.later.length = some k) : t.acc r d = (((k : Nat) : Int), 153) := by
  rw [acc_3 h hs hl hb, if_neg (hlds_t hh), hk]
  simp only
  unfold CTk.manyI at hm
  rw [if_neg hm, hf]
theorem acc_ok (h : ruE t r = 0) (hs : t.strange d.plan = false) (hl : d.peaks.length = t.m) (hb : t.earB r d = true) (hh : t.hldsB d = true) (hk : firstB (fun k => decide (d.peaks[k]?.getD (0, 0) ≠ t.peak d.plan k)) t.m = none) (hm : ¬ (d.later.length : Int) ≠ t.manyI d)
    (hf : firstB (fun k => !t.rules (d.plan.close - t.from_ + 1 + (k : Nat)) (d.later[k]?.getD (0, 0))) d.later.length = none) : t.acc r d = (0, 0) := by
  rw [acc_3 h hs hl hb, if_neg (hlds_t hh), hk]
  simp only
  unfold CTk.manyI at hm
  rw [if_neg hm, hf]
theorem form_t {a : Bool} {n m : Nat} (h : (!a && decide (n = m)) = true) : a = false ∧ n = m := by
  simp only [Bool.and_eq_true, Bool.not_eq_true', decide_eq_true_eq] at h
  exact h
theorem ear_may (h : t.earB r d = true) : d.plan ≠ nev → t.may r (d.plan.close - t.from_) = true := fun hn => by
  unfold CTk.earB at h
  rw [if_neg hn] at h
  exact h
theorem mustE_ret {b : Bool} {v x : Value} (h : mustE b v = .returned x) : b = true := by
  cases b with
  | true => rfl
  | false => cases h
theorem mustE_pan {b : Bool} {v : Value} {ch : List PanicEntry} (h : mustE b v = .panicked ch) : b = false ∧ ch = pan v := by
  cases b with
  | true => cases h
  | false => exact ⟨rfl, (Ending.panicked.inj h).symm⟩
theorem hgt_p {ch : List PanicEntry} (h : t.hgtE d = .panicked ch) : ∃ k : Nat, firstB (fun k => decide (d.peaks[k]?.getD (0, 0) ≠ t.peak d.plan k)) t.m = some k ∧ ch = pan (refV (k : Nat) 152) := by
  unfold CTk.hgtE at h
  split at h
  · cases h
  · rename_i k hk
    exact ⟨k, hk, (Ending.panicked.inj h).symm⟩
theorem lat_r {x : Value} (h : t.latE d = .returned x) : ¬ (d.later.length : Int) ≠ t.manyI d ∧ firstB (fun k => !t.rules (d.plan.close - t.from_ + 1 + (k : Nat)) (d.later[k]?.getD (0, 0))) d.later.length = none := by
  unfold CTk.latE at h
  split at h
  · cases h
  · rename_i hm
    split at h
    · rename_i hf; exact ⟨hm, hf⟩
    · cases h
theorem lat_p {ch : List PanicEntry} (h : t.latE d = .panicked ch) : ((d.later.length : Int) ≠ t.manyI d ∧ ch = pan (refV 0 2)) ∨ (¬ (d.later.length : Int) ≠ t.manyI d ∧ ∃ k : Nat, firstB (fun k => !t.rules (d.plan.close - t.from_ + 1 + (k : Nat)) (d.later[k]?.getD (0, 0))) d.later.length = some k ∧ ch = pan (refV (k : Nat) 153)) := by
  unfold CTk.latE at h
  split at h
  · rename_i hm; exact .inl ⟨hm, (Ending.panicked.inj h).symm⟩
  · rename_i hm
    split at h
    · cases h
    · rename_i k hk; exact .inr ⟨hm, k, hk, (Ending.panicked.inj h).symm⟩
theorem hgt_r {x : Value} (h : t.hgtE d = .returned x) : firstB (fun k => decide (d.peaks[k]?.getD (0, 0) ≠ t.peak d.plan k)) t.m = none := by
  unfold CTk.hgtE at h
  split at h
  · assumption
  · cases h
theorem hlds_ins (ho : CtOk t) (hb : t.hldsB d = true) : ∀ k i, k < t.m → i < t.n → (t.ins k d.plan i).isSome = true := by
  by_cases hn : d.plan = nev
  · rw [hn]; exact nev_ins t
  · have h1 := hlds_t hb
    have h2 : d.plan = t.plan (d.plan.close - t.from_) := Decidable.byContradiction fun h2 => h1 ⟨hn, .inl h2⟩
    have h3 : t.wit (d.plan.close - t.from_) = none := Classical.byContradiction fun h2 => h1 ⟨hn, .inr h2⟩
    have h4 := wit_none.1 h3
    rw [← h2] at h4
    exact all_ins h4
end
/-- two own blocks have been turned. -/
theorem Sys.turned2 {B : Nat} {w0 w5 w6 : World} {L L1 L2 : Lo} {B' g f : Nat} {o o' q q' : Obj} (S : Sys B w0 L w5) (i j : Nat) (hi : L[i]? = some (g, o)) (s1 : setN L i (g, o') = some L1) (hj : L1[j]? = some (f, q)) (s2 : setN L1 j (f, q') = some L2) (h' : Sys B' w5 [(g, o'), (f, q')] w6) : Sys B w6 L2 w6 := by
  obtain ⟨e1, _⟩ := setN_spec _ _ _ _ s1
  obtain ⟨e2, _⟩ := setN_spec _ _ _ _ s2
  subst e1
  subst e2
  obtain ⟨k1, k2⟩ := set_cases (o' := o') S.nd hi
  obtain ⟨k3, k4⟩ := set_cases (o' := q') (by rw [k1]; exact S.nd) hj
  have bg : B ≤ g := (S.own _ (List.mem_of_getElem? hi)).1
  have bf : B ≤ f := by
    rcases k2 _ (List.mem_of_getElem? hj) with h | ⟨h, _⟩
    · have : f = g := congrArg Prod.fst h
      omega
    · exact (S.own _ h).1
  refine Sys.start (Nat.le_trans S.base (Nat.le_trans S.size h'.size)) (fun x hx => ?_) (by rw [k3, k1]; exact S.nd)
  rcases k4 x hx with rfl | ⟨hx, hne⟩
  · exact ⟨bf, (h'.own _ (.tail _ (.head _))).2⟩
  · rcases k2 x hx with rfl | ⟨hm, hne2⟩
    · exact ⟨bg, (h'.own _ (.head _)).2⟩
    · refine ⟨(S.own x hm).1, ?_⟩
      rw [h'.old x.1 (S.lt hm) (fun y hy e => ?_)]
      · exact (S.own x hm).2
      · simp only [List.mem_cons, List.not_mem_nil, or_false] at hy
        rcases hy with rfl | rfl
        · exact hne2 e.symm
        · exact hne e.symm
/-- where a check panics the deferred function takes up what it says. -/
theorem accept_pan {N : Nat} {F : Fr} {L L1 L2 : Lo} {W w : World} {Q : Exit → Act → World → Prop} {rs : List ResultVar} {g6 g7 : Nat} {i e x y : Int} {c : Prop} {r0 : Int × Int} (hB : Below w.heap.size w W) (h : Try.f28.results = ⟨rs⟩) (hr : r0 = (i, e)) (i6 i7 : Nat)
    (m6 : L[i6]? = some (g6, cel 3 [.int .i64 x])) (s6 : setN L i6 (g6, cel 3 [.int .i64 i]) = some L1) (m7 : L1[i7]? = some (g7, cel 30 [.int .i64 y])) (s7 : setN L1 i7 (g7, cel 30 [.int .i64 e]) = some L2) (m8 : (g7, cel 30 [.int .i64 y]) ∈ L) (hne : g6 ≠ g7)
    (hv : resO TB F L2 rs = some ([.int .i64 i, .int .i64 e], c)) (hc : c)
    (hQ : ∀ a w', bodyPostD Try.prog Try.f28 (fun e w' => e = .returned (.tuple ⟨[.int .i64 r0.1, .int .i64 r0.2]⟩) ∧ Below w.heap.size w w') (.panic (pan (refV i e))) a w' → Q (.panic (pan (refV i e))) a w') :
    XE N w.heap.size W [{ target := .fn (.func 65) ⟨[.pointer (some ⟨g6, 0, none⟩), .pointer (some ⟨g7, 0, none⟩)]⟩, args := #[] }] Q (.panic (pan (refV i e))) F L := by
  subst hr
  refine ⟨fun a w' hf S => hQ a w' (leaveD (P := Try.prog) (T := TB) (L' := L2) tok (by intro h; cases h) hf h (ck rfl) hv hc ?_)⟩
  have o6 := S.own _ (List.mem_of_getElem? m6)
  have o7 := S.own _ m8
  refine (catch_ref (b := w.heap.size) (Nat.le_trans hB.size S.size) o6.2 o7.2 o6.1 o7.1 hne).mono fun en u' w2 hx => ?_
  obtain ⟨h1, h2, S2⟩ := hx
  exact ⟨h1, h2, ⟨_, _, S.turned2 i6 i7 m6 s6 m7 s7 S2⟩, rfl, (hB.trans S.toBelow).trans S2.toBelow⟩
theorem accept_ret {N : Nat} {F : Fr} {L L1 L2 : Lo} {W w : World} {Q : Exit → Act → World → Prop} {rs : List ResultVar} {g6 g7 : Nat} {i e : Int} {c : Prop} {r0 : Int × Int} (hB : Below w.heap.size w W) (h : Try.f28.results = ⟨rs⟩) (hr : r0 = (i, e)) (i6 i7 : Nat)
    (m6 : L[i6]? = some (g6, cel 3 [.int .i64 i])) (s6 : setN L i6 (g6, cel 3 [.int .i64 i]) = some L1) (m7 : L1[i7]? = some (g7, cel 30 [.int .i64 e])) (s7 : setN L1 i7 (g7, cel 30 [.int .i64 e]) = some L2) (m8 : (g7, cel 30 [.int .i64 e]) ∈ L) (hne : g6 ≠ g7)
    (hv : resO TB F L2 rs = some ([.int .i64 i, .int .i64 e], c)) (hc : c)
    (hQ : ∀ a w', bodyPostD Try.prog Try.f28 (fun e w' => e = .returned (.tuple ⟨[.int .i64 r0.1, .int .i64 r0.2]⟩) ∧ Below w.heap.size w w') .ret a w' → Q .ret a w') :
    XE N w.heap.size W [{ target := .fn (.func 65) ⟨[.pointer (some ⟨g6, 0, none⟩), .pointer (some ⟨g7, 0, none⟩)]⟩, args := #[] }] Q .ret F L := by
  subst hr
  refine ⟨fun a w' hf S => hQ a w' (leaveD (P := Try.prog) (T := TB) (L' := L2) tok (by intro h; cases h) hf h (ck rfl) hv hc ?_)⟩
  have o6 := S.own _ (List.mem_of_getElem? m6)
  have o7 := S.own _ m8
  refine (catch_ret (b := w.heap.size) (Nat.le_trans hB.size S.size) o6.2 o7.2 o6.1 o7.1 hne).mono fun en u' w2 hx => ?_
  obtain ⟨h1, rfl, S2⟩ := hx
  exact ⟨h1, rfl, ⟨_, _, S.turned2 i6 i7 m6 s6 m7 s7 S2⟩, rfl, (hB.trans S.toBelow).trans S2.toBelow⟩
theorem fn5_size : (Try.prog.info? 1).map (·.size) = some 1 := by kernel_rfl
theorem fn5_one : lkG TB.one 1 = some () := by kernel_rfl
set_option maxHeartbeats 16000000 in
theorem Accept_any {v : CTV} {t : CTk} {r : CRu} {q1 q2 : SV} {d : CDe} {w : World} (h : CtAt w w.heap.size v t) (hL1 : ListAt pekK5 w (Lt w.heap.size) q1 d.peaks) (hL2 : ListAt wtnK5 w (Lt w.heap.size) q2 d.later) :
    Calls Try.prog 28 #[ctkV v t, ruV r, decV q1 q2 d] w fun e w' => e = .returned (.tuple ⟨[.int .i64 (t.acc r d).1, .int .i64 (t.acc r d).2]⟩) ∧ Below w.heap.size w w' := by
  simp only [ctkV, ctkC, ruV, decV, decC, svV]
  refine enterD Try.func28 rfl Try.ntmps28 rfl ?_; simp only [frame, Nat.zero_add, Nat.reduceAdd]
  repeat (first | (refine M0 ?_; first | refine SL ?_ | refine SB fun _ _ => ?_) | (refine M1 ?_; refine SC ?_) | (refine M2 ?_; refine SE ?_))
  rename_i g3 hg3 g4 hg4 g5 hg5 g6 hg6 g7 hg7
  have hle : w.heap.size ≤ w.heap.size := Nat.le_refl _
  refine XL.with5 (v := v) (t := t) (r := r) h rfl rfl (fun hc w1 hB1 => ?_) (fun hc ho hq w1 gr g gm hG1 hB1 hgl hgrl => ?_)
  · have e1 : t.acc r d = (0, ruE t r) := by unfold CTk.acc; rw [if_pos hc]
    rw [e1]
    repeat (first | (refine M0 ?_; first | refine SL ?_ | refine SB fun _ _ => ?_ | refine XL.store_at tok 0 (g := g7) (o := 0) (j := 0) (cs := [.int .i64 0]) rfl rfl rfl rfl rfl (Nat.le_of_ble_eq_true rfl) rfl ?_) | (refine M1 ?_; refine SC ?_) | (refine M2 ?_; refine SE ?_))
    rw [show decide (ruE t r ≠ 0) = true from decide_eq_true hc]
    repeat (first | (refine M0 ?_; first | refine SL ?_ | refine SB fun _ _ => ?_) | (refine M1 ?_; refine SC ?_) | (refine M2 ?_; refine SE ?_))
    refine XC.drawRS (trunc w w.heap.size) [] [] [0, 1, 2] mixed (fun _ h => Sys.anchorT hB1 h (fun e he => by cases he) (by simp) hle) rfl (by kernel_rfl) ?_
    repeat (any_goals (first | (refine M0 ?_; first | refine SL ?_ | refine SB fun _ _ => ?_) | (refine M1 ?_; refine SC ?_) | (refine M2 ?_; first | refine SE ?_ | ((with_reducible refine atHeld ?_); refine z7 ?_)) | (refine M3 ?_; first | refine SG ?_ | refine SF ?_) | (refine M4 ?_; refine SR ?_) | (refine M5 ?_; first | exact M7 | refine YM ?_ | refine YN ?_ ?_)))
    any_goals (repeat (first | exact AnyR.nil | refine AnyR.skip rfl ?_))
    all_goals
      refine XE.retD0 tok Try.results28 rfl (by simp only [and_self, and_true]) (fun w' S => ?_)
      exact ⟨rfl, hB1.trans S.toBelow⟩
  repeat (first | (refine M0 ?_; first | refine SL ?_ | refine SB fun _ _ => ?_ | refine Y4 (Ev.makeFunc rfl rfl) ?_) | (refine M1 ?_; refine SC ?_) | (refine M2 ?_; refine SE ?_))
  refine XL.defer rfl ?_
  repeat (first | (refine M0 ?_; first | refine SL ?_ | refine SB fun _ _ => ?_ | refine Y4 (Ev.makeFunc rfl rfl) ?_) | (refine M1 ?_; refine SC ?_) | (refine M2 ?_; refine SE ?_))
  rename_i gc hgc
  refine XL.step _ (Ev.buildArr tok Try.underlying138 fn5_size rfl rfl rfl) rfl ?_
  repeat (first | (refine M0 ?_; first | refine SL ?_ | refine SB fun _ _ => ?_) | (refine M1 ?_; refine SC ?_) | (refine M2 ?_; refine SE ?_))
  refine XC.rebase (List.Sublist.refl _) (fun W0 S0 => ?_)
  have hG0 : Gam t v w.heap.size g gm [gc, gr, g, g7, g6, g5, g4, g3] [] [] W0 := hG1.on (ks := [gc, gr, g, g7, g6, g5, g4, g3]) S0 (.tail _ (.tail _ (.head _))) ZZMK ZZSB (by simp) (fun x hx => hx)
  have hB0 : Below w.heap.size w W0 := hB1.trans S0.toBelow
  have hn67 : g6 ≠ g7 := by
    have := S0.nd
    simp only [List.map_cons, List.map_nil, List.nodup_cons, List.mem_cons, not_or] at this
    exact fun e => this.2.2.2.1.1 e.symm
  have hbc : w.heap.size ≤ gc := (S0.own _ (.head _)).1
  have hlen1 := hL1.len (by decide)
  refine XC.loopk [6, 7, 36] rfl (fun z : Nat × World => [(37, .int .i64 (z.1 : Nat))]) (fun _ => [(gc, chkO gr q1 q2 d), (gr, rulO g r), (g, gamO v t gm), (g7, cel 30 [.int .i64 0]), (g6, cel 3 [.int .i64 0]), (g5, cel 49 (decC q1 q2 d)), (g4, cel 42 [.int .i64 r.count, .int .i64 r.early]), (g3, cel 29 (ctkC v t))]) (fun z => z.2)
    (fun z => z.1 ≤ 5 ∧ Gam t v w.heap.size g gm [gc, gr, g, g7, g6, g5, g4, g3] [] [] z.2 ∧ Below w.heap.size w z.2 ∧ (1 ≤ z.1 → t.strange d.plan = false ∧ d.peaks.length = t.m) ∧ (2 ≤ z.1 → t.earB r d = true) ∧ (3 ≤ z.1 → t.hldsB d = true) ∧ (4 ≤ z.1 → firstB (fun k => decide (d.peaks[k]?.getD (0, 0) ≠ t.peak d.plan k)) t.m = none) ∧
      (5 ≤ z.1 → ¬ (d.later.length : Int) ≠ t.manyI d ∧ firstB (fun k => !t.rules (d.plan.close - t.from_ + 1 + (k : Nat)) (d.later[k]?.getD (0, 0))) d.later.length = none)) (fun z => 5 - z.1) (0, W0)
    ⟨Nat.zero_le _, hG0, hB0, fun h => absurd h (by simp), fun h => absurd h (by simp), fun h => absurd h (by simp), fun h => absurd h (by simp), fun h => absurd h (by simp)⟩ ZZSUB (fun _ h => h) ?_
  rintro ⟨k, W⟩ ⟨hk, hGW, hBW, a1, a2, a3, a4, a5⟩
  simp only at hk hGW hBW a1 a2 a3 a4 a5
  dsimp only [List.cons_append, List.nil_append]
  repeat (first | (refine M0 ?_; first | refine SL ?_ | refine SB fun _ _ => ?_) | (refine M1 ?_; refine SC ?_) | (refine M2 ?_; refine SE ?_))
  refine XC.cond _ rfl (fun h5 => ?_) (fun h5 => ?_)
  · have hk4 : k ≤ 4 := by simp only [decide_eq_true_eq] at h5; omega
    rcases k with _ | _ | _ | _ | _ | k
    · repeat (first | (refine M0 ?_; first | refine SL ?_ | refine SB fun _ _ => ?_) | (refine M1 ?_; refine SC ?_) | (refine M2 ?_; refine SE ?_))
      refine XL.step _ (Ev.indexArr tok Try.underlying138 fn5_one rfl (j := 0) rfl (by decide) rfl) rfl ?_
      repeat (first | (refine M0 ?_; first | refine SL ?_ | refine SB fun _ _ => ?_) | (refine M1 ?_; refine SC ?_) | (refine M2 ?_; refine SE ?_))
      refine XL.callE (fst := [.pointer (some ⟨gc, 0, none⟩)]) (cap := []) (vs := []) (mustE (!t.strange d.plan && decide (d.peaks.length = t.m)) (refV 0 2)) (by unfold mustE; split <;> (intro hh; cases hh)) (ck rfl) rfl rfl rfl hGW (.tail _ (.tail _ (.head _))) (fun w5 ks2 S5 hk5 hG5 => (form_any (S5.own (gc, chkO gr q1 q2 d) (.head _)).2 (S5.own (gr, rulO g r) (.tail _ (.head _))).2 hG5.game ho hG5.task.hn hlen1).mono fun e w' hx => GamE.ofBelow hG5 hx) (fun w6 x he hG6 hB6 => ?_) (fun w6 ch he hG6 hB6 => ?_) ZZMK
      · have hfact := form_t (mustE_ret he)
        repeat (first | (refine M0 ?_; first | refine SL ?_ | refine SB fun _ _ => ?_) | (refine M1 ?_; refine SC ?_) | (refine M2 ?_; refine SE ?_))
        refine XE.roundW (s := (0, W)) (fun w9 S9 => ⟨(0 + 1, w9), ⟨by omega, hG6.on (ks := [gc, gr, g, g7, g6, g5, g4, g3]) S9 (.tail _ (.tail _ (.head _))) ZZMK ZZSB (by simp) (fun x hx => hx), (hBW.trans hB6).trans S9.toBelow, fun _ => hfact, fun hh => absurd hh (by omega), fun hh => absurd hh (by omega), fun hh => absurd hh (by omega), fun hh => absurd hh (by omega)⟩, by simp only; omega, ZZSUB, S9.rebase ZZSM⟩)
      · obtain ⟨hb, rfl⟩ := mustE_pan he
        exact accept_pan (i := 0) (e := 2) (hBW.trans hB6) Try.results28 (acc_form hc hb) 4 3 rfl rfl rfl rfl (.tail _ (.tail _ (.tail _ (.head _)))) hn67 rfl (by simp only [and_self, and_true]) (fun _ _ h => h)
    · repeat (first | (refine M0 ?_; first | refine SL ?_ | refine SB fun _ _ => ?_) | (refine M1 ?_; refine SC ?_) | (refine M2 ?_; refine SE ?_))
      refine XL.step _ (Ev.indexArr tok Try.underlying138 fn5_one rfl (j := 1) rfl (by decide) rfl) rfl ?_
      repeat (first | (refine M0 ?_; first | refine SL ?_ | refine SB fun _ _ => ?_) | (refine M1 ?_; refine SC ?_) | (refine M2 ?_; refine SE ?_))
      refine XL.callE (fst := [.pointer (some ⟨gc, 0, none⟩)]) (cap := []) (vs := []) (mustE (t.earB r d) (refV 0 150)) (by unfold mustE; split <;> (intro hh; cases hh)) (ck rfl) rfl rfl rfl hGW (.tail _ (.tail _ (.head _))) (fun w5 ks2 S5 hk5 hG5 => (early_any (S5.own (gc, chkO gr q1 q2 d) (.head _)).2 (S5.own (gr, rulO g r) (.tail _ (.head _))).2 hG5.game (hG5.task.more hG5.fam.base) ho hq (a1 (by omega)).1).mono fun e w' hx => GamE.ofBelow hG5 hx) (fun w6 x he hG6 hB6 => ?_) (fun w6 ch he hG6 hB6 => ?_) ZZMK
      · have hfact := mustE_ret he
        repeat (first | (refine M0 ?_; first | refine SL ?_ | refine SB fun _ _ => ?_) | (refine M1 ?_; refine SC ?_) | (refine M2 ?_; refine SE ?_))
        refine XE.roundW (s := (1, W)) (fun w9 S9 => ⟨(1 + 1, w9), ⟨by omega, hG6.on (ks := [gc, gr, g, g7, g6, g5, g4, g3]) S9 (.tail _ (.tail _ (.head _))) ZZMK ZZSB (by simp) (fun x hx => hx), (hBW.trans hB6).trans S9.toBelow, fun _ => a1 (by omega), fun _ => hfact, fun hh => absurd hh (by omega), fun hh => absurd hh (by omega), fun hh => absurd hh (by omega)⟩, by simp only; omega, ZZSUB, S9.rebase ZZSM⟩)
      · obtain ⟨hb, rfl⟩ := mustE_pan he
        exact accept_pan (i := 0) (e := 150) (hBW.trans hB6) Try.results28 (acc_early hc (a1 (by omega)).1 (a1 (by omega)).2 hb) 4 3 rfl rfl rfl rfl (.tail _ (.tail _ (.tail _ (.head _)))) hn67 rfl (by simp only [and_self, and_true]) (fun _ _ h => h)
    · repeat (first | (refine M0 ?_; first | refine SL ?_ | refine SB fun _ _ => ?_) | (refine M1 ?_; refine SC ?_) | (refine M2 ?_; refine SE ?_))
      refine XL.step _ (Ev.indexArr tok Try.underlying138 fn5_one rfl (j := 2) rfl (by decide) rfl) rfl ?_
      repeat (first | (refine M0 ?_; first | refine SL ?_ | refine SB fun _ _ => ?_) | (refine M1 ?_; refine SC ?_) | (refine M2 ?_; refine SE ?_))
      refine XL.callE (fst := [.pointer (some ⟨gc, 0, none⟩)]) (cap := []) (vs := []) (mustE (t.hldsB d) (refV 0 151)) (by unfold mustE; split <;> (intro hh; cases hh)) (ck rfl) rfl rfl rfl hGW (.tail _ (.tail _ (.head _))) (fun w5 ks2 S5 hk5 hG5 => holdsC_any hG5 ho (S5.own (gc, chkO gr q1 q2 d) (.head _)).2 (S5.own (gr, rulO g r) (.tail _ (.head _))).2 (hk5 (gc, chkO gr q1 q2 d) (.head _)) (hk5 (gr, rulO g r) (.tail _ (.head _))) hbc hgrl (a1 (by omega)).1 (ear_may (a2 (by omega)))) (fun w6 x he hG6 hB6 => ?_) (fun w6 ch he hG6 hB6 => ?_) ZZMK
      · have hfact := mustE_ret he
        repeat (first | (refine M0 ?_; first | refine SL ?_ | refine SB fun _ _ => ?_) | (refine M1 ?_; refine SC ?_) | (refine M2 ?_; refine SE ?_))
        refine XE.roundW (s := (2, W)) (fun w9 S9 => ⟨(2 + 1, w9), ⟨by omega, hG6.on (ks := [gc, gr, g, g7, g6, g5, g4, g3]) S9 (.tail _ (.tail _ (.head _))) ZZMK ZZSB (by simp) (fun x hx => hx), (hBW.trans hB6).trans S9.toBelow, fun _ => a1 (by omega), fun _ => a2 (by omega), fun _ => hfact, fun hh => absurd hh (by omega), fun hh => absurd hh (by omega)⟩, by simp only; omega, ZZSUB, S9.rebase ZZSM⟩)
      · obtain ⟨hb, rfl⟩ := mustE_pan he
        exact accept_pan (i := 0) (e := 151) (hBW.trans hB6) Try.results28 (acc_holds hc (a1 (by omega)).1 (a1 (by omega)).2 (a2 (by omega)) hb) 4 3 rfl rfl rfl rfl (.tail _ (.tail _ (.tail _ (.head _)))) hn67 rfl (by simp only [and_self, and_true]) (fun _ _ h => h)
    · repeat (first | (refine M0 ?_; first | refine SL ?_ | refine SB fun _ _ => ?_) | (refine M1 ?_; refine SC ?_) | (refine M2 ?_; refine SE ?_))
      refine XL.step _ (Ev.indexArr tok Try.underlying138 fn5_one rfl (j := 3) rfl (by decide) rfl) rfl ?_
      repeat (first | (refine M0 ?_; first | refine SL ?_ | refine SB fun _ _ => ?_) | (refine M1 ?_; refine SC ?_) | (refine M2 ?_; refine SE ?_))
      refine XL.callE (fst := [.pointer (some ⟨gc, 0, none⟩)]) (cap := []) (vs := []) (t.hgtE d) (by unfold CTk.hgtE; split <;> (intro hh; cases hh)) (ck rfl) rfl rfl rfl hGW (.tail _ (.tail _ (.head _))) (fun w5 ks2 S5 hk5 hG5 => heights_any hG5 ho (S5.own (gc, chkO gr q1 q2 d) (.head _)).2 (S5.own (gr, rulO g r) (.tail _ (.head _))).2 (hk5 (gc, chkO gr q1 q2 d) (.head _)) (hk5 (gr, rulO g r) (.tail _ (.head _))) hbc hgrl (a1 (by omega)).1 (hlds_ins ho (a3 (by omega))) (hL1.below (hBW.trans S5.toBelow)) (a1 (by omega)).2) (fun w6 x he hG6 hB6 => ?_) (fun w6 ch he hG6 hB6 => ?_) ZZMK
      · have hfact := hgt_r he
        repeat (first | (refine M0 ?_; first | refine SL ?_ | refine SB fun _ _ => ?_) | (refine M1 ?_; refine SC ?_) | (refine M2 ?_; refine SE ?_))
        refine XE.roundW (s := (3, W)) (fun w9 S9 => ⟨(3 + 1, w9), ⟨by omega, hG6.on (ks := [gc, gr, g, g7, g6, g5, g4, g3]) S9 (.tail _ (.tail _ (.head _))) ZZMK ZZSB (by simp) (fun x hx => hx), (hBW.trans hB6).trans S9.toBelow, fun _ => a1 (by omega), fun _ => a2 (by omega), fun _ => a3 (by omega), fun _ => hfact, fun hh => absurd hh (by omega)⟩, by simp only; omega, ZZSUB, S9.rebase ZZSM⟩)
      · obtain ⟨n, hn, rfl⟩ := hgt_p he
        exact accept_pan (i := ((n : Nat) : Int)) (e := 152) (hBW.trans hB6) Try.results28 (acc_heights hc (a1 (by omega)).1 (a1 (by omega)).2 (a2 (by omega)) (a3 (by omega)) hn) 4 3 rfl rfl rfl rfl (.tail _ (.tail _ (.tail _ (.head _)))) hn67 rfl (by simp only [and_self, and_true]) (fun _ _ h => h)
    · repeat (first | (refine M0 ?_; first | refine SL ?_ | refine SB fun _ _ => ?_) | (refine M1 ?_; refine SC ?_) | (refine M2 ?_; refine SE ?_))
      refine XL.step _ (Ev.indexArr tok Try.underlying138 fn5_one rfl (j := 4) rfl (by decide) rfl) rfl ?_
      repeat (first | (refine M0 ?_; first | refine SL ?_ | refine SB fun _ _ => ?_) | (refine M1 ?_; refine SC ?_) | (refine M2 ?_; refine SE ?_))
      refine XL.callE (fst := [.pointer (some ⟨gc, 0, none⟩)]) (cap := []) (vs := []) (t.latE d) (by unfold CTk.latE; split <;> (first | (intro hh; cases hh; done) | (split <;> (intro hh; cases hh)))) (ck rfl) rfl rfl rfl hGW (.tail _ (.tail _ (.head _))) (fun w5 ks2 S5 hk5 hG5 => later_any hG5 ho (S5.own (gc, chkO gr q1 q2 d) (.head _)).2 (S5.own (gr, rulO g r) (.tail _ (.head _))).2 (hk5 (gc, chkO gr q1 q2 d) (.head _)) (hk5 (gr, rulO g r) (.tail _ (.head _))) hbc hgrl (a1 (by omega)).1 (ear_may (a2 (by omega))) (hL2.below (hBW.trans S5.toBelow))) (fun w6 x he hG6 hB6 => ?_) (fun w6 ch he hG6 hB6 => ?_) ZZMK
      · have hfact := lat_r he
        repeat (first | (refine M0 ?_; first | refine SL ?_ | refine SB fun _ _ => ?_) | (refine M1 ?_; refine SC ?_) | (refine M2 ?_; refine SE ?_))
        refine XE.roundW (s := (4, W)) (fun w9 S9 => ⟨(4 + 1, w9), ⟨by omega, hG6.on (ks := [gc, gr, g, g7, g6, g5, g4, g3]) S9 (.tail _ (.tail _ (.head _))) ZZMK ZZSB (by simp) (fun x hx => hx), (hBW.trans hB6).trans S9.toBelow, fun _ => a1 (by omega), fun _ => a2 (by omega), fun _ => a3 (by omega), fun _ => a4 (by omega), fun _ => hfact⟩, by simp only; omega, ZZSUB, S9.rebase ZZSM⟩)
      · rcases lat_p he with ⟨hm, rfl⟩ | ⟨hm, n, hn, rfl⟩
        · exact accept_pan (i := 0) (e := 2) (hBW.trans hB6) Try.results28 (acc_many hc (a1 (by omega)).1 (a1 (by omega)).2 (a2 (by omega)) (a3 (by omega)) (a4 (by omega)) hm) 4 3 rfl rfl rfl rfl (.tail _ (.tail _ (.tail _ (.head _)))) hn67 rfl (by simp only [and_self, and_true]) (fun _ _ h => h)
        · exact accept_pan (i := ((n : Nat) : Int)) (e := 153) (hBW.trans hB6) Try.results28 (acc_later hc (a1 (by omega)).1 (a1 (by omega)).2 (a2 (by omega)) (a3 (by omega)) (a4 (by omega)) hm hn) 4 3 rfl rfl rfl rfl (.tail _ (.tail _ (.tail _ (.head _)))) hn67 rfl (by simp only [and_self, and_true]) (fun _ _ h => h)
    · omega
  · have hk5 : k = 5 := by simp only [decide_eq_false_iff_not] at h5; omega
    subst hk5
    repeat (first | (refine M0 ?_; first | refine SL ?_ | refine SB fun _ _ => ?_) | (refine M1 ?_; refine SC ?_) | (refine M2 ?_; refine SE ?_))
    exact accept_ret (i := 0) (e := 0) hBW Try.results28 (acc_ok hc (a1 (by omega)).1 (a1 (by omega)).2 (a2 (by omega)) (a3 (by omega)) (a4 (by omega)) (a5 (by omega)).1 (a5 (by omega)).2) 4 3 rfl rfl rfl rfl (.tail _ (.tail _ (.tail _ (.head _)))) hn67 rfl (by simp only [and_self, and_true]) (fun _ _ h => h)
end Go.Proofs.Ytmpaiphakjogjaa.X
/-
  The law ClosureOpens.
-/
namespace Go.Proofs.Ytmpaiphakjogjaa.Bs
open Go Go.Proofs.Ytmpaiphakjogjaa.X
set_option linter.unusedVariables false
end Go.Proofs.Ytmpaiphakjogjaa.Bs
namespace Go.Proofs.Ytmpaiphakjogjaa.X
open Go Go.RowKit Go.Proofs.Ytmpaiphakjogjaa.Bs
set_option linter.unusedVariables false
end Go.Proofs.Ytmpaiphakjogjaa.X
/-
  The walks of whole, Long and levels of the statements (closure).
-/
namespace Go.Proofs.Ytmpaiphakjogjaa.Bs
open Go Go.Proofs.Ytmpaiphakjogjaa.X
set_option linter.unusedVariables false
def CTk.wholeB (t : CTk) : Bool := decide (0 < t.m) && (List.range t.m).all fun k => decide ((t.h k).vals.length = t.river.length) && decide ((t.h k).from_ = t.from_)
def CTk.longB (t : CTk) : Bool := (decide (12 < t.river.length) && decide (t.river.length ≤ 60)) || (decide (4 < t.m) && decide (t.m ≤ 8))
end Go.Proofs.Ytmpaiphakjogjaa.Bs
namespace Go.Proofs.Ytmpaiphakjogjaa.X
open Go Go.RowKit Go.Proofs.Ytmpaiphakjogjaa.Bs
set_option linter.unusedVariables false
end Go.Proofs.Ytmpaiphakjogjaa.X
/-
  The walk of lower of the statements (closure).
-/
namespace Go.Proofs.Ytmpaiphakjogjaa.Bs
open Go Go.Proofs.Ytmpaiphakjogjaa.X
set_option linter.unusedVariables false
def lowV (bs : List Int) (v : Int) (i : Nat) : Int := if 0 < bs.length then max (-20000) (v - at0 bs (i % bs.length)) else v
def lowTo (l bs : List Int) (n : Nat) : List Int := (List.range n).map fun i => lowV bs (at0 l i) i
end Go.Proofs.Ytmpaiphakjogjaa.Bs
namespace Go.Proofs.Ytmpaiphakjogjaa.X
open Go Go.RowKit Go.Proofs.Ytmpaiphakjogjaa.Bs
set_option linter.unusedVariables false
def u16K5 : Kind Int := ⟨43, 1, fun k => [.int .u16 k], fun _ => [], fun _ => rfl⟩
def LowR (h : His) (bs : List Int) (x : Value) (new : List Held) : Prop := ∃ q : SV, x = .agg ⟨[.int .i64 h.from_, svV q]⟩ ∧ new = [hInts q (lowTo h.vals bs h.vals.length)]
end Go.Proofs.Ytmpaiphakjogjaa.X
/-
  The law ClosureSafe.
-/
namespace Go.Proofs.Ytmpaiphakjogjaa.X
open Go Go.RowKit Go.Proofs.Ytmpaiphakjogjaa.Bs
set_option linter.unusedVariables false
def hisK0 : Kind (SV × His) := ⟨65, 2, fun e => hisC e.1 e.2, fun _ => [], fun _ => rfl⟩
end Go.Proofs.Ytmpaiphakjogjaa.X
/-
  The walk of Long; the law ClosureLess.
-/
namespace Go.Proofs.Ytmpaiphakjogjaa.Bs
open Go Go.Proofs.Ytmpaiphakjogjaa.X
set_option linter.unusedVariables false
/-- a task without one of its histories. -/
def CTk.wout (t : CTk) (k : Nat) : CTk := { t with his := t.his.take k ++ t.his.drop (k + 1) }
end Go.Proofs.Ytmpaiphakjogjaa.Bs
namespace Go.Proofs.Ytmpaiphakjogjaa.X
open Go Go.RowKit Go.Proofs.Ytmpaiphakjogjaa.Bs
set_option linter.unusedVariables false
theorem Long5_any {v : CTV} {t : CTk} {w : World} (hT : CtAt w w.heap.size v t) :
    Calls Try.prog 18 #[ctkV v t] w fun e w' => e = .returned (.bool t.longB) ∧ Below w.heap.size w w' := by
  have hhn := hT.hn
  have hhm := hT.hmax
  have hrn := hT.river.len
  have hrm := hT.river.max
  obtain ⟨vp, vf, ⟨Ah, nh, ch⟩, ⟨Ar, nr, cr⟩⟩ := v
  simp only at hhn hrn hhm hrm
  subst hhn hrn
  have k1 : decide ((12 : Int) < (t.river.length : Int)) = decide (12 < t.river.length) := by rw [decide_eq_decide]; omega
  have k2 : decide ((t.river.length : Int) ≤ 60) = decide (t.river.length ≤ 60) := by rw [decide_eq_decide]; omega
  have k3 : decide ((4 : Int) < (t.m : Int)) = decide (4 < t.m) := by rw [decide_eq_decide]; omega
  have k4 : decide ((t.m : Int) ≤ 8) = decide (t.m ≤ 8) := by rw [decide_eq_decide]; omega
  simp only [ctkV, ctkC]
  unfold CTk.longB
  refine enter Try.func18 rfl Try.ntmps18 rfl ?_; simp only [frame, Nat.zero_add, Nat.reduceAdd]
  repeat (first | (refine M0 ?_; first | refine SL ?_ | refine SB fun _ _ => ?_) | (refine M1 ?_; refine SC ?_) | (refine M2 ?_; refine SE ?_))
  rw [k1]
  cases decide (12 < t.river.length) with
  | true =>
    repeat (first | (refine M0 ?_; first | refine SL ?_ | refine SB fun _ _ => ?_) | (refine M1 ?_; refine SC ?_) | (refine M2 ?_; refine SE ?_))
    rw [k2]
    cases decide (t.river.length ≤ 60) with
    | true =>
      repeat (first | (refine M0 ?_; first | refine SL ?_ | refine SB fun _ _ => ?_) | (refine M1 ?_; refine SC ?_) | (refine M2 ?_; refine SE ?_))
      refine XE.retg tok Try.results18 rfl (by simp only [and_self, and_true]) (fun w' S => ?_)
      exact ⟨rfl, S.toBelow⟩
    | false =>
      repeat (first | (refine M0 ?_; first | refine SL ?_ | refine SB fun _ _ => ?_) | (refine M1 ?_; refine SC ?_) | (refine M2 ?_; refine SE ?_))
      rw [k3]
      cases decide (4 < t.m) with
      | true =>
        repeat (first | (refine M0 ?_; first | refine SL ?_ | refine SB fun _ _ => ?_) | (refine M1 ?_; refine SC ?_) | (refine M2 ?_; refine SE ?_))
        rw [k4]
        refine XE.retg tok Try.results18 rfl (by simp only [and_self, and_true]) (fun w' S => ?_)
        exact ⟨rfl, S.toBelow⟩
      | false =>
        repeat (first | (refine M0 ?_; first | refine SL ?_ | refine SB fun _ _ => ?_) | (refine M1 ?_; refine SC ?_) | (refine M2 ?_; refine SE ?_))
        refine XE.retg tok Try.results18 rfl (by simp only [and_self, and_true]) (fun w' S => ?_)
        exact ⟨rfl, S.toBelow⟩
  | false =>
    repeat (first | (refine M0 ?_; first | refine SL ?_ | refine SB fun _ _ => ?_) | (refine M1 ?_; refine SC ?_) | (refine M2 ?_; refine SE ?_))
    rw [k3]
    cases decide (4 < t.m) with
    | true =>
      repeat (first | (refine M0 ?_; first | refine SL ?_ | refine SB fun _ _ => ?_) | (refine M1 ?_; refine SC ?_) | (refine M2 ?_; refine SE ?_))
      rw [k4]
      refine XE.retg tok Try.results18 rfl (by simp only [and_self, and_true]) (fun w' S => ?_)
      exact ⟨rfl, S.toBelow⟩
    | false =>
      repeat (first | (refine M0 ?_; first | refine SL ?_ | refine SB fun _ _ => ?_) | (refine M1 ?_; refine SC ?_) | (refine M2 ?_; refine SE ?_))
      refine XE.retg tok Try.results18 rfl (by simp only [and_self, and_true]) (fun w' S => ?_)
      exact ⟨rfl, S.toBelow⟩
end Go.Proofs.Ytmpaiphakjogjaa.X
/-
  The law ClosureLess.
-/
namespace Go.Proofs.Ytmpaiphakjogjaa.X
open Go Go.RowKit Go.Proofs.Ytmpaiphakjogjaa.Bs
set_option linter.unusedVariables false
end Go.Proofs.Ytmpaiphakjogjaa.X
/-
  The law ClosureProves.
-/
namespace Go.Proofs.Ytmpaiphakjogjaa.Bs
open Go Go.Proofs.Ytmpaiphakjogjaa.X
set_option linter.unusedVariables false
theorem plan_alw {t : CTk} {r : CRu} (h0 : ruE t r = 0) (ho : CtOk t) {i : Nat} (hm : t.may r (i : Nat) = true) : t.alwB r (t.plan (i : Nat)).close = true := by
  have h1 := (may_in hm).2.2.1
  have hd := ho.dly
  unfold CTk.alwB
  rw [if_neg (by simp [h0])]
  unfold CTk.allowed
  have e1 : (t.plan (i : Nat)).close - t.from_ = (i : Nat) := by unfold CTk.plan; simp only; omega
  rw [e1, hm, outB_f.2 (show t.from_ ≤ (t.plan (i : Nat)).close ∧ (t.plan (i : Nat)).close ≤ t.from_ + t.n - 1 by unfold CTk.last at h1; omega)]
  rfl
theorem proves_all {t : CTk} {r : CRu} (h : t.decE r = 0) : t.acc r (t.decD r) = (0, 0) ∧ ruE t r = 0 ∧ ((t.decD r).plan.close < 0 → (t.decD r).later = []) ∧ (0 ≤ (t.decD r).plan.close → t.alwB r (t.decD r).plan.close = true) := by
  obtain ⟨h0, h1⟩ := decE_0 h
  obtain ⟨_, ho, _⟩ := ruE_0 h0
  refine ⟨proves_acc h, h0, fun hc => ?_, fun hc => ?_⟩
  · rcases h1 with ⟨h2, e⟩ | ⟨h2, i, h3, h4, e⟩
    · rw [e]
    · rw [e] at hc
      have h5 : t.from_ + (i : Int) < 0 := hc
      have := ho.frm
      omega
  · rcases h1 with ⟨h2, e⟩ | ⟨h2, i, h3, h4, e⟩
    · rw [e] at hc
      exact absurd (show (0 : Int) ≤ -1 from hc) (by decide)
    · rw [e]
      exact plan_alw h0 ho h4
end Go.Proofs.Ytmpaiphakjogjaa.Bs
namespace Go.Proofs.Ytmpaiphakjogjaa.X
open Go Go.RowKit Go.Proofs.Ytmpaiphakjogjaa.Bs
set_option linter.unusedVariables false
set_option maxHeartbeats 16000000 in
theorem ClosureProves_any {v : CTV} {t : CTk} {r : CRu} {w : World} (hT : CtAt w w.heap.size v t) :
    Calls Try.prog 8 #[ctkV v t, ruV r] w fun e w' => e = .returned (.bool true) ∧ Below w.heap.size w w' := by
  have haw := fun {L : Lo} {W : World} (w5 : World) (S5 : Sys w.heap.size W L w5) => Awake5_any (w := w5)
  have hlo := fun (w5 : World) (hB : Below w.heap.size w w5) => Long5_any (hT.sys (Sys.ofBelow hB))
  simp only [ctkV, ctkC, ruV] at hlo ⊢
  refine enter Try.func8 rfl Try.ntmps8 rfl ?_; simp only [frame, Nat.zero_add, Nat.reduceAdd]
  repeat (first | (refine M0 ?_; first | refine SL ?_ | refine SB fun _ _ => ?_) | (refine M1 ?_; refine SC ?_) | (refine M2 ?_; refine SE ?_))
  rename_i g2 hg2 g3 hg3
  refine XL.callF (ks := []) (rs := []) (hs := []) (b0 := w.heap.size) (wE := w) (DecR t r) (ck rfl) rfl rfl (Fam.start (Nat.le_refl w.heap.size)) (fun _ h => by cases h) (Below.refl w.heap.size w) (fun w1 S1 _ hB1 => Decide_made (v := v) (r := r) (hT.sys (Sys.ofBelow hB1))) (fun w1 x new hR hF1 hB1 hk1 => ?_) ZZHL
  obtain ⟨⟨q1A, q1n, q1c⟩, ⟨q2A, q2n, q2c⟩, rfl, rfl⟩ := hR
  have hq2 : q2n = (t.decD r).later.length := (hF1.held (hList wtnK5 ⟨q2A, q2n, q2c⟩ (t.decD r).later) (.tail _ (.head _))).len (by decide)
  simp only [decV, decC, svV]
  have hac := fun {L : Lo} (w5 : World) (S5 : Sys w.heap.size w1 L w5) (hL : ∀ e, e ∈ L → e.1 ∈ _ ∨ w1.heap.size ≤ e.1) => Accept_any (v := v) (t := t) (r := r) (q1 := ⟨q1A, q1n, q1c⟩) (q2 := ⟨q2A, q2n, q2c⟩) (d := t.decD r) (hT.sys (Sys.ofBelow (hB1.trans S5.toBelow))) (Held.lt (x := hList pekK5 ⟨q1A, q1n, q1c⟩ (t.decD r).peaks) ((hF1.sys S5 hL).get (.head _))) (Held.lt (x := hList wtnK5 ⟨q2A, q2n, q2c⟩ (t.decD r).later) ((hF1.sys S5 hL).get (.tail _ (.head _))))
  simp only [ctkV, ctkC, ruV, decV, decC, svV] at hac
  repeat (first | (refine M0 ?_; first | refine SL ?_ | refine SB fun _ _ => ?_ | refine Y4 (Ev.call (f := 18) (ck rfl) rfl (fun w5 S5 => hlo w5 (hB1.trans S5.toBelow))) ?_) | (refine M1 ?_; refine SC ?_) | (refine M2 ?_; refine SE ?_))
  cases hlg : t.longB with
  | true =>
    repeat (first | (refine M0 ?_; first | refine SL ?_ | refine SB fun _ _ => ?_ | refine Y4 (Ev.call (f := 17) (ck rfl) rfl (fun w5 S5 => haw w5 S5)) ?_) | (refine M1 ?_; refine SC ?_) | (refine M2 ?_; refine SE ?_))
    refine XE.retg tok Try.results8 rfl (by simp only [and_self, and_true]) (fun w' S => ?_)
    exact ⟨rfl, hB1.trans S.toBelow⟩
  | false =>
  repeat (first | (refine M0 ?_; first | refine SL ?_ | refine SB fun _ _ => ?_) | (refine M1 ?_; refine SC ?_) | (refine M2 ?_; refine SE ?_))
  by_cases hE : t.decE r = 0
  rotate_left
  · rw [show decide (t.decE r ≠ 0) = true from decide_eq_true hE]
    repeat (first | (refine M0 ?_; first | refine SL ?_ | refine SB fun _ _ => ?_ | refine Y4 (Ev.call (f := 17) (ck rfl) rfl (fun w5 S5 => haw w5 S5)) ?_) | (refine M1 ?_; refine SC ?_) | (refine M2 ?_; refine SE ?_))
    refine XE.retg tok Try.results8 rfl (by simp only [and_self, and_true]) (fun w' S => ?_)
    exact ⟨rfl, hB1.trans S.toBelow⟩
  rw [show decide (t.decE r ≠ 0) = false from decide_eq_false (fun h => h hE)]
  obtain ⟨p1, p2, p3, p4⟩ := proves_all hE
  rw [p1] at hac
  simp only at hac
  repeat (first | (refine M0 ?_; first | refine SL ?_ | refine SB fun _ _ => ?_) | (refine M1 ?_; refine SC ?_) | (refine M2 ?_; refine SE ?_))
  repeat (first | (refine M0 ?_; first | refine SL ?_ | refine SB fun _ _ => ?_ | refine Y4 (Ev.call (f := 28) (ck rfl) rfl (fun w5 S5 => hac w5 S5 ZZHL)) ?_) | (refine M1 ?_; refine SC ?_) | (refine M2 ?_; refine SE ?_))
  by_cases hcl : (t.decD r).plan.close < 0
  · rw [show decide ((t.decD r).plan.close < 0) = true from decide_eq_true hcl]
    rw [p3 hcl] at hq2
    simp only [List.length_nil] at hq2
    subst hq2
    repeat (first | (refine M0 ?_; first | refine SL ?_ | refine SB fun _ _ => ?_ | refine Y4 (Ev.call (f := 17) (ck rfl) rfl (fun w5 S5 => haw w5 S5)) ?_) | (refine M1 ?_; refine SC ?_) | (refine M2 ?_; refine SE ?_))
    refine XE.retg tok Try.results8 rfl (by simp only [and_self, and_true]) (fun w' S => ?_)
    exact ⟨rfl, hB1.trans S.toBelow⟩
  rw [show decide ((t.decD r).plan.close < 0) = false from decide_eq_false hcl]
  have hal := fun (w5 : World) (hB : Below w.heap.size w w5) => Allowed_any (r := r) (i := (t.decD r).plan.close) (hT.sys (Sys.ofBelow hB))
  rw [p4 (by omega), p2] at hal
  simp only [ctkV, ctkC, ruV] at hal
  repeat (first | (refine M0 ?_; first | refine SL ?_ | refine SB fun _ _ => ?_ | refine Y4 (Ev.call (f := 21) (ck rfl) rfl (fun w5 S5 => hal w5 (hB1.trans S5.toBelow))) ?_ | refine Y4 (Ev.call (f := 17) (ck rfl) rfl (fun w5 S5 => haw w5 S5)) ?_) | (refine M1 ?_; refine SC ?_) | (refine M2 ?_; refine SE ?_))
  refine XE.retg tok Try.results8 rfl (by simp only [and_self, and_true]) (fun w' S => ?_)
  exact ⟨rfl, hB1.trans S.toBelow⟩
end Go.Proofs.Ytmpaiphakjogjaa.X
