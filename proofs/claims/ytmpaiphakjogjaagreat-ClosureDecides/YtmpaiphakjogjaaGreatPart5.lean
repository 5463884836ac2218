/-
  The walk of witness (closure).
-/
import Derived.Test.YtmpaiphakjogjaaGreatPart4
import Derived.Test.YtmpaiphakjogjaaGreatPart3
import Derived.Test.YtmpaiphakjogjaaGreatPart2
set_option linter.unusedVariables false
set_option linter.unusedSimpArgs false
namespace Go.Proofs.YtmpaiphakjogjaaGreat.X
open Go Go.RowKit Go.Proofs.YtmpaiphakjogjaaGreat.Bs
set_option linter.unusedVariables false
def iiV (w : II) : Value := .agg ⟨[.int .i64 w.1, .int .i64 w.2]⟩
noncomputable def WitX (t : CTk) (i : Int) (x : Value) (new : List Held) : Prop := x = .tuple ⟨[iiV (t.witC i), .bool (t.wit i).isSome]⟩ ∧ new = []
theorem wit_first {t : CTk} {i : Int} {k a : Nat} (hk : k < t.m) (h : ∀ j, j < k → t.fails j (t.plan i) = none) (ha : t.fails k (t.plan i) = some a) : t.wit i = some (k, a) := by
  unfold CTk.wit
  rw [firstB_some.2 ⟨hk, by simp [ha], fun j hj => by simp [h j hj]⟩]
  simp [ha]
theorem wit_no {t : CTk} {i : Int} (h : ∀ j, j < t.m → t.fails j (t.plan i) = none) : t.wit i = none := by
  unfold CTk.wit
  rw [firstB_none.2 fun j hj => by simp [h j hj]]
set_option maxHeartbeats 16000000 in
theorem witness_any {t : CTk} {v : CTV} {r : CRu} {b0 g gr gm i : Nat} {ks : List Nat} {w : World} (hG : Gam t v b0 g gm ks [] [] w) (ho : CtOk t) (hr : w.heap[gr]? = some (rulO g r)) (hgr : gr ∈ ks) (hbr : b0 ≤ gr) (hi : (i : Int) ≤ t.last) :
    Calls Tryz.prog 48 #[.pointer (some ⟨gr, 0, none⟩), .int .i64 (i : Nat)] w (GamR t b0 gm ks (WitX t (i : Nat)) w) := by
  have hgs := hG.gin
  have hgm : w.heap[g]? = some (gamO v t gm) := hG.game
  have hne : gr ≠ g := fun e => by
    subst e
    rw [hgm] at hr
    simp [rulO, gamO] at hr
  have S0 := Sys.start2 hbr hG.bg hr hgm hne
  have h60 := ho.n60
  have hdl := ho.dly
  have hfr := ho.frm
  have hm8 := ho.m8
  have hb0 : b0 ≤ w.heap.size := hG.fam.base
  have hst : t.strange (t.plan (i : Nat)) = false := (plan_ok ho (Int.natCast_nonneg i) hi).1
  have hl1 : -31 ≤ t.last ∧ t.last ≤ 60 := by unfold CTk.last; omega
  have hpl := fun {L : Lo} {B : Nat} {W1 : World} (w5 : World) (S5 : Sys B W1 L w5) (hm : (g, gamO v t gm) ∈ L) => plan_any (v := v) (t := t) (gm := gm) (i := (i : Nat)) (S5.own _ hm).2 ho ⟨by omega, by omega⟩
  have hfl := fun (k : Nat) (hk : k < t.m) (w5 : World) (ks2 : List Nat) (hG5 : Gam t v b0 g gm ks2 [] [] w5) => fails_any (p := t.plan (i : Nat)) hG5 ho hk hst
  have hhn := hG.task.hn
  have hrm : gr ≠ gm := fun e => hG.nin (e ▸ hgr)
  obtain ⟨vp, vf, ⟨Ah, nh, ch'⟩, vr⟩ := v
  simp only at hhn
  subst hhn
  simp only [plnV] at hfl
  simp only [rulO, rulC, gamO, gamC] at S0
  refine enterL Tryz.func48 rfl Tryz.ntmps48 rfl (S0) ?_; simp only [frame, Nat.zero_add, Nat.reduceAdd]
  repeat (first | (refine M0 ?_; first | refine SL ?_ | refine SB fun _ _ => ?_ | refine Y4 (Ev.load_loc tok 1 (g := gr) (o := 0) rfl rfl rfl rfl) ?_ | refine Y4 (Ev.load_loc tok 2 (g := g) (o := 6) rfl rfl rfl rfl) ?_) | (refine M1 ?_; refine SC ?_) | (refine M2 ?_; refine SE ?_))
  rename_i g4 hg4
  have mg : g ∈ g4 :: ks := .tail _ hgs
  have mr : gr ∈ g4 :: ks := .tail _ hgr
  have m4 : g4 ∈ g4 :: ks := .head _
  refine XC.rebase (List.Sublist.refl _) (fun W0 S0 => ?_)
  have hG0 : Gam t ⟨vp, vf, ⟨Ah, t.m, ch'⟩, vr⟩ b0 g gm (g4 :: ks) [] [] W0 := (hG.add S0 (.tail _ (.tail _ (.head _))) ZZHM).less (fun x hx => by
    rcases List.mem_cons.1 hx with rfl | hx
    · simp
    · exact List.mem_append_right _ hx) mg
  have hS0 : Since w gm W0 := Since.end2 hG Since.refl S0 ZZHM (own2 hgm hr ZZO3)
  refine XC.loopk [0, 1, 4, 16] rfl (fun z : Nat × World => [(17, .int .i64 (z.1 : Nat))]) (fun z => [(g4, cel 70 [.int .i64 0, .int .i64 0]), (gr, rulO g r), (g, gamO ⟨vp, vf, ⟨Ah, t.m, ch'⟩, vr⟩ t gm)]) (fun z => z.2)
    (fun z => z.1 ≤ t.m ∧ Gam t ⟨vp, vf, ⟨Ah, t.m, ch'⟩, vr⟩ b0 g gm (g4 :: ks) [] [] z.2 ∧ Since w gm z.2 ∧ ∀ j, j < z.1 → t.fails j (t.plan (i : Nat)) = none) (fun z => t.m - z.1) (0, W0) ⟨Nat.zero_le _, hG0, hS0, fun j hj => absurd hj (by simp)⟩ ZZSUB (fun _ h => h) ?_
  rintro ⟨k, W⟩ ⟨hk, hGW, hSW, hno⟩
  simp only at hk hGW hSW hno
  have hrW : W.heap[gr]? = some (rulO g r) := hSW.keep hr hrm
  have hgW := hGW.game
  have hzW := hSW.size
  simp only [rulO, rulC, gamO, gamC]
  dsimp only [List.cons_append, List.nil_append]
  repeat (first | (refine M0 ?_; first | refine SL ?_ | refine SB fun _ _ => ?_) | (refine M1 ?_; refine SC ?_) | (refine M2 ?_; refine SE ?_))
  refine XC.cond _ rfl (fun h1 => ?_) (fun h1 => ?_)
  rotate_left
  · have hkm : k = t.m := by have := of_decide_eq_false h1; omega
    subst hkm
    repeat (first | (refine M0 ?_; first | refine SL ?_ | refine SB fun _ _ => ?_) | (refine M1 ?_; refine SC ?_) | (refine M2 ?_; refine SE ?_))
    refine XE.retg tok Tryz.results48 rfl (by simp only [and_self, and_true]) (fun w' S => ?_)
    have e1 := wit_no hno
    exact GamR.end2 (kk := [g4]) hGW hSW S (.tail _ (.tail _ (.head _))) ⟨by unfold CTk.witC; rw [e1]; rfl, rfl⟩ ZZHM (own2 hgW hrW ZZO3)
  have hkm : k < t.m := by have := of_decide_eq_true h1; omega
  repeat (first | (refine M0 ?_; first | refine SL ?_ | refine SB fun _ _ => ?_) | (refine M1 ?_; refine SC ?_) | (refine M2 ?_; refine SE ?_))
  have hBW : Below b0 w W := hSW.below hG.bm hb0
  refine XC.drawRS (trunc w b0) [(gr, rulO g r)] [0, 1, 2, 3, 4, 5, 6, 7, 8, 9] [10, 11, 12] mixed (fun _ h => Sys.anchorT hBW h (fun e he => by rw [List.mem_singleton.1 he]; exact .tail _ (.head _)) (by simp) hb0) rfl (by kernel_rfl) ?_
  repeat (first | (refine M0 ?_; first | refine SL ?_ | refine SB fun _ _ => ?_ | refine Y4 (Ev.load_loc tok 0 (g := gr) (o := 0) rfl rfl rfl rfl) ?_) | (refine M2 ?_; refine SE ?_) | (refine M3 ?_; first | refine SG ?_ | refine SF ?_ | refine YF (Ev.load_loc tok 0 (g := gr) (o := 0) rfl rfl rfl rfl) ?_) | (refine M4 ?_; refine SR ?_) | (refine M5 ?_; first | exact M7 | refine YM ?_ | refine YN ?_ ?_))
  repeat (first | (refine M0 ?_; first | refine SL ?_ | refine SB fun _ _ => ?_ | refine Y4 (Ev.call (f := 33) (ck rfl) rfl (fun w5 S5 => hpl w5 S5 (.tail _ (.tail _ (.head _))))) ?_) | (refine M2 ?_; refine SE ?_) | (refine M3 ?_; first | refine SG ?_ | refine SF ?_ | refine YF (Ev.call (f := 33) (ck rfl) rfl (fun w5 S5 => hpl w5 S5 (.tail _ (.tail _ (.head _))))) ?_) | (refine M4 ?_; refine SR ?_) | (refine M5 ?_; first | exact M7 | refine YM ?_ | refine YN ?_ ?_))
  refine z7 ?_
  repeat (first | (refine M0 ?_; first | refine SL ?_ | refine SB fun _ _ => ?_) | (refine M2 ?_; refine SE ?_) | (refine M3 ?_; first | refine SG ?_ | refine SF ?_) | (refine M4 ?_; refine SR ?_) | (refine M5 ?_; first | exact M7 | refine YM ?_ | refine YN ?_ ?_))
  refine XL.callI (IntR (idxB (t.above k (t.plan (i : Nat))) t.n)) (ck rfl) rfl rfl hGW hSW (.tail _ (.tail _ (.head _))) (fun w5 ks2 _ _ hG5 => hfl k hkm w5 ks2 hG5) (fun w5 x new hR hG5 hS5 => ?_) ZZHM (own2 hgW hrW ZZO3)
  obtain ⟨rfl, rfl⟩ := hR
  have hBW5 : Below b0 w w5 := hS5.below hG.bm hb0
  repeat (first | (refine M0 ?_; first | refine SL ?_ | refine SB fun _ _ => ?_) | (refine M2 ?_; refine SE ?_) | (refine M3 ?_; first | refine SG ?_ | refine SF ?_) | (refine M4 ?_; refine SR ?_) | (refine M5 ?_; first | exact M7 | refine YM ?_ | refine YN ?_ ?_))
  refine z7 ?_
  repeat (first | (refine M0 ?_; first | refine SL ?_ | refine SB fun _ _ => ?_) | (refine M2 ?_; refine SE ?_) | (refine M3 ?_; first | refine SG ?_ | refine SF ?_) | (refine M4 ?_; refine SR ?_) | (refine M5 ?_; first | exact M7 | refine YM ?_ | refine YN ?_ ?_))
  have eI : idxB (t.above k (t.plan (i : Nat))) t.n = match t.fails k (t.plan (i : Nat)) with | none => -1 | some a => (a : Int) := by
    unfold idxB CTk.fails
    cases firstB (t.above k (t.plan (i : Nat))) t.n <;> rfl
  rw [eI]
  have hz5 := hS5.size
  have hg5 := hG5.game
  have hr5 : w5.heap[gr]? = some (rulO g r) := hS5.keep hr hrm
  cases hf : t.fails k (t.plan (i : Nat)) with
  | none =>
    simp only
    repeat (first | (refine M0 ?_; first | refine SL ?_ | refine SB fun _ _ => ?_) | (refine M1 ?_; refine SC ?_) | (refine M2 ?_; refine SE ?_))
    refine XE.roundW (s := (k, W)) (fun w9 S9 => ⟨(k + 1, w9), ⟨hkm, ?_, ?_, fun j hj => ?_⟩, by simp only; omega, ZZSUB, S9.rebase ZZSM⟩)
    · exact (hG5.sys S9 (.tail _ (.tail _ (.head _))) (fun e he => .inl (List.mem_append_left _ (List.mem_map.2 ⟨e, he, rfl⟩)))).less (fun x hx => List.mem_append_right _ hx) mg
    · exact Since.end2 hG5 hS5 S9 (fun e he => .inl (List.mem_append_left _ (List.mem_map.2 ⟨e, he, rfl⟩))) (own2 hg5 hr5 ZZO3)
    · rcases Nat.lt_or_ge j k with h2 | h2
      · exact hno j h2
      · have : j = k := by omega
        subst this
        exact hf
  | some a =>
    simp only
    have hai : a < t.n := (firstB_some.1 hf).1
    have e1 := wit_first hkm hno hf
    repeat (first | (refine M0 ?_; first | refine SL ?_ | refine SB fun _ _ => ?_ | refine Y4 (Ev.load_loc tok 1 (g := gr) (o := 0) rfl rfl rfl rfl) ?_ | refine Y4 (Ev.load_loc tok 2 (g := g) (o := 11) rfl rfl rfl rfl) ?_) | (refine M1 ?_; refine SC ?_) | (refine M2 ?_; refine SE ?_))
    refine XE.retg tok Tryz.results48 rfl (by simp only [and_self, and_true]) (fun w' S => ?_)
    refine GamR.end2 (kk := g4 :: gr :: g :: [g4]) hG5 hS5 S (.tail _ (.tail _ (.head _))) ⟨by unfold CTk.witC; rw [e1]; rfl, rfl⟩ (fun e he => .inl ?_) (own2 hg5 hr5 ZZO3)
    simp only [List.mem_cons, List.not_mem_nil, or_false] at he
    rcases he with rfl | rfl | rfl <;> simp
  any_goals (repeat (first | exact AnyR.nil | refine AnyR.skip rfl ?_))
end Go.Proofs.YtmpaiphakjogjaaGreat.X
/-
  The walk of peak's closure: whether the gates are open (closure).
-/
namespace Go.Proofs.YtmpaiphakjogjaaGreat.X
open Go Go.RowKit Go.Proofs.YtmpaiphakjogjaaGreat.Bs
set_option linter.unusedVariables false
set_option maxHeartbeats 8000000 in
theorem open_any {t : CTk} {v : CTV} {r : CRu} {g gr gm g3 g5 g9 i : Nat} {p : CPl} {w : World} (ho : CtOk t) (hp : t.strange p = false) (hg : w.heap[g]? = some (gamO v t gm)) (hr : w.heap[gr]? = some (rulO g r))
    (h3 : w.heap[g3]? = some (cel 89 [.pointer (some ⟨gr, 0, none⟩)])) (h5 : w.heap[g5]? = some (cel 42 [.int .i64 p.close, .int .i64 p.open_])) (h9 : w.heap[g9]? = some (cel 3 [.int .i64 (t.shutI p)])) :
    Calls Tryz.prog 99 #[.int .i64 (i : Nat), .pointer (some ⟨g5, 0, none⟩), .pointer (some ⟨g9, 0, none⟩), .pointer (some ⟨g3, 0, none⟩)] w fun e w' => e = .returned (.bool (t.isOpen p i)) ∧ Below w.heap.size w w' := by
  obtain ⟨hb1, hb2, hb3⟩ := plan_bd ho hp
  have hn60 := ho.n60
  have hfr := ho.frm
  have l3 := (Array.getElem?_eq_some_iff.1 h3).1
  have l5 := (Array.getElem?_eq_some_iff.1 h5).1
  have l9 := (Array.getElem?_eq_some_iff.1 h9).1
  have lr := (Array.getElem?_eq_some_iff.1 hr).1
  have lg := (Array.getElem?_eq_some_iff.1 hg).1
  have c3 : w.cell? ⟨g3, 0, none⟩ = some (.pointer (some ⟨gr, 0, none⟩)) := by simp [World.cell?, h3]
  have c9 : w.cell? ⟨g9, 0, none⟩ = some (.int .i64 (t.shutI p)) := by simp [World.cell?, h9]
  have c5 : ∀ (j : Nat) u, ([.int .i64 p.close, .int .i64 p.open_] : List Value)[j]? = some u → w.cell? ((⟨g5, 0, none⟩ : Addr).add j) = some u := fun j u hj => by
    rw [add_off]; simpa [World.cell?, h5] using hj
  have c51 := c5 1 _ rfl
  have cr : w.cell? ((⟨gr, 0, none⟩ : Addr).add 0) = some (.pointer (some ⟨g, 0, none⟩)) := by rw [add_off]; simp [World.cell?, hr, rulC]
  have cf : w.cell? ((⟨g, 0, none⟩ : Addr).add 11) = some (.int .i64 t.from_) := by rw [add_off]; simp [World.cell?, hg, gamC]
  obtain ⟨c, o⟩ := p
  have hop : t.isOpen ⟨c, o⟩ i = (decide (c = -1) && decide (o = -1) || (decide ((i : Int) ≤ t.shutI ⟨c, o⟩) || decide (o - t.from_ ≤ (i : Int)))) := by
    unfold CTk.isOpen; rw [nev_b]
  simp only at hb1 hb2 c5 c51
  rw [hop]
  refine enter Tryz.func99 rfl Tryz.ntmps99 rfl ?_; simp only [frame, Nat.zero_add, Nat.reduceAdd]
  repeat (any_goals (first | (refine M0 ?_; first | refine SL ?_ | refine SB fun _ _ => ?_ | (refine XL.split _ _ rfl (fun h => ?_) (fun h => ?_) <;> rw [h]) | refine Y4 (Ev.load_old_agg tok [.int .i64 c, .int .i64 o] rfl rfl rfl l5 c5) ?_ | refine Y4 (Ev.call (f := 46) (ck rfl) rfl (fun w S => nev_any w)) ?_ | refine Y4 (Ev.plnEql rfl rfl) ?_ | refine Y4 (Ev.load_old tok rfl rfl l9 c9) ?_ | refine Y4 (Ev.load_old tok rfl rfl l5 c51) ?_ | refine Y4 (Ev.load_old tok rfl rfl l3 c3) ?_ | refine Y4 (Ev.load_old tok rfl rfl lr cr) ?_ | refine Y4 (Ev.load_old tok rfl rfl lg cf) ?_) | (refine M1 ?_; first | refine SC ?_ | refine SD ?_ | refine XC.cond _ rfl (fun h => ?_) (fun h => ?_)) | (refine M2 ?_; refine SE ?_) | (refine M3 ?_; first | refine SG ?_ | refine SF ?_ | (refine Fw.split _ _ rfl (fun h => ?_) (fun h => ?_) <;> rw [h]) | refine YF (Ev.load_old_agg tok [.int .i64 c, .int .i64 o] rfl rfl rfl l5 c5) ?_ | refine YF (Ev.call (f := 46) (ck rfl) rfl (fun w S => nev_any w)) ?_ | refine YF (Ev.plnEql rfl rfl) ?_ | refine YF (Ev.load_old tok rfl rfl l9 c9) ?_ | refine YF (Ev.load_old tok rfl rfl l5 c51) ?_ | refine YF (Ev.load_old tok rfl rfl l3 c3) ?_ | refine YF (Ev.load_old tok rfl rfl lr cr) ?_ | refine YF (Ev.load_old tok rfl rfl lg cf) ?_) | (refine M4 ?_; refine SR ?_) | (refine M5 ?_; first | exact M7 | refine YM ?_ | refine YN ?_ ?_)))
  all_goals
    refine XE.retg tok Tryz.results99 rfl (by simp only [and_self, and_true]) (fun w' S => ?_)
    exact ⟨rfl, S.toBelow⟩
end Go.Proofs.YtmpaiphakjogjaaGreat.X
/-
  The walk of peak (closure).
-/
namespace Go.Proofs.YtmpaiphakjogjaaGreat.X
open Go Go.RowKit Go.Proofs.YtmpaiphakjogjaaGreat.Bs
set_option linter.unusedVariables false
noncomputable def PekX (t : CTk) (k : Nat) (p : CPl) (x : Value) (new : List Held) : Prop := x = iiV (t.peak p k) ∧ new = []
set_option maxHeartbeats 16000000 in
theorem peak_any {t : CTk} {v : CTV} {r : CRu} {b0 g gr gm k : Nat} {p : CPl} {ks : List Nat} {w : World} (hG : Gam t v b0 g gm ks [] [] w) (ho : CtOk t) (hr : w.heap[gr]? = some (rulO g r)) (hgr : gr ∈ ks) (hbr : b0 ≤ gr) (hk : k < t.m) (hp : t.strange p = false) (hall : ∀ i, i < t.n → (t.ins k p i).isSome = true) :
    Calls Tryz.prog 83 #[.pointer (some ⟨gr, 0, none⟩), .int .i64 (k : Nat), plnV p] w (GamR t b0 gm ks (PekX t k p) w) := by
  have hgs := hG.gin
  have hgm : w.heap[g]? = some (gamO v t gm) := hG.game
  have hne : gr ≠ g := fun e => by
    subst e
    rw [hgm] at hr
    simp [rulO, gamO] at hr
  have S0 := Sys.start2 hbr hG.bg hr hgm hne
  have h60 := ho.n60
  have hdl := ho.dly
  have hfr := ho.frm
  have hm8 := ho.m8
  obtain ⟨hb1, hb2, hb3⟩ := plan_bd ho hp
  have hb0 : b0 ≤ w.heap.size := hG.fam.base
  have hrm : gr ≠ gm := fun e => hG.nin (e ▸ hgr)
  have lgr := hG.lt gr (.tail _ hgr)
  have lg := hG.lt g (.tail _ hgs)
  have hin := fun (i : Nat) (hi : i < t.n) (w5 : World) (ks2 : List Nat) (hG5 : Gam t v b0 g gm ks2 [] [] w5) => inside_any hG5 ho hk hi hp
  have hrun := fun (s : Nat) (hs : s < t.n) (w5 : World) (ks2 : List Nat) (hG5 : Gam t v b0 g gm ks2 [] [] w5) => crun_any hG5 ho hk hs
  have hop := fun (g3 g5 g9 i : Nat) (w5 : World) => open_any (v := v) (r := r) (g := g) (gr := gr) (gm := gm) (g3 := g3) (g5 := g5) (g9 := g9) (i := i) (w := w5) ho hp
  obtain ⟨sh, hsh⟩ : ∃ sh, sh = t.shutI p := ⟨_, rfl⟩
  have hsh2 : sh = p.close - t.from_ + t.delay := hsh
  rw [← hsh] at hb3 hop
  obtain ⟨c, o⟩ := p
  simp only at hb1 hb2 hsh2 hop
  simp only [rulO, rulC, gamO, gamC] at S0
  simp only [plnV] at hin ⊢
  refine enterL Tryz.func83 rfl Tryz.ntmps83 rfl (S0) ?_; simp only [frame, Nat.zero_add, Nat.reduceAdd]
  refine XC.hint 0 1 ?_
  repeat (first | (refine M0 ?_; first | refine SL ?_ | refine SB fun _ _ => ?_) | (refine M1 ?_; refine SC ?_) | (refine M2 ?_; refine SE ?_))
  rename_i g3 hg3 g5 hg5 g6 hg6 g8 hg8
  refine XC.drawR _ [0, 1, 2, 3, 4, 5, 6, 7, 8, 9, 10, 11, 12, 13, 14, 15, 16, 17, 18] [19, 20] mixed (fun _ h => h) rfl (by kernel_rfl) ?_
  repeat (any_goals (first | (refine M0 ?_; first | refine SL ?_ | refine SB fun _ _ => ?_ | refine Y4 (Ev.load_loc tok 4 (g := gr) (o := 0) rfl rfl rfl rfl) ?_ | refine Y4 (Ev.load_loc tok 5 (g := g) (o := 11) rfl rfl rfl rfl) ?_ | refine Y4 (Ev.load_loc tok 5 (g := g) (o := 6) rfl rfl rfl rfl) ?_ | refine Y4 (Ev.load_loc tok 5 (g := g) (o := 10) rfl rfl rfl rfl) ?_) | (refine M1 ?_; refine SC ?_) | (refine M2 ?_; refine SE ?_) | (refine M3 ?_; first | refine SG ?_ | refine SF ?_ | refine YF (Ev.load_loc tok 4 (g := gr) (o := 0) rfl rfl rfl rfl) ?_ | refine YF (Ev.load_loc tok 5 (g := g) (o := 11) rfl rfl rfl rfl) ?_ | refine YF (Ev.load_loc tok 5 (g := g) (o := 6) rfl rfl rfl rfl) ?_ | refine YF (Ev.load_loc tok 5 (g := g) (o := 10) rfl rfl rfl rfl) ?_) | (refine M4 ?_; refine SRJ ?_) | (refine M5 ?_; first | exact M7 | refine YM ?_ | refine YN ?_ ?_)))
  any_goals (repeat (first | exact AnyR.nil | refine AnyR.skip rfl ?_))
  rename_i g9 hg9
  rw [← hsh2]
  refine XL.step _ (Ev.makeFunc rfl rfl) rfl ?_
  repeat (first | (refine M0 ?_; first | refine SL ?_ | refine SB fun _ _ => ?_ | refine Y4 (Ev.load_loc tok 5 (g := gr) (o := 0) rfl rfl rfl rfl) ?_ | refine Y4 (Ev.load_loc tok 6 (g := g) (o := 12) rfl rfl rfl rfl) ?_) | (refine M1 ?_; refine SC ?_) | (refine M2 ?_; refine SE ?_))
  have mg : g ∈ g9 :: g8 :: g6 :: g5 :: g3 :: ks := by simp [hgs]
  have mr : gr ∈ g9 :: g8 :: g6 :: g5 :: g3 :: ks := by simp [hgr]
  have m3 : g3 ∈ g9 :: g8 :: g6 :: g5 :: g3 :: ks := by simp
  have m5 : g5 ∈ g9 :: g8 :: g6 :: g5 :: g3 :: ks := by simp
  have m6 : g6 ∈ g9 :: g8 :: g6 :: g5 :: g3 :: ks := by simp
  have m8 : g8 ∈ g9 :: g8 :: g6 :: g5 :: g3 :: ks := by simp
  have m9 : g9 ∈ g9 :: g8 :: g6 :: g5 :: g3 :: ks := by simp
  refine XC.rebase (List.Sublist.refl _) (fun W0 S0 => ?_)
  have hG0 : Gam t v b0 g gm (g9 :: g8 :: g6 :: g5 :: g3 :: ks) [] [] W0 := (hG.add S0 (.tail _ (.tail _ (.tail _ (.tail _ (.tail _ (.tail _ (.head _))))))) ZZHM).less (fun x hx => by
    simp only [List.mem_cons] at hx
    simp only [List.map_cons, List.map_nil, List.mem_append, List.mem_cons]
    rcases hx with h | h | h | h | h | h <;> simp [h]) mg
  have hnd : g5 ≠ g3 ∧ g9 ≠ g3 ∧ g8 ≠ g3 := by
    have := S0.nd
    simp only [List.map_cons, List.map_nil, List.nodup_cons, List.mem_cons, List.not_mem_nil, or_false] at this
    omega
  have hS0 : Since w gm W0 := Since.end2 hG Since.refl S0 ZZHM (own2 hgm hr ZZO3)
  refine XC.loopk [1, 3, 5, 6, 8, 9, 10, 43] rfl (fun z : Nat × World => [(7, .int .i64 (t.pkTo k ⟨c, o⟩ z.1 : Nat)), (44, .int .i64 (z.1 : Nat))])
    (fun z => [(g9, cel 3 [.int .i64 sh]), (g8, cel 114 [.int .i64 (t.tl k ⟨c, o⟩ z.1), .int .i64 (t.th k ⟨c, o⟩ z.1)]), (g6, cel 68 [.int .i64 0, .int .i64 0]), (g5, cel 42 [.int .i64 c, .int .i64 o]), (g3, cel 89 [.pointer (some ⟨gr, 0, none⟩)]), (gr, rulO g r), (g, gamO v t gm)])
    (fun z => z.2) (fun z => z.1 ≤ t.n ∧ Gam t v b0 g gm (g9 :: g8 :: g6 :: g5 :: g3 :: ks) [] [] z.2 ∧ Since w gm z.2) (fun z => t.n - z.1) (0, W0) ⟨Nat.zero_le _, hG0, hS0⟩ ZZSUB (fun _ h => h) ?_
  rintro ⟨i, W⟩ ⟨hi, hGW, hSW⟩
  simp only at hi hGW hSW
  have hrW : W.heap[gr]? = some (rulO g r) := hSW.keep hr hrm
  have hgW := hGW.game
  have hzW := hSW.size
  simp only [rulO, rulC, gamO, gamC]
  dsimp only [List.cons_append, List.nil_append]
  repeat (first | (refine M0 ?_; first | refine SL ?_ | refine SB fun _ _ => ?_) | (refine M1 ?_; refine SC ?_) | (refine M2 ?_; refine SE ?_))
  refine XC.cond _ rfl (fun h1 => ?_) (fun h1 => ?_)
  rotate_left
  · have him : i = t.n := by have := of_decide_eq_false h1; omega
    subst him
    have e1 : t.pkLv k ⟨c, o⟩ = t.th k ⟨c, o⟩ t.n := by
      obtain ⟨j, e⟩ : ∃ j, t.n = j + 1 := ⟨t.n - 1, by have := ho.n1; omega⟩
      unfold CTk.pkLv
      rw [e]; rfl
    have hpn := pkTo_lt t k ⟨c, o⟩ t.n (by have := ho.n1; omega)
    repeat (first | (refine M0 ?_; first | refine SL ?_ | refine SB fun _ _ => ?_) | (refine M1 ?_; refine SC ?_) | (refine M2 ?_; refine SE ?_))
    have hBW : Below b0 w W := hSW.below hG.bm hb0
    refine XC.drawRS (trunc w b0) [(g8, cel 114 [.int .i64 (t.tl k ⟨c, o⟩ t.n), .int .i64 (t.th k ⟨c, o⟩ t.n)]), (g3, cel 89 [.pointer (some ⟨gr, 0, none⟩)]), (gr, rulO g r), (g, gamO v t gm)] [0, 1, 2, 3, 4, 5, 6, 7, 8, 9, 10, 11] [12] mixed
      (fun _ h => Sys.anchorT hBW h (by intro e he; repeat (first | (cases he; done) | (rcases List.mem_cons.1 he with rfl | he; · repeat (first | exact List.mem_cons_self | apply List.mem_cons_of_mem)))) (by simp; omega) hb0) rfl (by kernel_rfl) ?_
    repeat (any_goals (first | (refine M0 ?_; first | refine SL ?_ | refine SB fun _ _ => ?_ | refine Y4 (Ev.load_loc tok 2 (g := gr) (o := 0) rfl rfl rfl rfl) ?_ | refine Y4 (Ev.load_loc tok 3 (g := g) (o := 11) rfl rfl rfl rfl) ?_ | refine Y4 (Ev.load_loc tok 0 (g := g8) (o := 1) rfl rfl rfl rfl) ?_) | (refine M1 ?_; refine SC ?_) | (refine M2 ?_; first | refine SE ?_ | ((with_reducible refine atHeld ?_); refine z7 ?_)) | (refine M3 ?_; first | refine SG ?_ | refine SF ?_ | refine YF (Ev.load_loc tok 2 (g := gr) (o := 0) rfl rfl rfl rfl) ?_ | refine YF (Ev.load_loc tok 3 (g := g) (o := 11) rfl rfl rfl rfl) ?_ | refine YF (Ev.load_loc tok 0 (g := g8) (o := 1) rfl rfl rfl rfl) ?_) | (refine M4 ?_; refine SRJ ?_) | (refine M5 ?_; first | exact M7 | refine YM ?_ | refine YN ?_ ?_)))
    any_goals (repeat (first | exact AnyR.nil | refine AnyR.skip rfl ?_))
    all_goals
      refine XE.retc (i := 2) tok Tryz.results83 rfl rfl rfl rfl (fun w' S => ?_)
      exact GamR.end2 (kk := [g9, g8, g6, g5, g3]) hGW hSW S (by repeat (first | exact List.mem_cons_self | apply List.mem_cons_of_mem)) ⟨by unfold CTk.peak CTk.pkAt; rw [e1]; rfl, rfl⟩ ZZMK (own2 hgW hrW ZZO3)
  have hit : i < t.n := by have := of_decide_eq_true h1; omega
  obtain ⟨y, hy⟩ := Option.isSome_iff_exists.1 (hall i hit)
  have hiy := fun (w5 : World) (ks2 : List Nat) (hG5 : Gam t v b0 g gm ks2 [] [] w5) => (hin i hit w5 ks2 hG5).mono (R' := GamR t b0 gm ks2 (fun x new => x = .tuple ⟨[.agg ⟨[.int .i64 (t.lo y), .int .i64 (t.hi y)]⟩, .bool true]⟩ ∧ new = []) w5) fun e w' ⟨x, new, e1, e2, e3⟩ => ⟨x, new, e1, ⟨by rw [e2.1, hy]; rfl, e2.2⟩, e3⟩
  have hBW : Below b0 w W := hSW.below hG.bm hb0
  repeat (first | (refine M0 ?_; first | refine SL ?_ | refine SB fun _ _ => ?_) | (refine M1 ?_; refine SC ?_) | (refine M2 ?_; refine SE ?_))
  refine XC.cutn [1, 3, 5, 6, 7, 8, 9, 10, 11, 43, 44] rfl (fun z : World × Nat => [(12, .pointer (some ⟨z.2, 0, none⟩))]) (fun z => [(z.2, cel 114 [.int .i64 (t.lo y), .int .i64 (t.hi y)]), (g9, cel 3 [.int .i64 sh]), (g8, cel 114 [.int .i64 (t.tl k ⟨c, o⟩ i), .int .i64 (t.th k ⟨c, o⟩ i)]), (g6, cel 68 [.int .i64 0, .int .i64 0]), (g5, cel 42 [.int .i64 c, .int .i64 o]), (g3, cel 89 [.pointer (some ⟨gr, 0, none⟩)]), (gr, rulO g r), (g, gamO v t gm)])
    (fun z => z.1) (fun z => Gam t v b0 g gm (z.2 :: g9 :: g8 :: g6 :: g5 :: g3 :: ks) [] [] z.1 ∧ Since w gm z.1 ∧ w.heap.size ≤ z.2) ?_ ?_
  · refine XC.drawRS (trunc w b0) [(g5, cel 42 [.int .i64 c, .int .i64 o]), (g3, cel 89 [.pointer (some ⟨gr, 0, none⟩)]), (gr, rulO g r), (g, gamO v t gm)] [0, 1, 2, 3, 4, 5, 6] [7, 8, 9, 10, 11, 12, 13] mixed
      (fun _ h => Sys.anchorT hBW h (by intro e he; repeat (first | (cases he; done) | (rcases List.mem_cons.1 he with rfl | he; · repeat (first | exact List.mem_cons_self | apply List.mem_cons_of_mem)))) (by simp; omega) hb0) rfl (by kernel_rfl) ?_
    repeat (any_goals (first | (refine M0 ?_; first | refine SL ?_ | refine SB fun _ _ => ?_ | refine Y4 (Ev.load_loc tok 2 (g := gr) (o := 0) rfl rfl rfl rfl) ?_ | (refine XL.at_call 60 ?_; refine XL.callI (fun x new => x = .tuple ⟨[.agg ⟨[.int .i64 (t.lo y), .int .i64 (t.hi y)]⟩, .bool true]⟩ ∧ new = []) (ck rfl) rfl rfl hGW hSW (by repeat (first | exact List.mem_cons_self | apply List.mem_cons_of_mem)) (fun w5 ks2 _ _ hG5 => hiy w5 ks2 hG5) (fun w5 x new hR hG5 hS5 => ?_) ZZMK (own2 hgW hrW ZZO3); obtain ⟨rfl, rfl⟩ := hR; have hBW5 : Below b0 w w5 := hS5.below hG.bm hb0; have hz5 := hS5.size)) | (refine M1 ?_; refine SC ?_) | (refine M2 ?_; first | refine SE ?_ | ((with_reducible refine atHeld ?_); refine z7 ?_)) | (refine M3 ?_; first | refine SG ?_ | refine SF ?_ | refine YF (Ev.load_loc tok 2 (g := gr) (o := 0) rfl rfl rfl rfl) ?_) | (refine M4 ?_; refine SRJ ?_) | (refine M5 ?_; first | exact M7 | refine YM ?_ | refine YN ?_ ?_)))
    all_goals
      refine XE.leafW (fun w9 S9 => ?_)
      apply Exists.intro (w9, _)
      refine ⟨?pre, ?sub, ?sys⟩
      case sub => repeat (first | exact Sub.nil | refine Sub.cons rfl ?_)
      case sys => exact S9.rebase (List.Sublist.refl _)
      case pre => exact ⟨hG5.on S9 (by repeat (first | exact List.mem_cons_self | apply List.mem_cons_of_mem)) ZZMK ZZSB (by simp [hgs]) (fun x hx => hx), Since.end2 hG5 hS5 S9 ZZMK (own2 hG5.game (hS5.keep hr hrm) ZZO3), by simp only; omega⟩
  rintro ⟨W2, g12⟩ ⟨hG2, hS2, hg12⟩
  simp only at hG2 hS2 hg12
  dsimp only [List.cons_append, List.nil_append]
  have hg2 := hG2.game
  have hr2 : W2.heap[gr]? = some (rulO g r) := hS2.keep hr hrm
  have hB2 : Below b0 w W2 := hS2.below hG.bm hb0
  have hz2 := hS2.size
  obtain ⟨m, hm⟩ : ∃ m, m = t.pkTo k ⟨c, o⟩ i := ⟨_, rfl⟩
  obtain ⟨tl, htl⟩ : ∃ x, x = t.tl k ⟨c, o⟩ i := ⟨_, rfl⟩
  obtain ⟨th, hth⟩ : ∃ x, x = t.th k ⟨c, o⟩ i := ⟨_, rfl⟩
  rw [← hm, ← htl, ← hth]
  have hmn : m < t.n := by
    rcases Nat.eq_zero_or_pos i with h | h
    · subst h; rw [hm]; exact hit
    · have := pkTo_lt t k ⟨c, o⟩ i h; omega
  obtain ⟨z, hz⟩ := Option.isSome_iff_exists.1 (hall m hmn)
  obtain ⟨G, hGd⟩ : ∃ G, G = (decide (th < t.hi y) || (decide (t.hi y = th) && decide (tl < t.lo y))) := ⟨_, rfl⟩
  have hpz : 0 < i → th = t.hi z ∧ tl = t.lo z := fun h0 => by
    obtain ⟨j, e⟩ : ∃ j, i = j + 1 := ⟨i - 1, by omega⟩
    have e1 : t.th k ⟨c, o⟩ i = t.hi (lvD (t.ins k ⟨c, o⟩ (t.pkTo k ⟨c, o⟩ i))) := by rw [e]; rfl
    have e2 : t.tl k ⟨c, o⟩ i = t.lo (lvD (t.ins k ⟨c, o⟩ (t.pkTo k ⟨c, o⟩ i))) := by rw [e]; rfl
    rw [hth, htl, e1, e2, ← hm, hz]
    exact ⟨rfl, rfl⟩
  have hgG : 0 < i → ¬(y.shut = true ∧ z.shut = true) → G = t.gt y (lvD (t.ins k ⟨c, o⟩ m)) := fun h0 hn => by
    obtain ⟨e1, e2⟩ := hpz h0
    rw [hz, show lvD (some z) = z from rfl, gt_span (lo_hi_in ho hk hp hit hy) (lo_hi_in ho hk hp hmn hz) hn, hGd, e1, e2]
  refine XC.hint 12 7 ?_
  refine XC.seq ?_
  refine XC.cutn [1, 3, 5, 6, 7, 8, 9, 10, 11, 12, 43, 44] rfl (fun _ : Unit => [(14, .bool G)]) (fun _ => [(g12, cel 114 [.int .i64 (t.lo y), .int .i64 (t.hi y)]), (g9, cel 3 [.int .i64 sh]), (g8, cel 114 [.int .i64 tl, .int .i64 th]), (g6, cel 68 [.int .i64 0, .int .i64 0]), (g5, cel 42 [.int .i64 c, .int .i64 o]), (g3, cel 89 [.pointer (some ⟨gr, 0, none⟩)]), (gr, rulO g r), (g, gamO v t gm)])
    (fun _ => W2) (fun _ => True) ?_ (fun _ _ => ?_)
  · repeat (any_goals (first | (refine M0 ?_; first | refine SL ?_ | refine SB fun _ _ => ?_ | (refine XL.split _ _ rfl (fun h => ?_) (fun h => ?_) <;> rw [h])) | (refine M1 ?_; first | refine SC ?_ | refine SD ?_ | refine XC.cond _ rfl (fun h => ?_) (fun h => ?_)) | (refine M2 ?_; refine SE ?_) | (refine M3 ?_; first | refine SG ?_ | refine SF ?_ | (refine Fw.split _ _ rfl (fun h => ?_) (fun h => ?_) <;> rw [h])) | (refine M4 ?_; refine SRJ ?_) | (refine M5 ?_; first | exact M7 | refine YM ?_ | refine YN ?_ ?_)))
    all_goals
      refine XE.leaf () (Sub.cons ?_ (by repeat (first | exact Sub.nil | refine Sub.cons rfl ?_))) (fun _ h => h) trivial
      show some _ = some (Value.bool G)
      rw [hGd]
      clear hm htl hth
      simp [*]
  dsimp only [List.cons_append, List.nil_append]
  refine XC.seq ?_
  refine XC.cutn [1, 3, 5, 6, 7, 8, 9, 10, 11, 12, 43, 44] rfl (fun z : World × Bool => [(14, .bool z.2)]) (fun _ => [(g12, cel 114 [.int .i64 (t.lo y), .int .i64 (t.hi y)]), (g9, cel 3 [.int .i64 sh]), (g8, cel 114 [.int .i64 tl, .int .i64 th]), (g6, cel 68 [.int .i64 0, .int .i64 0]), (g5, cel 42 [.int .i64 c, .int .i64 o]), (g3, cel 89 [.pointer (some ⟨gr, 0, none⟩)]), (gr, rulO g r), (g, gamO v t gm)])
    (fun z => z.1) (fun z => Gam t v b0 g gm (g12 :: g9 :: g8 :: g6 :: g5 :: g3 :: ks) [] [] z.1 ∧ Since w gm z.1 ∧ (0 < i → z.2 = t.gt y (lvD (t.ins k ⟨c, o⟩ m)))) ?_ ?_
  · refine SC ?_
    refine SC ?_
    repeat (first | (refine M0 ?_; first | refine SL ?_ | refine SB fun _ _ => ?_) | (refine M2 ?_; refine SE ?_) | (refine M3 ?_; first | refine SG ?_ | refine SF ?_) | (refine M4 ?_; refine SRJ ?_) | (refine M5 ?_; first | exact M7 | refine YM ?_ | refine YN ?_ ?_))
    (first | refine XL.split _ _ rfl (fun h => ?_) (fun h => ?_) | refine Fw.split _ _ rfl (fun h => ?_) (fun h => ?_)) <;> rw [h]
    rotate_left
    · repeat (first | (refine M0 ?_; first | refine SL ?_ | refine SB fun _ _ => ?_) | (refine M1 ?_; refine SC ?_) | (refine M2 ?_; refine SE ?_))
      exact XE.leaf (W2, G) ZZSUB (fun _ h => h) ⟨hG2, hS2, fun h2 => absurd h2 (by have := of_decide_eq_false h; omega)⟩
    have h0i : 0 < i := by have := of_decide_eq_true h; omega
    repeat (first | (refine M0 ?_; first | refine SL ?_ | refine SB fun _ _ => ?_) | (refine M2 ?_; refine SE ?_) | (refine M3 ?_; first | refine SG ?_ | refine SF ?_) | (refine M4 ?_; refine SRJ ?_) | (refine M5 ?_; first | exact M7 | refine YM ?_ | refine YN ?_ ?_))
    refine XL.step _ (Ev.callv (f := 99) (fst := []) (cap := [.pointer (some ⟨g5, 0, none⟩), .pointer (some ⟨g9, 0, none⟩), .pointer (some ⟨g3, 0, none⟩)]) (vs := [.int .i64 (i : Nat)]) (ck rfl) rfl rfl (fun w5 S5 => hop g3 g5 g9 i w5 (S5.own (g, gamO v t gm) (by repeat (first | exact List.mem_cons_self | apply List.mem_cons_of_mem))).2 (S5.own (gr, rulO g r) (by repeat (first | exact List.mem_cons_self | apply List.mem_cons_of_mem))).2 (S5.own (g3, _) (by repeat (first | exact List.mem_cons_self | apply List.mem_cons_of_mem))).2 (S5.own (g5, _) (by repeat (first | exact List.mem_cons_self | apply List.mem_cons_of_mem))).2 (S5.own (g9, _) (by repeat (first | exact List.mem_cons_self | apply List.mem_cons_of_mem))).2)) rfl ?_
    repeat (first | (refine M0 ?_; first | refine SL ?_ | refine SB fun _ _ => ?_) | (refine M2 ?_; refine SE ?_) | (refine M3 ?_; first | refine SG ?_ | refine SF ?_) | (refine M4 ?_; refine SRJ ?_) | (refine M5 ?_; first | exact M7 | refine YM ?_ | refine YN ?_ ?_))
    cases hoi : t.isOpen ⟨c, o⟩ i with
    | true =>
      repeat (first | (refine M0 ?_; first | refine SL ?_ | refine SB fun _ _ => ?_) | (refine M1 ?_; refine SC ?_) | (refine M2 ?_; refine SE ?_))
      exact XE.leaf (W2, G) ZZSUB (fun _ h => h) ⟨hG2, hS2, fun h0 => hgG h0 (fun h2 => by rw [ins_shut hy, hoi] at h2; exact absurd h2.1 (by simp))⟩
    | false =>
      repeat (first | (refine M0 ?_; first | refine SL ?_ | refine SB fun _ _ => ?_) | (refine M2 ?_; refine SE ?_) | (refine M3 ?_; first | refine SG ?_ | refine SF ?_) | (refine M4 ?_; refine SRJ ?_) | (refine M5 ?_; first | exact M7 | refine YM ?_ | refine YN ?_ ?_))
      refine XL.step _ (Ev.callv (f := 99) (fst := []) (cap := [.pointer (some ⟨g5, 0, none⟩), .pointer (some ⟨g9, 0, none⟩), .pointer (some ⟨g3, 0, none⟩)]) (vs := [.int .i64 (m : Nat)]) (ck rfl) rfl rfl (fun w5 S5 => hop g3 g5 g9 m w5 (S5.own (g, gamO v t gm) (by repeat (first | exact List.mem_cons_self | apply List.mem_cons_of_mem))).2 (S5.own (gr, rulO g r) (by repeat (first | exact List.mem_cons_self | apply List.mem_cons_of_mem))).2 (S5.own (g3, _) (by repeat (first | exact List.mem_cons_self | apply List.mem_cons_of_mem))).2 (S5.own (g5, _) (by repeat (first | exact List.mem_cons_self | apply List.mem_cons_of_mem))).2 (S5.own (g9, _) (by repeat (first | exact List.mem_cons_self | apply List.mem_cons_of_mem))).2)) rfl ?_
      repeat (first | (refine M0 ?_; first | refine SL ?_ | refine SB fun _ _ => ?_) | (refine M2 ?_; refine SE ?_) | (refine M3 ?_; first | refine SG ?_ | refine SF ?_) | (refine M4 ?_; refine SRJ ?_) | (refine M5 ?_; first | exact M7 | refine YM ?_ | refine YN ?_ ?_))
      cases hom : t.isOpen ⟨c, o⟩ m with
      | true =>
        repeat (first | (refine M0 ?_; first | refine SL ?_ | refine SB fun _ _ => ?_) | (refine M1 ?_; refine SC ?_) | (refine M2 ?_; refine SE ?_))
        exact XE.leaf (W2, G) ZZSUB (fun _ h => h) ⟨hG2, hS2, fun h0 => hgG h0 (fun h2 => by rw [ins_shut hz, hom] at h2; exact absurd h2.2 (by simp))⟩
      | false =>
        repeat (first | (refine M0 ?_; first | refine SL ?_ | refine SB fun _ _ => ?_) | (refine M1 ?_; refine SC ?_) | (refine M2 ?_; refine SE ?_))
        obtain ⟨s, hs, hsi⟩ := open_f ho hp hoi
        obtain ⟨s', hs', hsm⟩ := open_f ho hp hom
        have e0 : s' = s := by omega
        subst e0
        have hsN : sh = (s' : Int) := hsh.trans hs
        subst hsN
        obtain ⟨v1, v2, _⟩ := ins_vol ho hp hit hy hoi hs
        obtain ⟨v3, v4, _⟩ := ins_vol ho hp hmn hz hom hs
        refine XC.drawRS (trunc w b0) [(g9, cel 3 [.int .i64 (s' : Nat)]), (g3, cel 89 [.pointer (some ⟨gr, 0, none⟩)]), (gr, rulO g r), (g, gamO v t gm)] [0, 1, 2, 3, 4, 5, 6] [7, 8] mixed
          (fun _ h => Sys.anchorT hB2 h (by intro e he; repeat (first | (cases he; done) | (rcases List.mem_cons.1 he with rfl | he; · repeat (first | exact List.mem_cons_self | apply List.mem_cons_of_mem)))) (by simp; omega) hb0) rfl (by kernel_rfl) ?_
        repeat (any_goals (first | (refine M0 ?_; first | refine SL ?_ | refine SB fun _ _ => ?_ | refine Y4 (Ev.load_loc tok 2 (g := gr) (o := 0) rfl rfl rfl rfl) ?_ | (refine XL.at_call 87 ?_; refine XL.callI (RunR5 t k s') (ck rfl) rfl rfl hG2 hS2 (by repeat (first | exact List.mem_cons_self | apply List.mem_cons_of_mem)) (fun w5 ks2 _ _ hG5 => hrun s' (by omega) w5 ks2 hG5) (fun w5 x new hR hG5 hS5 => ?_) ZZMK (own2 hg2 hr2 ZZO3); obtain ⟨q, rfl, rfl⟩ := hR; have hBW5 : Below b0 w w5 := hS5.below hG.bm hb0; have hz5 := hS5.size)) | (refine M1 ?_; refine SC ?_) | (refine M2 ?_; first | refine SE ?_ | ((with_reducible refine atHeld ?_); refine z7 ?_)) | (refine M3 ?_; first | refine SG ?_ | refine SF ?_ | refine YF (Ev.load_loc tok 2 (g := gr) (o := 0) rfl rfl rfl rfl) ?_) | (refine M4 ?_; refine SRJ ?_) | (refine M5 ?_; first | exact M7 | refine YM ?_ | refine YN ?_ ?_)))
        any_goals (repeat (first | exact AnyR.nil | refine AnyR.skip rfl ?_))
        all_goals
          have hv : IntsAt w5 (Free w5 b0 _ []) q (t.vols k s' (t.n - s')) := hG5.fam.held (hInts q (t.vols k s' (t.n - s'))) (.head _)
          have hvl := hv.len
          obtain ⟨qA, qn, qc⟩ := q
          simp only at hvl
          subst hvl
          have l1 := (List.getElem?_eq_some_iff.1 v2).1
          have l2 := (List.getElem?_eq_some_iff.1 v4).1
          obtain ⟨ad, rfl, hfr, hcl⟩ := hv.at_ (by omega)
          have c1 := hcl (i - s') l1
          have c2 := hcl (m - s') l2
          have a1 : at0 (t.vols k s' (t.n - s')) (i - s') = y.n := by unfold at0; rw [v2]; rfl
          have a2 : at0 (t.vols k s' (t.n - s')) (m - s') = z.n := by unfold at0; rw [v4]; rfl
          rw [a1, show i - s' = ((i : Int) - (s' : Int)).toNat from by omega] at c1
          rw [a2, show m - s' = ((m : Int) - (s' : Int)).toNat from by omega] at c2
          have hlen := @vols_le t k s' (t.n - s')
          have hfar : ∀ j, ∀ e, e ∈ [(g12, cel 114 [.int .i64 (t.lo y), .int .i64 (t.hi y)]), (g9, cel 3 [.int .i64 (s' : Nat)]), (g8, cel 114 [.int .i64 tl, .int .i64 th]), (g6, cel 68 [.int .i64 0, .int .i64 0]), (g5, cel 42 [.int .i64 c, .int .i64 o]), (g3, cel 89 [.pointer (some ⟨gr, 0, none⟩)]), (gr, rulO g r), (g, gamO v t gm)] → e.1 ≠ (ad.add j).block := fun j => hfr.far (fun e he => .inl (.tail _ (List.mem_append_left _ (List.mem_map.2 ⟨e, he, rfl⟩))))
          have hlt5 : ∀ j, (ad.add j).block < w5.heap.size := fun j => by rw [add_block]; exact hfr.2.1
          simp only [svV]
          repeat (first | (refine M0 ?_; first | refine SL ?_ | refine SB fun _ _ => ?_ | refine Y4 (Ev.load_far tok rfl rfl (hlt5 _) (hfar _) c1) ?_ | refine Y4 (Ev.load_far tok rfl rfl (hlt5 _) (hfar _) c2) ?_) | (refine M1 ?_; first | refine SC ?_ | refine SD ?_) | (refine M2 ?_; refine SE ?_) | (refine M3 ?_; first | refine SG ?_ | refine SF ?_ | refine YF (Ev.load_far tok rfl rfl (hlt5 _) (hfar _) c1) ?_ | refine YF (Ev.load_far tok rfl rfl (hlt5 _) (hfar _) c2) ?_) | (refine M4 ?_; refine SRJ ?_) | (refine M5 ?_; first | exact M7 | refine YM ?_ | refine YN ?_ ?_))
          refine XE.leafW (fun w9 S9 => ⟨(w9, decide (z.n < y.n)), ⟨hG5.on S9 (by repeat (first | exact List.mem_cons_self | apply List.mem_cons_of_mem)) ZZMK ZZSB (by simp [hgs]) (fun x hx => by cases hx), Since.end2 hG5 hS5 S9 ZZMK (own2 hG5.game (hS5.keep hr hrm) ZZO3), fun _ => ?_⟩, ZZSUB, S9.rebase (List.Sublist.refl _)⟩)
          rw [hz]
          unfold CTk.gt
          rw [show (lvD (some z)) = z from rfl, v1, v3, if_pos rfl]
  rintro ⟨W3, b⟩ ⟨hG3, hS3, hb⟩
  simp only at hG3 hS3 hb
  have hz3 := hS3.size
  rw [hm] at hb
  have hpk := pk_step (b := b) hy hb
  have hg3 := hG3.game
  have hr3 : W3.heap[gr]? = some (rulO g r) := hS3.keep hr hrm
  clear hgG hpz hG2 hS2 hz2 hBW hGW hSW hg2 hr2
  dsimp only [List.cons_append, List.nil_append]
  repeat (first | (refine M0 ?_; first | refine SL ?_ | refine SB fun _ _ => ?_) | (refine M1 ?_; refine SC ?_) | (refine M2 ?_; refine SE ?_))
  by_cases h0 : i = 0
  · rw [show decide ((i : Int) = 0) = true from decide_eq_true (by omega)]
    repeat (first | (refine M0 ?_; first | refine SL ?_ | refine SB fun _ _ => ?_) | (refine M1 ?_; refine SC ?_) | (refine M2 ?_; refine SE ?_))
    obtain ⟨p1, p2, p3⟩ := hpk.1 (by rw [decide_eq_true h0]; rfl)
    refine XC.drawRS (trunc w b0) [(g12, cel 114 [.int .i64 (t.lo y), .int .i64 (t.hi y)])] [0, 1] [2, 3] mixed (fun _ h => Sys.anchorT (hS3.below hG.bm hb0) h (fun e he => by rw [List.mem_singleton.1 he]; exact .head _) (by simp) hb0) rfl (by kernel_rfl) ?_
    have hB3 : Below b0 w W3 := hS3.below hG.bm hb0
    repeat (any_goals (first | (refine M0 ?_; first | refine SL ?_ | refine SB fun _ _ => ?_ | refine Y4 (Ev.load_loc_agg tok 0 (g := g12) (o := 0) rfl rfl rfl rfl) ?_) | (refine M1 ?_; refine SC ?_) | (refine M2 ?_; first | refine SE ?_ | ((with_reducible refine atHeld ?_); refine z7 ?_)) | (refine M3 ?_; first | refine SG ?_ | refine SF ?_ | refine YF (Ev.load_loc_agg tok 0 (g := g12) (o := 0) rfl rfl rfl rfl) ?_) | (refine M4 ?_; refine SRJ ?_) | (refine M5 ?_; first | exact M7 | refine YM ?_ | refine YN ?_ ?_)))
    any_goals (repeat (first | exact AnyR.nil | refine AnyR.skip rfl ?_))
    refine XE.roundW (s := (i, W)) (fun w9 S9 => ⟨(i + 1, w9), ⟨hit, ?_, ?_⟩, by simp only; omega, Sub.cons (by simp only [p1]; rfl) ZZSUB, by simp only [p2, p3]; exact S9.rebase ZZSM⟩)
    · exact hG3.on S9 (by repeat (first | exact List.mem_cons_self | apply List.mem_cons_of_mem)) ZZMK ZZSB (by simp [hgs]) (fun x hx => hx)
    · exact Since.end2 hG3 hS3 S9 ZZMK (own2 hg3 hr3 ZZO3)
  rw [show decide ((i : Int) = 0) = false from decide_eq_false (by omega)]
  repeat (first | (refine M0 ?_; first | refine SL ?_ | refine SB fun _ _ => ?_) | (refine M1 ?_; refine SC ?_) | (refine M2 ?_; refine SE ?_))
  refine XC.cond _ rfl (fun hbb => ?_) (fun hbb => ?_)
  · obtain ⟨p1, p2, p3⟩ := hpk.1 (by rw [hbb, Bool.or_true])
    repeat (first | (refine M0 ?_; first | refine SL ?_ | refine SB fun _ _ => ?_) | (refine M1 ?_; refine SC ?_) | (refine M2 ?_; refine SE ?_))
    refine XC.drawRS (trunc w b0) [(g12, cel 114 [.int .i64 (t.lo y), .int .i64 (t.hi y)])] [0, 1] [2, 3] mixed (fun _ h => Sys.anchorT (hS3.below hG.bm hb0) h (fun e he => by rw [List.mem_singleton.1 he]; exact .head _) (by simp) hb0) rfl (by kernel_rfl) ?_
    have hB3 : Below b0 w W3 := hS3.below hG.bm hb0
    repeat (any_goals (first | (refine M0 ?_; first | refine SL ?_ | refine SB fun _ _ => ?_ | refine Y4 (Ev.load_loc_agg tok 0 (g := g12) (o := 0) rfl rfl rfl rfl) ?_) | (refine M1 ?_; refine SC ?_) | (refine M2 ?_; first | refine SE ?_ | ((with_reducible refine atHeld ?_); refine z7 ?_)) | (refine M3 ?_; first | refine SG ?_ | refine SF ?_ | refine YF (Ev.load_loc_agg tok 0 (g := g12) (o := 0) rfl rfl rfl rfl) ?_) | (refine M4 ?_; refine SRJ ?_) | (refine M5 ?_; first | exact M7 | refine YM ?_ | refine YN ?_ ?_)))
    any_goals (repeat (first | exact AnyR.nil | refine AnyR.skip rfl ?_))
    refine XE.roundW (s := (i, W)) (fun w9 S9 => ⟨(i + 1, w9), ⟨hit, ?_, ?_⟩, by simp only; omega, Sub.cons (by simp only [p1]; rfl) ZZSUB, by simp only [p2, p3]; exact S9.rebase ZZSM⟩)
    · exact hG3.on S9 (by repeat (first | exact List.mem_cons_self | apply List.mem_cons_of_mem)) ZZMK ZZSB (by simp [hgs]) (fun x hx => hx)
    · exact Since.end2 hG3 hS3 S9 ZZMK (own2 hg3 hr3 ZZO3)
  · obtain ⟨p1, p2, p3⟩ := hpk.2 (by rw [hbb, decide_eq_false h0]; rfl)
    repeat (first | (refine M0 ?_; first | refine SL ?_ | refine SB fun _ _ => ?_) | (refine M1 ?_; refine SC ?_) | (refine M2 ?_; refine SE ?_))
    refine XE.roundW (s := (i, W)) (fun w9 S9 => ⟨(i + 1, w9), ⟨hit, ?_, ?_⟩, by simp only; omega, Sub.cons (by simp only [p1, ← hm]; rfl) ZZSUB, by simp only [p2, p3, ← htl, ← hth]; exact S9.rebase ZZSM⟩)
    · exact hG3.on S9 (by repeat (first | exact List.mem_cons_self | apply List.mem_cons_of_mem)) ZZMK ZZSB (by simp [hgs]) (fun x hx => hx)
    · exact Since.end2 hG3 hS3 S9 ZZMK (own2 hg3 hr3 ZZO3)
end Go.Proofs.YtmpaiphakjogjaaGreat.X
/-
  The walk of peaks (closure).
-/
namespace Go.Proofs.YtmpaiphakjogjaaGreat.Bs
open Go Go.Proofs.YtmpaiphakjogjaaGreat.X
theorem peaks_succ (t : CTk) (p : CPl) (k : Nat) : (List.range (k + 1)).map (t.peak p) = (List.range k).map (t.peak p) ++ [t.peak p k] := by rw [List.range_succ, List.map_append]; rfl
end Go.Proofs.YtmpaiphakjogjaaGreat.Bs
namespace Go.Proofs.YtmpaiphakjogjaaGreat.X
open Go Go.RowKit Go.Proofs.YtmpaiphakjogjaaGreat.Bs
set_option linter.unusedVariables false
def pekK5 : Kind II := ⟨68, 2, fun x => [.int .i64 x.1, .int .i64 x.2], fun _ => [], fun _ => rfl⟩
theorem pek5_el : elemOk Tryz.prog 43 pekK5.ty pekK5.m 16 = true := by kernel_rfl
def PksX (t : CTk) (p : CPl) (x : Value) (new : List Held) : Prop := ∃ q : SV, x = svV q ∧ new = [hList pekK5 q (t.peaks p)]
set_option maxHeartbeats 16000000 in
theorem peaks_any {t : CTk} {v : CTV} {r : CRu} {b0 g gr gm : Nat} {p : CPl} {ks : List Nat} {w : World} (hG : Gam t v b0 g gm ks [] [] w) (ho : CtOk t) (hr : w.heap[gr]? = some (rulO g r)) (hgr : gr ∈ ks) (hbr : b0 ≤ gr) (hp : t.strange p = false) (hall : ∀ k i, k < t.m → i < t.n → (t.ins k p i).isSome = true) :
    Calls Tryz.prog 47 #[.pointer (some ⟨gr, 0, none⟩), plnV p] w (GamR t b0 gm ks (PksX t p) w) := by
  have hgs := hG.gin
  have hgm : w.heap[g]? = some (gamO v t gm) := hG.game
  have hne : gr ≠ g := fun e => by
    subst e
    rw [hgm] at hr
    simp [rulO, gamO] at hr
  have S0 := Sys.start2 hbr hG.bg hr hgm hne
  have hm8 := ho.m8
  have hb0 : b0 ≤ w.heap.size := hG.fam.base
  have hrm : gr ≠ gm := fun e => hG.nin (e ▸ hgr)
  have lgr := hG.lt gr (.tail _ hgr)
  have lg := hG.lt g (.tail _ hgs)
  have hhn := hG.task.hn
  have hpk := fun (k : Nat) (hk : k < t.m) (w5 : World) (ks2 : List Nat) (hG5 : Gam t v b0 g gm ks2 [] [] w5) (hr5 : w5.heap[gr]? = some (rulO g r)) (h5 : gr ∈ ks2) => peak_any hG5 ho hr5 h5 hbr hk hp (hall k · hk)
  obtain ⟨vp, vf, ⟨Ah, nh, ch'⟩, vr⟩ := v
  simp only at hhn
  subst hhn
  simp only [rulO, rulC, gamO, gamC] at S0
  simp only [plnV] at hpk ⊢
  refine enterL Tryz.func47 rfl Tryz.ntmps47 rfl (S0) ?_; simp only [frame, Nat.zero_add, Nat.reduceAdd]
  repeat (first | (refine M0 ?_; first | refine SL ?_ | refine SB fun _ _ => ?_ | refine Y4 (Ev.load_loc tok 1 (g := gr) (o := 0) rfl rfl rfl rfl) ?_ | refine Y4 (Ev.load_loc tok 2 (g := g) (o := 6) rfl rfl rfl rfl) ?_) | (refine M1 ?_; refine SC ?_) | (refine M2 ?_; refine SE ?_))
  rename_i g3 hg3
  have mg : g ∈ g3 :: ks := by simp [hgs]
  have mr : gr ∈ g3 :: ks := by simp [hgr]
  refine XC.rebase (List.Sublist.refl _) (fun W0 S0 => ?_)
  have hG0 : Gam t ⟨vp, vf, ⟨Ah, t.m, ch'⟩, vr⟩ b0 g gm (g3 :: ks) [⟨II, pekK5, .slice none 0 0, []⟩] [] W0 := (hG.on S0 (by repeat (first | exact List.mem_cons_self | apply List.mem_cons_of_mem)) ZZMK ZZSB mg (fun x hx => hx)).nil pekK5
  have hS0 : Since w gm W0 := Since.end2 hG Since.refl S0 ZZMK (own2 hgm hr ZZO3)
  refine XC.loopk [0, 3, 14] rfl (fun z : Nat × World × SV => [(4, svV z.2.2), (15, .int .i64 (z.1 : Nat))])
    (fun z => [(g3, cel 42 [.int .i64 p.close, .int .i64 p.open_]), (gr, rulO g r), (g, gamO ⟨vp, vf, ⟨Ah, t.m, ch'⟩, vr⟩ t gm)])
    (fun z => z.2.1) (fun z => z.1 ≤ t.m ∧ Gam t ⟨vp, vf, ⟨Ah, t.m, ch'⟩, vr⟩ b0 g gm (g3 :: ks) [⟨II, pekK5, svV z.2.2, (List.range z.1).map (t.peak p)⟩] [] z.2.1 ∧ Since w gm z.2.1 ∧ ∀ q, (svV z.2.2).ownBlock = some q → w.heap.size ≤ q) (fun z => t.m - z.1) (0, W0, ⟨none, 0, 0⟩) ⟨Nat.zero_le _, hG0, hS0, fun q h => by cases h⟩ ZZSUB (fun _ h => h) ?_
  rintro ⟨k, W, rq⟩ ⟨hk, hGW, hSW, hown⟩
  simp only at hk hGW hSW hown
  have hrW : W.heap[gr]? = some (rulO g r) := hSW.keep hr hrm
  have hgW := hGW.game
  have hzW := hSW.size
  simp only [rulO, rulC, gamO, gamC, svV]
  dsimp only [List.cons_append, List.nil_append]
  repeat (first | (refine M0 ?_; first | refine SL ?_ | refine SB fun _ _ => ?_) | (refine M1 ?_; refine SC ?_) | (refine M2 ?_; refine SE ?_))
  refine XC.cond _ rfl (fun h1 => ?_) (fun h1 => ?_)
  rotate_left
  · have hkm : k = t.m := by have := of_decide_eq_false h1; omega
    subst hkm
    repeat (first | (refine M0 ?_; first | refine SL ?_ | refine SB fun _ _ => ?_) | (refine M1 ?_; refine SC ?_) | (refine M2 ?_; refine SE ?_))
    refine XE.retg tok Tryz.results47 rfl (by simp only [and_self, and_true]) (fun w' S => ?_)
    exact GamR.end4 hGW.freeze hSW S (by repeat (first | exact List.mem_cons_self | apply List.mem_cons_of_mem)) ⟨rq, rfl, rfl⟩ (fun y hy => hy) ZZMK (own2 hgW hrW ZZO3) (fun x hx => .tail _ hx)
  have hkm : k < t.m := by have := of_decide_eq_true h1; omega
  repeat (first | (refine M0 ?_; first | refine SL ?_ | refine SB fun _ _ => ?_) | (refine M1 ?_; refine SC ?_) | (refine M2 ?_; refine SE ?_))
  refine XL.callI (PekX t k p) (ck rfl) rfl rfl hGW hSW (by repeat (first | exact List.mem_cons_self | apply List.mem_cons_of_mem)) (fun w5 ks2 S5 hL5 hG5 => hpk k hkm w5 ks2 hG5 (S5.own (gr, rulO g r) (by repeat (first | exact List.mem_cons_self | apply List.mem_cons_of_mem))).2 (hL5 (gr, rulO g r) (by repeat (first | exact List.mem_cons_self | apply List.mem_cons_of_mem)))) (fun w5 x new hR hG5 hS5 => ?_) ZZMK (own2 hgW hrW ZZO3)
  obtain ⟨rfl, rfl⟩ := hR
  have hz5 := hS5.size
  have hr5 : w5.heap[gr]? = some (rulO g r) := hS5.keep hr hrm
  have hg5 := hG5.game
  simp only [iiV]
  repeat (first | (refine M0 ?_; first | refine SL ?_ | refine SB fun _ _ => ?_ | refine XL.buildSlice tok rfl rfl rfl rfl rfl rfl rfl rfl rfl (fun _ _ => ?_)) | (refine M1 ?_; refine SC ?_) | (refine M2 ?_; refine SE ?_))
  rename_i g9 hg9
  refine XL.pushI (K := pekK5) (a := t.peak p k) 0 pek5_el (by decide) rfl rfl rfl hG5 (by repeat (first | exact List.mem_cons_self | apply List.mem_cons_of_mem)) rfl hS5 hown (.head _) rfl (fun _ => rfl) (by simp; omega) (by decide) (fun w6 r6 hG6 hS6 hown6 => ?_) ZZMK (own2 hg5 hr5 ZZO3)
  have hz6 := hS6.size
  have hg6 := hG6.game
  have hr6 : w6.heap[gr]? = some (rulO g r) := hS6.keep hr hrm
  simp only [svV]
  repeat (first | (refine M0 ?_; first | refine SL ?_ | refine SB fun _ _ => ?_) | (refine M1 ?_; refine SC ?_) | (refine M2 ?_; refine SE ?_))
  refine XE.roundW (s := (k, W, rq)) (fun w9 S9 => ⟨(k + 1, w9, r6), ⟨hkm, ?_, ?_, hown6⟩, by simp only; omega, ZZSUB, S9.rebase ZZSM⟩)
  · rw [peaks_succ]
    exact hG6.on S9 (by repeat (first | exact List.mem_cons_self | apply List.mem_cons_of_mem)) ZZMK ZZSB mg (fun x hx => by cases hx)
  · exact Since.end2 hG6 hS6 S9 ZZMK (own2 hg6 hr6 ZZO3)
end Go.Proofs.YtmpaiphakjogjaaGreat.X
/-
  The walk of slices.Reverse: a row is turned round in place (closure).
-/
namespace Go.Proofs.YtmpaiphakjogjaaGreat.Bs
open Go Go.Proofs.YtmpaiphakjogjaaGreat.X
set_option linter.unusedVariables false
def rvI (n k x : Nat) : Nat := if x < k ∨ n - k ≤ x then n - 1 - x else x
def rv (l : List II) (k : Nat) : List II := (List.range l.length).map fun x => l[rvI l.length k x]?.getD (0, 0)
theorem rv_len (l : List II) (k : Nat) : (rv l k).length = l.length := by simp [rv]
theorem rv_at {l : List II} {k x : Nat} (hx : x < l.length) : (rv l k)[x]? = some (l[rvI l.length k x]?.getD (0, 0)) := by
  unfold rv
  rw [List.getElem?_map, List.getElem?_range hx]; rfl
theorem rv_none {l : List II} {k x : Nat} (hx : l.length ≤ x) : (rv l k)[x]? = none := List.getElem?_eq_none (by rw [rv_len]; exact hx)
theorem rv_0 (l : List II) : rv l 0 = l := by
  refine List.ext_getElem? fun x => ?_
  by_cases hx : x < l.length
  · rw [rv_at hx, show rvI l.length 0 x = x from if_neg (by omega), List.getElem?_eq_getElem hx]; rfl
  · rw [rv_none (by omega), List.getElem?_eq_none (by omega)]
theorem rv_all {l : List II} {k : Nat} (h : ¬ k < l.length - 1 - k) : rv l k = l.reverse := by
  refine List.ext_getElem? fun x => ?_
  by_cases hx : x < l.length
  · rw [rv_at hx, List.getElem?_reverse hx]
    have e : rvI l.length k x = l.length - 1 - x := by
      unfold rvI
      split
      · rfl
      · omega
    rw [e, List.getElem?_eq_getElem (by omega)]; rfl
  · rw [rv_none (by omega), List.getElem?_eq_none (by simp; omega)]
theorem rv_step {l : List II} {k : Nat} {a b : II} (h : k < l.length - 1 - k) (ha : (rv l k)[k]? = some a) (hb : (rv l k)[l.length - 1 - k]? = some b) : ((rv l k).set k b).set (l.length - 1 - k) a = rv l (k + 1) := by
  have h1 : rvI l.length k k = k := if_neg (by omega)
  have h2 : rvI l.length k (l.length - 1 - k) = l.length - 1 - k := if_neg (by omega)
  rw [rv_at (by omega), h1] at ha
  rw [rv_at (by omega), h2] at hb
  refine List.ext_getElem? fun x => ?_
  by_cases hx : x < l.length
  · rw [rv_at hx]
    by_cases h3 : x = l.length - 1 - k
    · subst h3
      rw [List.getElem?_set_self (by simp [rv_len]; omega), ← ha]
      have : rvI l.length (k + 1) (l.length - 1 - k) = k := by unfold rvI; rw [if_pos (by omega)]; omega
      rw [this]
    · rw [List.getElem?_set_ne (Ne.symm h3)]
      by_cases h4 : x = k
      · subst h4
        rw [List.getElem?_set_self (by simp [rv_len]; omega), ← hb]
        have : rvI l.length (x + 1) x = l.length - 1 - x := by unfold rvI; rw [if_pos (by omega)]
        rw [this]
      · rw [List.getElem?_set_ne (Ne.symm h4), rv_at hx]
        have : rvI l.length (k + 1) x = rvI l.length k x := by
          unfold rvI
          by_cases h5 : x < k ∨ l.length - k ≤ x
          · rw [if_pos h5, if_pos (by omega)]
          · rw [if_neg h5, if_neg (by omega)]
        rw [this]
  · rw [rv_none (by omega), List.getElem?_eq_none (by simp [rv_len]; omega)]
end Go.Proofs.YtmpaiphakjogjaaGreat.Bs
namespace Go.Proofs.YtmpaiphakjogjaaGreat.X
open Go Go.RowKit Go.Proofs.YtmpaiphakjogjaaGreat.Bs
set_option linter.unusedVariables false
def wtnK5 : Kind II := ⟨70, 2, fun x => [.int .i64 x.1, .int .i64 x.2], fun _ => [], fun _ => rfl⟩
theorem wtn5_el : elemOk Tryz.prog 44 wtnK5.ty wtnK5.m 16 = true := by kernel_rfl
section
variable {P : Program} {T : TT} {N : Nat} {B : Nat} {w0 : World} {ds : List Deferred} {Q : Exit → Act → World → Prop} {F : Fr} {L L' : Lo} {ops : Array Oper} {rest : List Oper} {ty : TypeId} {p : String} {af : Array Edge}
/-- an element of two cells is stored. -/
theorem XL.store_row2 {α : Type} (K : Kind α) (hT : TOK P T) (i : Nat) {l : List α} {sp : List Value} {a : α} {t : TypeId} {x y : Operand} {g j : Nat} {tg : TypeId}
    (hx : evo F x = some (.pointer (some ((⟨g, 0, none⟩ : Addr).add (j * K.m))))) (hy : evo F y = some (.agg (K.c a).toArray)) (hL : L[i]? = some (g, cel tg (l.flatMap K.c ++ sp))) (ht : lkG T.agg t = some 2) (hm : K.m = 2) (h1 : ∀ a, (K.c a).all one1 = true)
    (hj : j < l.length) (hL' : setN L i (g, cel tg ((l.set j a).flatMap K.c ++ sp)) = some L') (k : XL P N B w0 ds Q ops rest F L') :
    XL P N B w0 ds Q ops ({ dst := none, op := .store t x y, type := ty, pos := p, after := af, guard := none } :: rest) F L := by
  rw [add_off, Nat.zero_add] at hx
  have hp : putN (l.flatMap K.c ++ sp) (j * K.m) (K.c a) = some ((l.set j a).flatMap K.c ++ sp) := by
    have hK := K.len
    have key : ∀ (l : List α) (j : Nat), j < l.length → putN (l.flatMap K.c ++ sp) (j * K.m) (K.c a) = some ((l.set j a).flatMap K.c ++ sp) := by
      intro l
      induction l with
      | nil => intro j h; simp at h
      | cons b l ih =>
        intro j h
        have hb := hK b
        have ha := hK a
        rw [hm] at hb ha ih ⊢
        obtain ⟨b1, b2, eb⟩ : ∃ x y, K.c b = [x, y] := by
          match hc : K.c b, hb with
          | [x, y], _ => exact ⟨x, y, rfl⟩
        obtain ⟨a1, a2, ea⟩ : ∃ x y, K.c a = [x, y] := by
          match hc : K.c a, ha with
          | [x, y], _ => exact ⟨x, y, rfl⟩
        cases j with
        | zero =>
          rw [List.flatMap_cons, eb, List.set_cons_zero, List.flatMap_cons, ea]
          rfl
        | succ j =>
          have hi := ih j (by simpa using h)
          rw [List.flatMap_cons, eb, List.set_cons_succ, List.flatMap_cons, eb, ea]
          rw [ea] at hi
          have e2 : (j + 1) * 2 = j * 2 + 1 + 1 := by omega
          rw [e2]
          simp only [putN, setN, List.cons_append, List.nil_append] at hi ⊢
          cases h3 : setN (List.flatMap K.c l ++ sp) (j * 2) a1 with
          | none => rw [h3] at hi; cases hi
          | some l3 =>
            rw [h3] at hi
            simp only at hi ⊢
            rw [show j * 2 + 1 + 1 + 1 = (j * 2 + 1) + 1 + 1 from rfl]
            simp only [setN]
            cases h4 : setN l3 (j * 2 + 1) a2 with
            | none => rw [h4] at hi; cases hi
            | some l4 => rw [h4] at hi; simp only [Option.some.injEq] at hi ⊢; rw [hi]
    exact key l j hj
  exact XL.store hT i hx hy hL rfl (.inr (by rw [K.len, hm]; exact ht)) (h1 a) hp hL' k
end
set_option maxHeartbeats 8000000 in
theorem rev_any {gq cap : Nat} {l : List II} {sp : List Value} {w : World} (hq : w.heap[gq]? = some (cel 70 (l.flatMap wtnK5.c ++ sp))) (hl : l.length ≤ 1000) :
    Calls Tryz.prog 49 #[.slice (some ⟨gq, 0, none⟩) l.length cap] w fun e w' => e = .returned (.tuple #[]) ∧ Sys gq w [(gq, cel 70 (l.reverse.flatMap wtnK5.c ++ sp))] w' := by
  have S0 := Sys.start1 (Nat.le_refl gq) hq
  have hlt := (Array.getElem?_eq_some_iff.1 hq).1
  have hBw : Below gq w w := Below.refl _ _
  have hle : gq ≤ w.heap.size := by omega
  refine enterL Tryz.func49 rfl Tryz.ntmps49 rfl (S0) ?_; simp only [frame, Nat.zero_add, Nat.reduceAdd]
  repeat (first | (refine M0 ?_; first | refine SL ?_ | refine SB fun _ _ => ?_) | (refine M1 ?_; refine SC ?_) | (refine M2 ?_; refine SE ?_))
  refine XC.loopk [0] rfl (fun k : Nat => [(2, .int .i64 (k : Nat)), (3, .int .i64 ((l.length : Int) - 1 - (k : Nat)))]) (fun k => [(gq, cel 70 ((rv l k).flatMap wtnK5.c ++ sp))]) (fun _ => w) (fun k => k ≤ l.length) (fun k => l.length - k) 0 (Nat.zero_le _) (Sub.cons rfl (Sub.cons (by show some _ = some _; congr 2; omega) Sub.nil)) (fun w' h => by rw [rv_0]; exact h) ?_
  intro k hk
  dsimp only [List.cons_append, List.nil_append]
  repeat (first | (refine M0 ?_; first | refine SL ?_ | refine SB fun _ _ => ?_) | (refine M1 ?_; refine SC ?_) | (refine M2 ?_; refine SE ?_))
  refine XC.cond _ rfl (fun h2 => ?_) (fun h2 => ?_)
  rotate_left
  · have hn : ¬ k < l.length - 1 - k := by have := of_decide_eq_false h2; omega
    repeat (first | (refine M0 ?_; first | refine SL ?_ | refine SB fun _ _ => ?_) | (refine M1 ?_; refine SC ?_) | (refine M2 ?_; refine SE ?_))
    refine XE.end0 Tryz.results49 (fun w' S => ?_)
    rw [rv_all hn] at S
    exact ⟨rfl, S⟩
  have hkn : k < l.length - 1 - k := by have := of_decide_eq_true h2; omega
  obtain ⟨m, hm⟩ : ∃ m, m = l.length - 1 - k := ⟨_, rfl⟩
  have em : (l.length : Int) - 1 - (k : Nat) = (m : Nat) := by omega
  rw [em]
  obtain ⟨a, ha⟩ : ∃ a, (rv l k)[k]? = some a := ⟨_, rv_at (by omega)⟩
  obtain ⟨b, hb⟩ : ∃ b, (rv l k)[m]? = some b := ⟨_, rv_at (by omega)⟩
  have hstep := rv_step hkn ha (by rw [← hm]; exact hb)
  rw [← hm] at hstep
  have hge : ∀ (j : Nat) (y : II), (rv l k)[j]? = some y → ∀ i u, (wtnK5.c y)[i]? = some u → ((rv l k).flatMap wtnK5.c ++ sp)[0 + j * 2 + i]? = some u := fun j y hj i u hu => by
    have hi : i < 2 := (List.getElem?_eq_some_iff.1 hu).1
    rw [Nat.zero_add, fget (C := wtnK5.c) (m := 2) (fun _ => rfl) sp hj hi]
    exact hu
  have hlr := rv_len l k
  repeat (first | (refine M0 ?_; first | refine SL ?_ | refine SB fun _ _ => ?_) | (refine M1 ?_; refine SC ?_) | (refine M2 ?_; refine SE ?_))
  refine XC.drawRS (trunc w gq) [] [0, 1, 2, 3, 4, 5, 6, 8, 9, 10] [7, 11, 12, 13, 14, 15] mixed (fun _ h => Sys.anchorT hBw h (fun e he => by cases he) (by simp) hle) rfl (by kernel_rfl) ?_
  repeat (any_goals (first | (refine M0 ?_; first | refine SL ?_ | refine SB fun _ _ => ?_ | refine Y4 (Ev.load_at_agg tok 0 (g := gq) (o := 0) (j := m * 2) (vs := wtnK5.c b) rfl rfl rfl rfl (hge m b hb)) ?_ | refine Y4 (Ev.load_at_agg tok 0 (g := gq) (o := 0) (j := k * 2) (vs := wtnK5.c a) rfl rfl rfl rfl (hge k a ha)) ?_ | refine XL.store_row2 wtnK5 tok 0 (j := k) (a := b) (l := rv l k) (sp := sp) rfl rfl rfl rfl rfl (fun _ => rfl) (by omega) rfl ?_ | refine XL.store_row2 wtnK5 tok 0 (j := m) (a := a) (l := (rv l k).set k b) (sp := sp) rfl rfl rfl rfl rfl (fun _ => rfl) (by simp; omega) rfl ?_) | (refine M1 ?_; refine SC ?_) | (refine M2 ?_; first | refine SE ?_ | ((with_reducible refine atHeld ?_); refine z7 ?_)) | (refine M3 ?_; first | refine SG ?_ | refine SF ?_ | refine YF (Ev.load_at_agg tok 0 (g := gq) (o := 0) (j := m * 2) (vs := wtnK5.c b) rfl rfl rfl rfl (hge m b hb)) ?_ | refine YF (Ev.load_at_agg tok 0 (g := gq) (o := 0) (j := k * 2) (vs := wtnK5.c a) rfl rfl rfl rfl (hge k a ha)) ?_) | (refine M4 ?_; refine SR ?_) | (refine M5 ?_; first | exact M7 | refine YM ?_ | refine YN ?_ ?_)))
  any_goals (repeat (first | exact AnyR.nil | refine AnyR.skip rfl ?_))
  all_goals
    rw [hstep]
    exact XE.round (s := k) (k + 1) (by omega) (by omega) (Sub.cons rfl (Sub.cons (by show some _ = some _; congr 2; omega) ZZSUB)) (fun _ h => h)
/-- the same of a row that grows no more: nil, or a block of its own. -/
theorem rev_row {w : World} {b0 : Nat} {q : SV} {l : List II} (h : w.ownsRow b0 70 2 (svV q) l.length (l.flatMap wtnK5.c)) (hl : l.length ≤ 1000) :
    Calls Tryz.prog 49 #[svV q] w fun e w' => e = .returned (.tuple #[]) ∧ w'.ownsRow b0 70 2 (svV q) l.length (l.reverse.flatMap wtnK5.c) ∧ w'.os = w.os ∧ w'.tape = w.tape ∧ w'.output = w.output ∧ w.heap.size ≤ w'.heap.size ∧ ∀ j, j < w.heap.size → (svV q).ownBlock ≠ some j → w'.heap[j]? = w.heap[j]? := by
  obtain ⟨A, n, c⟩ := q
  obtain ⟨h1, h2 | ⟨g, cap, cur, e, hb, hg, hn, hc, hs, ht⟩⟩ := h
  · obtain ⟨e, h3⟩ := h2
    have hl0 : l = [] := List.length_eq_zero_iff.1 h3
    subst hl0
    simp only [svV, Value.slice.injEq] at e
    obtain ⟨rfl, rfl, rfl⟩ := e
    simp only [svV]
    have S0 : Sys w.heap.size w [] w := Sys.enter w
    refine enter Tryz.func49 rfl Tryz.ntmps49 rfl ?_; simp only [frame, Nat.zero_add, Nat.reduceAdd]
    repeat (first | (refine M0 ?_; first | refine SL ?_ | refine SB fun _ _ => ?_) | (refine M1 ?_; refine SC ?_) | (refine M2 ?_; refine SE ?_))
    refine XC.loopk [0] rfl (fun k : Unit => [(2, .int .i64 0), (3, .int .i64 (-1))]) (fun k => []) (fun _ => w) (fun k => True) (fun k => 1) () trivial ZZSUB (fun w' h => h) ?_
    intro k hk
    dsimp only [List.cons_append, List.nil_append]
    repeat (first | (refine M0 ?_; first | refine SL ?_ | refine SB fun _ _ => ?_) | (refine M1 ?_; refine SC ?_) | (refine M2 ?_; refine SE ?_))
    refine XE.end0 Tryz.results49 (fun w' S => ?_)
    exact ⟨rfl, ⟨rfl, .inl ⟨rfl, rfl⟩⟩, S.os, S.tape, S.output, S.size, fun j hj _ => S.old j hj (fun e he => by cases he)⟩
  · simp only [svV, Value.slice.injEq] at e
    obtain ⟨rfl, rfl, rfl⟩ := e
    have hcur : cur.toList = l.flatMap wtnK5.c ++ cur.toList.drop (l.length * 2) := by rw [← ht, List.take_append_drop]
    have hg' : w.heap[g]? = some (cel 70 (l.flatMap wtnK5.c ++ cur.toList.drop (l.length * 2))) := by rw [← hcur]; exact hg
    have hlen : (l.reverse.flatMap wtnK5.c).length = l.length * 2 := by rw [flat_len wtnK5.c 2 (fun _ => rfl), List.length_reverse]
    refine (rev_any hg' hl).mono fun e w' ⟨e1, S⟩ => ⟨e1, ⟨hlen, .inr ⟨g, _, _, rfl, hb, (S.own _ (.head _)).2, hn, hc, ?_, ?_⟩⟩, S.os, S.tape, S.output, S.size, fun j hj hne => S.old j hj (fun e he e2 => ?_)⟩
    · have : cur.toList.length = cur.size := by simp
      simp only [List.size_toArray, List.length_append, hlen, List.length_drop, this]
      omega
    · rw [List.take_left' hlen]
    · rw [List.mem_singleton.1 he] at e2
      exact hne (by rw [← e2]; rfl)
end Go.Proofs.YtmpaiphakjogjaaGreat.X
/-
  A call of Reverse beside a game; the plain words of Decide's search (closure).
-/
namespace Go.Proofs.YtmpaiphakjogjaaGreat.Bs
open Go Go.Proofs.YtmpaiphakjogjaaGreat.X
set_option linter.unusedVariables false
/-- the witnesses, the last tick first, down to tick i. -/
noncomputable def CTk.downL (t : CTk) (i : Nat) : List II := (List.range (t.beg - i)).map fun x => t.witC ((t.beg - 1 - x : Nat) : Int)
theorem downL_len (t : CTk) (i : Nat) : (t.downL i).length = t.beg - i := by simp [CTk.downL]
theorem downL_0 (t : CTk) : t.downL t.beg = [] := by unfold CTk.downL; rw [Nat.sub_self]; rfl
theorem downL_push {t : CTk} {i : Nat} (hi : i < t.beg) : t.downL i = t.downL (i + 1) ++ [t.witC (i : Nat)] := by
  unfold CTk.downL
  rw [show t.beg - i = (t.beg - (i + 1)) + 1 by omega, List.range_succ, List.map_append]
  congr 1
  rw [List.map_singleton, show t.beg - 1 - (t.beg - (i + 1)) = i by omega]
theorem downL_rev {t : CTk} {i : Nat} (hi : i < t.beg) : (t.downL (i + 1)).reverse = t.laterL i := by
  refine List.ext_getElem? fun x => ?_
  have hl := downL_len t (i + 1)
  have hl2 : (t.laterL i).length = t.beg - (i + 1) := by simp [CTk.laterL]
  by_cases hx : x < t.beg - (i + 1)
  · rw [List.getElem?_reverse (by omega), hl]
    unfold CTk.downL CTk.laterL
    rw [List.getElem?_map, List.getElem?_map, List.getElem?_range (by omega), List.getElem?_range hx]
    simp only [Option.map_some]
    congr 3
    omega
  · rw [List.getElem?_eq_none (by simp [hl]; omega), List.getElem?_eq_none (by omega)]
theorem beg_le {t : CTk} (ho : CtOk t) : t.beg ≤ 60 := by have := ho.n60; have := ho.dly; unfold CTk.beg CTk.last; omega
/-- a plan that holds for all has all levels. -/
theorem all_ins {t : CTk} {p : CPl} (h : ∀ k, k < t.m → t.holds k p = true) : ∀ k i, k < t.m → i < t.n → (t.ins k p i).isSome = true := fun k i hk hi => by
  obtain ⟨x, hx, _⟩ := above_f.1 (holds_iff.1 (h k hk) i hi)
  rw [hx]; rfl
theorem nev_ins (t : CTk) : ∀ k i, k < t.m → i < t.n → (t.ins k nev i).isSome = true := fun k i _ _ => by
  unfold CTk.ins CTk.isOpen
  simp
theorem dec_0 {t : CTk} {r : CRu} (h : ruE t r = 0) (hc : t.called r = false) : t.decE r = 0 ∧ t.decD r = ⟨nev, t.peaks nev, []⟩ := by
  constructor
  · simp [CTk.decE, h, hc]
  · simp [CTk.decD, h, hc]
theorem dec_ru {t : CTk} {r : CRu} (h : ruE t r ≠ 0) : t.decE r = ruE t r ∧ t.decD r = CDe.zero := by
  unfold CTk.decE CTk.decD
  rw [if_pos h, if_pos h]
  exact ⟨rfl, rfl⟩
theorem dec_none {t : CTk} {r : CRu} (h : ruE t r = 0) (hc : t.called r = true) (hl : t.lastOk = none) : t.decE r = 9 ∧ t.decD r = CDe.zero := by
  constructor
  · simp [CTk.decE, h, hc, hl]
  · simp [CTk.decD, h, hc, hl]
theorem dec_some {t : CTk} {r : CRu} (h : ruE t r = 0) (hc : t.called r = true) {i : Nat} (hl : t.lastOk = some i) :
    t.decE r = (if t.may r (i : Nat) = true then 0 else 9) ∧ t.decD r = (if t.may r (i : Nat) = true then ⟨t.plan (i : Nat), t.peaks (t.plan (i : Nat)), t.laterL i⟩ else CDe.zero) := by
  constructor
  · simp [CTk.decE, h, hc, hl]
  · simp [CTk.decD, h, hc, hl]
end Go.Proofs.YtmpaiphakjogjaaGreat.Bs
namespace Go.Proofs.YtmpaiphakjogjaaGreat.X
open Go Go.RowKit Go.Proofs.YtmpaiphakjogjaaGreat.Bs
set_option linter.unusedVariables false
def decC (q1 q2 : SV) (d : CDe) : List Value := [.int .i64 d.plan.close, .int .i64 d.plan.open_, svV q1, svV q2]
def decV (q1 q2 : SV) (d : CDe) : Value := .agg ⟨decC q1 q2 d⟩
def DecR (t : CTk) (r : CRu) (x : Value) (new : List Held) : Prop := ∃ q1 q2 : SV, x = .tuple ⟨[decV q1 q2 (t.decD r), .int .i64 (t.decE r)]⟩ ∧ new = [hList pekK5 q1 (t.decD r).peaks, hList wtnK5 q2 (t.decD r).later]
/-- a row of plain elements is another list now. -/
theorem Fam.turn1 {α : Type} {K : Kind α} {W W' : World} {b0 : Nat} {ks : List Nat} {v : Value} {l l' : List α} {hs : List Held} (h : Fam W b0 ks [⟨α, K, v, l⟩] hs) (hsl : ∀ a, K.sl a = []) (hrow : W'.ownsRow b0 K.ty K.m v l'.length (l'.flatMap K.c)) (hsz : W.heap.size ≤ W'.heap.size)
    (ho : ∀ j, j < W.heap.size → v.ownBlock ≠ some j → W'.heap[j]? = W.heap[j]?) : Fam W' b0 ks [⟨α, K, v, l'⟩] hs := by
  have hm : (⟨α, K, v, l⟩ : RowX) ∈ [(⟨α, K, v, l⟩ : RowX)] := .head _
  have hf : ∀ j, Free W b0 ks [⟨α, K, v, l⟩] j → Free W' b0 ks [⟨α, K, v, l'⟩] j := fun j hj => ⟨hj.1, Nat.lt_of_lt_of_le hj.2.1 hsz, hj.2.2.1, fun r hr => by rw [List.mem_singleton.1 hr]; exact fun e => hj.2.2.2 _ hm e⟩
  refine ⟨Nat.le_trans h.base hsz, fun r hr => by rw [List.mem_singleton.1 hr]; exact hrow, fun r hr k hk => by rw [List.mem_singleton.1 hr] at hk; exact h.sep _ hm k hk, List.pairwise_singleton _ _, fun r hr a ha x hx => ?_, fun x hx => (x.keep (h.held x hx) fun j hj => ho j hj.2.1 fun e => hj.2.2.2 _ hm e) |> fun y => x.mono y hf⟩
  cases List.mem_singleton.1 hr
  have : x ∈ K.sl a := hx
  rw [hsl] at this
  cases this
section
variable {t : CTk} {v : CTV} {b0 g gm : Nat} {ks : List Nat} {hs : List Held} {w w' w0 : World} {L : Lo} {B : Nat}
variable {N : Nat} {ds : List Deferred} {Q : Exit → Act → World → Prop} {F : Fr} {ops : Array Oper} {rest : List Oper} {ty : TypeId} {p : String} {af : Array Edge}
/-- a call of Reverse: the row is turned round. -/
theorem XL.callRev {d : Nat} {args : Array Operand} {ats : Array TypeId} {q : SV} {l : List II} (ha : evos F args.toList = some [svV q]) (hd : Nat.blt d N = true) (hG : Gam t v b0 g gm ks [⟨II, wtnK5, svV q, l⟩] hs w0) (hg : (g, gamO v t gm) ∈ L) (hl : l.length ≤ 1000)
    (k : ∀ w', Gam t v b0 g gm (L.map (·.1) ++ ks) [⟨II, wtnK5, svV q, l.reverse⟩] hs w' → Below b0 w0 w' → XL Tryz.prog N b0 w' ds Q ops rest ((d, .tuple #[]) :: F) L)
    (hL : ∀ e, e ∈ L → e.1 ∈ ks ∨ w0.heap.size ≤ e.1) :
    XL Tryz.prog N b0 w0 ds Q ops ({ dst := some d, op := .call { callee := .value (.func 49), args := args, argTypes := ats }, type := ty, pos := p, after := af, guard := none } :: rest) F L := by
  refine XL.callr (fst := []) (cap := []) (fun w x w' => x = .tuple #[] ∧ Gam t v b0 g gm (L.map (·.1) ++ ks) [⟨II, wtnK5, svV q, l.reverse⟩] hs w' ∧ Below b0 w w' ∧ ∀ e, e ∈ L → w'.heap[e.1]? = w.heap[e.1]?) (ck rfl) rfl ha hd (fun w S => ?_) (fun w x w' S hR => ?_)
  · have hA := hG.add S hg hL
    have hm : (⟨II, wtnK5, svV q, l⟩ : RowX) ∈ [(⟨II, wtnK5, svV q, l⟩ : RowX)] := .head _
    have hrow := hA.fam.row _ hm
    simp only [List.nil_append, List.append_nil]
    refine (rev_row hrow hl).mono fun e w' ⟨e1, e2, e3, e4, e5, e6, e7⟩ => ⟨_, e1, rfl, ?_, ?_, ?_⟩
    · have hb0 : b0 ≤ w.heap.size := hA.fam.base
      have hB : Below b0 w w' := ⟨e3, e4, e5, e6, fun j hj => e7 j (by omega) fun e => by have := (hA.fam.lt hm e).1; omega⟩
      have hsep : ∀ q', q' ∈ gm :: (L.map (·.1) ++ ks) → w'.heap[q']? = w.heap[q']? := fun q' hq' => e7 q' (hA.lt q' hq') fun e => hA.fam.sep _ hm q' e hq'
      refine ⟨hA.fam.turn1 (fun _ => rfl) (by rw [List.length_reverse]; exact e2) e6 e7, hA.nin, hA.gin, fun k hk => Nat.lt_of_lt_of_le (hA.lt k hk) e6, hA.bg, hA.bm, (hsep g (.tail _ hA.gin)).trans hA.game, hA.task.below hB, ?_⟩
      refine (hA.memo.keep (w' := w') fun j hj => ?_).mono fun j hj => ⟨hj.1, Nat.lt_of_lt_of_le hj.2.1 e6, hj.2.2.1, fun r hr => by rw [List.mem_singleton.1 hr]; exact fun e => hj.2.2.2 _ hm e⟩
      rcases hj with hj | rfl
      · exact e7 j hj.2.1 fun e => hj.2.2.2 _ hm e
      · exact hsep _ (.head _)
    · exact ⟨e3, e4, e5, e6, fun j hj => e7 j (Nat.lt_of_lt_of_le hj hA.fam.base) fun e => by have := (hA.fam.lt hm e).1; omega⟩
    · intro e he
      have hmem : e.1 ∈ gm :: (L.map (·.1) ++ ks) := .tail _ (List.mem_append_left _ (List.mem_map.2 ⟨e, he, rfl⟩))
      exact e7 e.1 (hA.lt e.1 hmem) fun e1 => hA.fam.sep _ hm e.1 e1 hmem
  · obtain ⟨rfl, hG', hB, hsame⟩ := hR
    have S' : Sys b0 w' L w' := Sys.start hG'.fam.base (fun e he => ⟨(S.own e he).1, by rw [hsame e he]; exact (S.own e he).2⟩) S.nd
    exact ⟨L, w', S', k w' hG' (S.toBelow.trans hB)⟩
end
end Go.Proofs.YtmpaiphakjogjaaGreat.X
/-
  The walk of Decide (closure).
-/
namespace Go.Proofs.YtmpaiphakjogjaaGreat.X
open Go Go.RowKit Go.Proofs.YtmpaiphakjogjaaGreat.Bs
set_option linter.unusedVariables false
theorem decZ {t : CTk} {r : CRu} {e : Int} (h1 : t.decE r = e) (h2 : t.decD r = CDe.zero) {w w' : World} (hB : Below w.heap.size w w') :
    Made w (DecR t r) (.returned (.tuple ⟨[.agg ⟨[.int .i64 0, .int .i64 0, .slice none 0 0, .slice none 0 0]⟩, .int .i64 e]⟩)) w' := by
  refine ⟨_, _, rfl, ⟨⟨none, 0, 0⟩, ⟨none, 0, 0⟩, by rw [h1, h2]; rfl, rfl⟩, fun x hx => ?_, hB⟩
  rw [h2] at hx
  simp only [List.mem_cons, List.not_mem_nil, or_false] at hx
  rcases hx with rfl | rfl
  · exact ListAt.nil
  · exact ListAt.nil
set_option maxHeartbeats 16000000 in
theorem Decide_made {v : CTV} {t : CTk} {r : CRu} {w : World} (h : CtAt w w.heap.size v t) :
    Calls Tryz.prog 14 #[ctkV v t, ruV r] w (Made w (DecR t r)) := by
  simp only [ctkV, ctkC, ruV]
  refine enterM Tryz.func14 rfl Tryz.ntmps14 rfl ?_; simp only [frame, Nat.zero_add, Nat.reduceAdd]
  repeat (first | (refine M0 ?_; first | refine SL ?_ | refine SB fun _ _ => ?_) | (refine M1 ?_; refine SC ?_) | (refine M2 ?_; refine SE ?_))
  rename_i g2 hg2 g3 hg3 g4 hg4 g5 hg5
  refine XL.with5 (v := v) (t := t) (r := r) h rfl rfl (fun hc w1 hB1 => ?_) (fun hc ho hq w1 gr g gm hG1 hB1 hgl hgrl => ?_)
  · obtain ⟨d1, d2⟩ := dec_ru hc
    repeat (first | (refine M0 ?_; first | refine SL ?_ | refine SB fun _ _ => ?_) | (refine M1 ?_; refine SC ?_) | (refine M2 ?_; refine SE ?_))
    rw [show decide (ruE t r ≠ 0) = true from decide_eq_true hc]
    repeat (first | (refine M0 ?_; first | refine SL ?_ | refine SB fun _ _ => ?_) | (refine M1 ?_; refine SC ?_) | (refine M2 ?_; refine SE ?_))
    refine XE.retM0 tok Tryz.results14 rfl (by simp only [and_self, and_true]) (fun w' S => ?_)
    exact decZ d1 d2 (hB1.trans S.toBelow)
  have hal := fun {L : Lo} {W : World} (hGW : CtAt W w.heap.size v t) (w5 : World) (S5 : Sys w.heap.size W L w5) (m1 : (gr, rulO g r) ∈ L) (m2 : (g, gamO v t gm) ∈ L) => allowed_any (r := r) ((hGW.below S5.toBelow).more (Nat.le_trans S5.base S5.size)) ho hq (S5.own _ m1).2 (S5.own _ m2).2
  have hgs1 : g ∈ gr :: g :: [(g5, cel 35 [.int .i64 0]), (g4, cel 46 [.int .i64 0, .int .i64 0, .slice none 0 0, .slice none 0 0]), (g3, cel 31 [.int .i64 r.count, .int .i64 r.early]), (g2, cel 29 (ctkC v t))].map (·.1) := .tail _ (.head _)
  have h60 := ho.n60
  have hdl := ho.dly
  have hfr := ho.frm
  have hm8 := ho.m8
  simp only [gamO, gamC, rulO, rulC]
  repeat (first | (refine M0 ?_; first | refine SL ?_ | refine SB fun _ _ => ?_) | (refine M1 ?_; refine SC ?_) | (refine M2 ?_; refine SE ?_))
  rename_i g6 hg6
  have hle : w.heap.size ≤ w.heap.size := Nat.le_refl _
  have hz1 := hB1.size
  repeat (first | (refine M0 ?_; first | refine SL ?_ | refine SB fun _ _ => ?_ | refine Y4 (Ev.call (f := 45) (ck rfl) rfl (fun w5 S5 => hal hG1.task w5 S5 (.tail _ (.head _)) (.tail _ (.tail _ (.head _))))) ?_) | (refine M1 ?_; refine SC ?_) | (refine M2 ?_; refine SE ?_))
  cases hcl : t.called r with
  | false =>
    obtain ⟨d1, d2⟩ := dec_0 hc hcl
    repeat (first | (refine M0 ?_; first | refine SL ?_ | refine SB fun _ _ => ?_) | (refine M1 ?_; refine SC ?_) | (refine M2 ?_; refine SE ?_))
    refine XC.drawRS (trunc w w.heap.size) [(g6, cel 89 [.pointer (some ⟨gr, 0, none⟩)])] [1] [0, 2, 3, 4, 5, 6] mixed (fun _ h => Sys.anchorT hB1 h (fun e he => by rw [List.mem_singleton.1 he]; exact .head _) (by simp) hle) rfl (by kernel_rfl) ?_
    repeat (any_goals (first | (refine M0 ?_; first | refine SL ?_ | refine SB fun _ _ => ?_ | refine Y4 (Ev.load_loc tok 0 (g := g6) (o := 0) rfl rfl rfl rfl) ?_ | refine Y4 (Ev.call (f := 46) (ck rfl) rfl (fun w S => nev_any w)) ?_ | (refine XL.at_call 47 ?_; refine XL.callJ (PksX t nev) (ck rfl) rfl rfl hG1 (by repeat (first | exact List.mem_cons_self | apply List.mem_cons_of_mem)) (fun w5 ks2 S5 hL5 hG5 => peaks_any hG5 ho (S5.own (gr, rulO g r) (by repeat (first | exact List.mem_cons_self | apply List.mem_cons_of_mem))).2 (hL5 (gr, rulO g r) (by repeat (first | exact List.mem_cons_self | apply List.mem_cons_of_mem))) hgrl (nev_ok t) (nev_ins t)) (fun w5 x new hR hG5 hB5 => ?_) ZZMK; obtain ⟨q, rfl, rfl⟩ := hR; simp only [svV]; have hB15 : Below w.heap.size w w5 := hB1.trans hB5)) | (refine M1 ?_; refine SC ?_) | (refine M2 ?_; first | refine SE ?_ | ((with_reducible refine atHeld ?_); refine z7 ?_)) | (refine M3 ?_; first | refine SG ?_ | refine SF ?_ | refine YF (Ev.load_loc tok 0 (g := g6) (o := 0) rfl rfl rfl rfl) ?_ | refine YF (Ev.call (f := 46) (ck rfl) rfl (fun w S => nev_any w)) ?_) | (refine M4 ?_; refine SR ?_) | (refine M5 ?_; first | exact M7 | refine YM ?_ | refine YN ?_ ?_)))
    any_goals (repeat (first | exact AnyR.nil | refine AnyR.skip rfl ?_))
    all_goals
      refine XE.retM0 tok Tryz.results14 rfl (by simp only [and_self, and_true]) (fun w' S => ?_)
      refine ⟨_, _, rfl, ⟨q, ⟨none, 0, 0⟩, by rw [d1, d2]; rfl, rfl⟩, fun x hx => ?_, hB15.trans S.toBelow⟩
      rw [d2] at hx
      simp only [List.mem_cons, List.not_mem_nil, or_false] at hx
      rcases hx with rfl | rfl
      · exact (hG5.sys S (by repeat (first | exact List.mem_cons_self | apply List.mem_cons_of_mem)) ZZMK).fam.get (.head _)
      · exact ListAt.nil
  | true =>
  repeat (first | (refine M0 ?_; first | refine SL ?_ | refine SB fun _ _ => ?_ | refine Y4 (Ev.load_loc tok 2 (g := gr) (o := 0) rfl rfl rfl rfl) ?_) | (refine M1 ?_; refine SC ?_) | (refine M2 ?_; refine SE ?_))
  rename_i g10 hg10
  refine XL.callr (fst := []) (cap := []) (fun w1 x w2 => ∃ gp, x = .func (.func 73) #[] #[.pointer (some ⟨gp, 0, none⟩)] ∧ Sys w1.heap.size w1 [(gp, cel 74 [.pointer (some ⟨g, 0, none⟩)])] w2) (ck rfl) rfl rfl rfl (fun w1 S1 => begs0_any) (fun wX x w2 S1 hR => ?_)
  obtain ⟨gp, rfl, S2⟩ := hR
  refine ⟨_, w2, (S1.join S2 (List.Sublist.refl _)).rebase (List.sublist_cons_self _ _), ?_⟩
  have hB2 : Below w.heap.size w w2 := hB1.trans (S1.toBelow.trans (S2.toBelow.mono (Nat.le_trans S1.base S1.size)))
  have hgpL : ∀ x, x ∈ [g10, g6, gr, g, g5, g4, g3, g2] → x < gp := fun x hx => Nat.lt_of_lt_of_le (S1.keyLt x hx) (S2.own _ (.head _)).1
  have hn106 : g10 ≠ g6 := by
    have := S1.nd
    simp only [List.map_cons, List.nodup_cons, List.mem_cons, not_or] at this
    exact this.1.1
  have hgpc : w2.cell? ⟨gp, 0, none⟩ = some (.pointer (some ⟨g, 0, none⟩)) := by
    have := (S2.own _ (.head _)).2
    simp [World.cell?, this]
  have hgpl : gp < w2.heap.size := S2.lt (.head _)
  have hG2 : Gam t v w.heap.size g gm [g10, g6, gr, g, g5, g4, g3, g2] [⟨II, wtnK5, .slice none 0 0, []⟩] [] w2 := by
    have h1 := (hG1.add S1 (by repeat (first | exact List.mem_cons_self | apply List.mem_cons_of_mem)) ZZMK).made (new := []) S2.toBelow (fun x hx => by cases hx)
    exact (h1.less (fun x hx => List.mem_append_left _ hx) (by simp)).nil wtnK5
  clear S1 S2
  repeat (first | (refine M0 ?_; first | refine SL ?_ | refine SB fun _ _ => ?_) | (refine M1 ?_; refine SC ?_) | (refine M2 ?_; refine SE ?_))
  refine XC.rangeFuncD (cap := [.pointer (some ⟨gp, 0, none⟩)]) rfl (ck rfl) (fun fn a D w3 hD hf S3 => ?_)
  have hfS : Fits 76 [] [(10, .pointer (some ⟨g10, 0, none⟩)), (6, .pointer (some ⟨g6, 0, none⟩)), (5, .pointer (some ⟨g5, 0, none⟩)), (4, .pointer (some ⟨g4, 0, none⟩))] { tmps := a.tmps, defers := [] } := by
    have h4 := Sub.fits (G := [(10, .pointer (some ⟨g10, 0, none⟩)), (6, .pointer (some ⟨g6, 0, none⟩)), (5, .pointer (some ⟨g5, 0, none⟩)), (4, .pointer (some ⟨g4, 0, none⟩))]) ZZSUB hf
    exact ⟨h4.size, rfl, h4.get⟩
  have hG3 : Gam t v w.heap.size g gm [D + 1, D, g10, g6, gr, g, g5, g4, g3, g2] [⟨II, wtnK5, .slice none 0 0, []⟩] [] w3 := by
    have h1 := hG2.add S3 (by repeat (first | exact List.mem_cons_self | apply List.mem_cons_of_mem)) (fun e he => by
      have h5 : e.1 ∈ [D + 1, D, g10, g6, gr, g, g5, g4, g3, g2] := List.mem_map.2 ⟨e, he, rfl⟩
      rcases List.mem_cons.1 h5 with h5 | h5
      · right; omega
      rcases List.mem_cons.1 h5 with h5 | h5
      · right; omega
      · left; exact h5)
    exact h1.less (fun x hx => List.mem_append_left _ hx) (by simp)
  have hB3 : Below w.heap.size w w3 := hB2.trans S3.toBelow
  have hbg := begs_any (B := w.heap.size) (l := D + 1) (gp := gp) (g := g) (gm := gm) (v := v) (t := t) (σ := World × SV × Option (List Value × Int))
    (fun s => [(D + 1, .loop (recO fn a.tmps #[42] _ _ D (match s.2.2 with | none => .ready | some _ => .done) (match s.2.2 with | none => none | some _ => some .ret))), (D, .deferred (some [])), (g10, cel 44 [svV s.2.1]), (g6, cel 89 [.pointer (some ⟨gr, 0, none⟩)]), (gr, rulO g r), (g, gamO v t gm), (g5, cel 35 [.int .i64 (match s.2.2 with | none => 0 | some x => x.2)]), (g4, cel 46 (match s.2.2 with | none => [.int .i64 0, .int .i64 0, .slice none 0 0, .slice none 0 0] | some x => x.1)), (g3, cel 31 [.int .i64 r.count, .int .i64 r.early]), (g2, cel 29 (ctkC v t))])
    (fun s => s.1)
    (fun i s => s.2.2 = none ∧ Gam t v w.heap.size g gm [D + 1, D, g10, g6, gr, g, g5, g4, g3, g2] [⟨II, wtnK5, svV s.2.1, t.downL i⟩] [] s.1 ∧ Below w.heap.size w s.1 ∧ ∀ j, i ≤ j → j < t.beg → t.wit (j : Nat) ≠ none)
    (fun s => ∃ cs e q1 q2, s.2.2 = some (cs, e) ∧ Below w.heap.size w s.1 ∧ cs = decC q1 q2 (t.decD r) ∧ e = t.decE r ∧ Fam s.1 w.heap.size [D + 1, D, g10, g6, gr, g, g5, g4, g3, g2] [] [hList pekK5 q1 (t.decD r).peaks, hList wtnK5 q2 (t.decD r).later])
    (w3, ⟨none, 0, 0⟩, none) ho (S3.rebase (List.Sublist.refl _)) ⟨rfl, by rw [downL_0]; exact hG3, hB3, fun j h1 h2 => by omega⟩ ?_ ?_ ?_ ?_ ?_
  rotate_left
  · have h := S3.farCell (a := ⟨gp, 0, none⟩) hgpl (fun e he => by
      have h5 : e.1 ∈ [D + 1, D, g10, g6, gr, g, g5, g4, g3, g2] := List.mem_map.2 ⟨e, he, rfl⟩
      show e.1 ≠ gp
      rcases List.mem_cons.1 h5 with h5 | h5
      · omega
      rcases List.mem_cons.1 h5 with h5 | h5
      · omega
      · have := hgpL e.1 h5; omega)
    exact h.trans hgpc
  · exact Nat.lt_of_lt_of_le hgpl S3.size
  · intro e he
    have h5 : e.1 ∈ [D + 1, D, g10, g6, gr, g, g5, g4, g3, g2] := List.mem_map.2 ⟨e, he, rfl⟩
    rcases List.mem_cons.1 h5 with h5 | h5
    · omega
    rcases List.mem_cons.1 h5 with h5 | h5
    · omega
    · have := hgpL e.1 h5; omega
  · repeat (first | exact List.mem_cons_self | apply List.mem_cons_of_mem)
  · rintro i ⟨W, q, s⟩ hi ⟨rfl, hGW, hBW, hJ⟩ w1' S1
    simp only at hGW hBW hJ S1
    have hloop := (S1.own _ (.head _)).2
    refine ⟨_, _, _, _, run_yield (args := #[.int .i64 (i : Nat)]) hloop rfl, ?_⟩
    refine round_of (hfS.one5 rfl) S1 ?_
    clear hloop
    have hil : (i : Int) ≤ t.last := by unfold CTk.beg at hi; omega
    have hl1 : -31 ≤ t.last ∧ t.last ≤ 60 := by unfold CTk.last; omega
    simp only [gamO, gamC, ctkC, rulO, rulC, svV]
    repeat (first | (refine M0 ?_; first | refine SL ?_ | refine SB fun _ _ => ?_) | (refine XI.id ?_; first | refine XI.done ?_ | refine XI.one1 rfl ?_) | (refine XR'.id ?_; first | refine XR'.seq ?_ | refine XR'.region ?_ | refine XR'.block ?_ | refine XR'.skip ?_ | refine XR'.ret ?_ | refine XR'.cond_t rfl ?_ | refine XR'.cond_f rfl ?_ | refine XR'.exit ?_) | (refine M1 ?_; first | refine SC ?_ | refine SD ?_) | (refine M2 ?_; first | refine XE.nextI ?_ | refine XE.nextR ?_ | refine SE ?_))
    refine XE.begin (i := 0) rfl rfl rfl ?_
    repeat (first | (refine M0 ?_; first | refine SL ?_ | refine SB fun _ _ => ?_) | (refine XI.id ?_; first | refine XI.done ?_ | refine XI.one1 rfl ?_) | (refine XR'.id ?_; first | refine XR'.seq ?_ | refine XR'.region ?_ | refine XR'.block ?_ | refine XR'.skip ?_ | refine XR'.ret ?_ | refine XR'.cond_t rfl ?_ | refine XR'.cond_f rfl ?_ | refine XR'.exit ?_) | (refine M1 ?_; first | refine SC ?_ | refine SD ?_) | (refine M2 ?_; first | refine XE.nextI ?_ | refine XE.nextR ?_ | refine SE ?_))
    repeat (first | (refine M0 ?_; first | refine SL ?_ | refine SB fun _ _ => ?_ | refine Y4 (Ev.load_loc tok 3 (g := g6) (o := 0) rfl rfl rfl rfl) ?_) | (refine XI.id ?_; first | refine XI.done ?_ | refine XI.one1 rfl ?_) | (refine XR'.id ?_; first | refine XR'.seq ?_ | refine XR'.region ?_ | refine XR'.block ?_ | refine XR'.skip ?_ | refine XR'.ret ?_ | refine XR'.cond_t rfl ?_ | refine XR'.cond_f rfl ?_ | refine XR'.exit ?_) | (refine M1 ?_; first | refine SC ?_ | refine SD ?_) | (refine M2 ?_; first | refine XE.nextI ?_ | refine XE.nextR ?_ | refine SE ?_))
    refine XL.callJ (WitX t (i : Nat)) (ck rfl) rfl rfl hGW (by repeat (first | exact List.mem_cons_self | apply List.mem_cons_of_mem)) (fun w5 ks2 S5 hL5 hG5 => witness_any hG5 ho (S5.own (gr, rulO g r) (by repeat (first | exact List.mem_cons_self | apply List.mem_cons_of_mem))).2 (hL5 (gr, rulO g r) (by repeat (first | exact List.mem_cons_self | apply List.mem_cons_of_mem))) hgrl hil) (fun w5 x new hR hG5 hB5 => ?_) ZZMK
    obtain ⟨rfl, rfl⟩ := hR
    have hBW5 : Below w.heap.size w w5 := hBW.trans hB5
    simp only [iiV]
    have hbl := beg_le ho
    cases hwt : t.wit (i : Nat) with
    | some y =>
      repeat (first | (refine M0 ?_; first | refine SL ?_ | refine SB fun _ _ => ?_) | (refine XI.id ?_; first | refine XI.done ?_ | refine XI.one1 rfl ?_) | (refine XR'.id ?_; first | refine XR'.seq ?_ | refine XR'.region ?_ | refine XR'.block ?_ | refine XR'.skip ?_ | refine XR'.ret ?_ | refine XR'.cond_t rfl ?_ | refine XR'.cond_f rfl ?_ | refine XR'.exit ?_) | (refine M1 ?_; first | refine SC ?_ | refine SD ?_) | (refine M2 ?_; first | refine XE.nextI ?_ | refine XE.nextR ?_ | refine SE ?_))
      rename_i g12 hg12
      repeat (first | (refine M0 ?_; first | refine SL ?_ | refine SB fun _ _ => ?_ | refine Y4 (Ev.load_loc tok 3 (g := g10) (o := 0) rfl rfl rfl rfl) ?_ | refine XL.buildSlice tok rfl rfl rfl rfl rfl rfl rfl rfl rfl (fun _ _ => ?_)) | (refine XI.id ?_; first | refine XI.done ?_ | refine XI.one1 rfl ?_) | (refine XR'.id ?_; first | refine XR'.seq ?_ | refine XR'.region ?_ | refine XR'.block ?_ | refine XR'.skip ?_ | refine XR'.ret ?_ | refine XR'.cond_t rfl ?_ | refine XR'.cond_f rfl ?_ | refine XR'.exit ?_) | (refine M1 ?_; first | refine SC ?_ | refine SD ?_) | (refine M2 ?_; first | refine XE.nextI ?_ | refine XE.nextR ?_ | refine SE ?_))
      rename_i g53 hg53
      refine XL.pushG (K := wtnK5) (a := t.witC (i : Nat)) 0 wtn5_el (by decide) rfl rfl rfl hG5 (by repeat (first | exact List.mem_cons_self | apply List.mem_cons_of_mem)) rfl (.head _) rfl (fun _ => rfl) (by rw [downL_len]; omega) (by decide) (fun w6 r6 hG6 hB6 => ?_) ZZMK
      rw [← downL_push hi] at hG6
      simp only [svV]
      repeat (first | (refine M0 ?_; first | refine SL ?_ | refine SB fun _ _ => ?_ | refine XL.store_at tok 4 (g := g10) (o := 0) (j := 0) (cs := [.slice q.A q.n q.c]) rfl rfl rfl rfl rfl (Nat.le_of_ble_eq_true rfl) rfl ?_) | (refine XI.id ?_; first | refine XI.done ?_ | refine XI.one1 rfl ?_) | (refine XR'.id ?_; first | refine XR'.seq ?_ | refine XR'.region ?_ | refine XR'.block ?_ | refine XR'.skip ?_ | refine XR'.ret ?_ | refine XR'.cond_t rfl ?_ | refine XR'.cond_f rfl ?_ | refine XR'.exit ?_) | (refine M1 ?_; first | refine SC ?_ | refine SD ?_) | (refine M2 ?_; first | refine XE.nextI ?_ | refine XE.nextR ?_ | refine SE ?_))
      refine XE.endR (i := 2) rfl rfl (fun w' S => ?_)
      refine ⟨_, rfl, .inl ⟨rfl, (w', r6, none), ⟨rfl, ?_, (hBW5.trans hB6).trans S.toBelow, fun j h3 h4 => ?_⟩, S.rebase ZZSM⟩⟩
      · exact hG6.on S (by repeat (first | exact List.mem_cons_self | apply List.mem_cons_of_mem)) ZZMK ZZSB (by simp) (fun x hx => by cases hx)
      · rcases Nat.lt_or_ge i j with h5 | h5
        · exact hJ j h5 h4
        · have : i = j := by omega
          subst this
          rw [hwt]; simp
    | none =>
      have hlo : t.lastOk = some i := lastOk_some.2 ⟨hil, hwt, fun j h3 h4 => hJ j (by omega) (beg_lt.2 h4)⟩
      obtain ⟨d1, d2⟩ := dec_some hc hcl hlo
      have hml := fun {L : Lo} (w9 : World) (S9 : Sys w.heap.size w5 L w9) (m1 : (gr, rulO g r) ∈ L) (m2 : (g, gamO v t gm) ∈ L) => may_any (r := r) (i := (i : Nat)) ((hG5.task.below S9.toBelow).more (Nat.le_trans S9.base S9.size)) ho hq (S9.own _ m1).2 (S9.own _ m2).2
      repeat (first | (refine M0 ?_; first | refine SL ?_ | refine SB fun _ _ => ?_) | (refine XI.id ?_; first | refine XI.done ?_ | refine XI.one1 rfl ?_) | (refine XR'.id ?_; first | refine XR'.seq ?_ | refine XR'.region ?_ | refine XR'.block ?_ | refine XR'.skip ?_ | refine XR'.ret ?_ | refine XR'.cond_t rfl ?_ | refine XR'.cond_f rfl ?_ | refine XR'.exit ?_) | (refine M1 ?_; first | refine SC ?_ | refine SD ?_) | (refine M2 ?_; first | refine XE.nextI ?_ | refine XE.nextR ?_ | refine SE ?_))
      rename_i g12 hg12
      repeat (first | (refine M0 ?_; first | refine SL ?_ | refine SB fun _ _ => ?_ | refine Y4 (Ev.load_loc tok 4 (g := g6) (o := 0) rfl rfl rfl rfl) ?_ | refine Y4 (Ev.call (f := 42) (ck rfl) rfl (fun w9 S9 => hml w9 S9 (by repeat (first | exact List.mem_cons_self | apply List.mem_cons_of_mem)) (by repeat (first | exact List.mem_cons_self | apply List.mem_cons_of_mem)))) ?_) | (refine XI.id ?_; first | refine XI.done ?_ | refine XI.one1 rfl ?_) | (refine XR'.id ?_; first | refine XR'.seq ?_ | refine XR'.region ?_ | refine XR'.block ?_ | refine XR'.skip ?_ | refine XR'.ret ?_ | refine XR'.cond_t rfl ?_ | refine XR'.cond_f rfl ?_ | refine XR'.exit ?_) | (refine M1 ?_; first | refine SC ?_ | refine SD ?_) | (refine M2 ?_; first | refine XE.nextI ?_ | refine XE.nextR ?_ | refine SE ?_))
      cases hmy : t.may r (i : Nat) with
      | false =>
        rw [hmy] at d1 d2
        repeat (first | (refine M0 ?_; first | refine SL ?_ | refine SB fun _ _ => ?_ | refine XL.store tok 8 (g := g4) (o := 0) (cs := [.int .i64 0, .int .i64 0, .slice none 0 0, .slice none 0 0]) rfl rfl rfl rfl (.inr rfl) rfl rfl rfl ?_ | refine XL.store_at tok 7 (g := g5) (o := 0) (j := 0) (cs := [.int .i64 0]) rfl rfl rfl rfl rfl (Nat.le_of_ble_eq_true rfl) rfl ?_) | (refine XI.id ?_; first | refine XI.done ?_ | refine XI.one1 rfl ?_) | (refine XR'.id ?_; first | refine XR'.seq ?_ | refine XR'.region ?_ | refine XR'.block ?_ | refine XR'.skip ?_ | refine XR'.ret ?_ | refine XR'.cond_t rfl ?_ | refine XR'.cond_f rfl ?_ | refine XR'.exit ?_) | (refine M1 ?_; first | refine SC ?_ | refine SD ?_) | (refine M2 ?_; first | refine XE.nextI ?_ | refine XE.nextR ?_ | refine SE ?_))
        refine XE.endRet (i := 1) rfl rfl (fun w' S => ?_)
        refine ⟨_, rfl, .inr ⟨rfl, (w', q, some ([.int .i64 0, .int .i64 0, .slice none 0 0, .slice none 0 0], 9)), ⟨_, _, ⟨none, 0, 0⟩, ⟨none, 0, 0⟩, rfl, hBW5.trans S.toBelow, by rw [d2]; rfl, by rw [d1]; rfl, ?_⟩, S.rebase ZZSM⟩⟩
        rw [d2]
        exact ((Fam.start (hBW5.trans S.toBelow).size).hold (ok := fun _ => False) (x := hList wtnK5 ⟨none, 0, 0⟩ []) ListAt.nil (fun _ h => h.elim)).hold (ok := fun _ => False) (x := hList pekK5 ⟨none, 0, 0⟩ []) ListAt.nil (fun _ h => h.elim)
      | true =>
        rw [hmy] at d1 d2
        repeat (first | (refine M0 ?_; first | refine SL ?_ | refine SB fun _ _ => ?_ | refine Y4 (Ev.load_loc tok 3 (g := g10) (o := 0) rfl rfl rfl rfl) ?_) | (refine XI.id ?_; first | refine XI.done ?_ | refine XI.one1 rfl ?_) | (refine XR'.id ?_; first | refine XR'.seq ?_ | refine XR'.region ?_ | refine XR'.block ?_ | refine XR'.skip ?_ | refine XR'.ret ?_ | refine XR'.cond_t rfl ?_ | refine XR'.cond_f rfl ?_ | refine XR'.exit ?_) | (refine M1 ?_; first | refine SC ?_ | refine SD ?_) | (refine M2 ?_; first | refine XE.nextI ?_ | refine XE.nextR ?_ | refine SE ?_))
        have hst : t.strange (t.plan (i : Nat)) = false := (plan_ok ho (Int.natCast_nonneg i) hil).1
        have hal2 := all_ins (wit_none.1 hwt)
        refine XL.callRev rfl rfl hG5 (by repeat (first | exact List.mem_cons_self | apply List.mem_cons_of_mem)) (by rw [downL_len]; omega) (fun w6 hG6 hB6 => ?_) ZZMK
        rw [downL_rev hi] at hG6
        have hG6 := hG6.freeze
        have hBW6 : Below w.heap.size w w6 := hBW5.trans hB6
        have hpl := fun {L : Lo} {B : Nat} {W1 : World} (w9 : World) (S9 : Sys B W1 L w9) (hm : (g, gamO v t gm) ∈ L) => plan_any (v := v) (t := t) (gm := gm) (i := (i : Nat)) (S9.own _ hm).2 ho ⟨by omega, by omega⟩
        repeat (first | (refine M0 ?_; first | refine SL ?_ | refine SB fun _ _ => ?_ | refine Y4 (Ev.load_loc tok 4 (g := g6) (o := 0) rfl rfl rfl rfl) ?_ | refine Y4 (Ev.load_loc tok 5 (g := gr) (o := 0) rfl rfl rfl rfl) ?_ | refine Y4 (Ev.call (f := 33) (ck rfl) rfl (fun w9 S9 => hpl w9 S9 (by repeat (first | exact List.mem_cons_self | apply List.mem_cons_of_mem)))) ?_) | (refine XI.id ?_; first | refine XI.done ?_ | refine XI.one1 rfl ?_) | (refine XR'.id ?_; first | refine XR'.seq ?_ | refine XR'.region ?_ | refine XR'.block ?_ | refine XR'.skip ?_ | refine XR'.ret ?_ | refine XR'.cond_t rfl ?_ | refine XR'.cond_f rfl ?_ | refine XR'.exit ?_) | (refine M1 ?_; first | refine SC ?_ | refine SD ?_) | (refine M2 ?_; first | refine XE.nextI ?_ | refine XE.nextR ?_ | refine SE ?_))
        rename_i g14 hg14
        have hz6 := hB6.size
        have hz5 := hB5.size
        have l10 : g10 < W.heap.size := hGW.lt g10 (by simp)
        have l6 : g6 < W.heap.size := hGW.lt g6 (by simp)
        refine XR'.drawRS (trunc w w.heap.size) [(g14, cel 42 [.int .i64 (t.plan (i : Nat)).close, .int .i64 (t.plan (i : Nat)).open_]), (g10, cel 44 [.slice q.A q.n q.c]), (g6, cel 89 [.pointer (some ⟨gr, 0, none⟩)])] [0, 1, 2, 4] [3, 5, 6, 7] mixed (fun _ h => Sys.anchorT hBW6 h (by intro e he; repeat (first | (cases he; done) | (rcases List.mem_cons.1 he with rfl | he; · repeat (first | exact List.mem_cons_self | apply List.mem_cons_of_mem)))) (by simp; omega) hle) rfl rfl (by kernel_rfl) ?_
        repeat (any_goals (first | (refine M0 ?_; first | refine SL ?_ | refine SB fun _ _ => ?_ | refine Y4 (Ev.load_loc_agg tok 0 (g := g14) (o := 0) rfl rfl rfl rfl) ?_ | refine Y4 (Ev.load_loc tok 1 (g := g10) (o := 0) rfl rfl rfl rfl) ?_ | refine Y4 (Ev.load_loc tok 2 (g := g6) (o := 0) rfl rfl rfl rfl) ?_ | (refine XL.at_call 47 ?_; refine XL.callJ (PksX t (t.plan (i : Nat))) (ck rfl) rfl rfl hG6 (by repeat (first | exact List.mem_cons_self | apply List.mem_cons_of_mem)) (fun w9 ks2 S9 hL9 hG9 => peaks_any hG9 ho (S9.own (gr, rulO g r) (by repeat (first | exact List.mem_cons_self | apply List.mem_cons_of_mem))).2 (hL9 (gr, rulO g r) (by repeat (first | exact List.mem_cons_self | apply List.mem_cons_of_mem))) hgrl hst hal2) (fun w9 x new hR hG9 hB9 => ?_) ZZMK; obtain ⟨q9, rfl, rfl⟩ := hR; simp only [svV]; have hBW9 : Below w.heap.size w w9 := hBW6.trans hB9) | refine XL.store tok 9 (g := g4) (o := 0) (cs := [.int .i64 0, .int .i64 0, .slice none 0 0, .slice none 0 0]) rfl rfl rfl rfl (.inr rfl) rfl rfl rfl ?_ | refine XL.store_at tok 8 (g := g5) (o := 0) (j := 0) (cs := [.int .i64 0]) rfl rfl rfl rfl rfl (Nat.le_of_ble_eq_true rfl) rfl ?_) | (refine M1 ?_; refine SC ?_) | (refine M2 ?_; first | refine SE ?_ | ((with_reducible refine atHeld ?_); refine z7 ?_)) | (refine M3 ?_; first | refine SG ?_ | refine SF ?_ | refine YF (Ev.load_loc_agg tok 0 (g := g14) (o := 0) rfl rfl rfl rfl) ?_ | refine YF (Ev.load_loc tok 1 (g := g10) (o := 0) rfl rfl rfl rfl) ?_ | refine YF (Ev.load_loc tok 2 (g := g6) (o := 0) rfl rfl rfl rfl) ?_) | (refine M4 ?_; refine SR ?_) | (refine M5 ?_; first | exact M7 | refine YM ?_ | refine YN ?_ ?_)))
        any_goals (repeat (first | exact AnyR.nil | refine AnyR.skip rfl ?_))
        all_goals
          refine XE.onlyN ?_
          repeat (first | (refine M0 ?_; first | refine SL ?_ | refine SB fun _ _ => ?_) | (refine XI.id ?_; first | refine XI.done ?_ | refine XI.one1 rfl ?_) | (refine XR'.id ?_; first | refine XR'.seq ?_ | refine XR'.region ?_ | refine XR'.block ?_ | refine XR'.skip ?_ | refine XR'.ret ?_ | refine XR'.cond_t rfl ?_ | refine XR'.cond_f rfl ?_ | refine XR'.exit ?_) | (refine M1 ?_; first | refine SC ?_ | refine SD ?_) | (refine M2 ?_; first | refine XE.nextI ?_ | refine XE.nextR ?_ | refine SE ?_))
          refine XE.endRet (i := 2) rfl rfl (fun w' S => ?_)
          refine ⟨_, rfl, .inr ⟨rfl, (w', q, some ([.int .i64 (t.plan (i : Nat)).close, .int .i64 (t.plan (i : Nat)).open_, .slice q9.A q9.n q9.c, .slice q.A q.n q.c], 0)), ⟨_, _, q9, q, rfl, hBW9.trans S.toBelow, by rw [d2]; rfl, by rw [d1]; rfl, ?_⟩, S.rebase ZZSM⟩⟩
          rw [d2]
          exact Fam.add (ks' := [D + 1, D, g10, g6, gr, g, g5, g4, g3, g2]) (hG9.on (ks := [D + 1, D, g10, g6, gr, g, g5, g4, g3, g2]) S (by repeat (first | exact List.mem_cons_self | apply List.mem_cons_of_mem)) ZZMK ZZSB (by simp) (fun x hx => hx)).fam (fun x hx => .inl (.tail _ hx))
  refine hbg.mono fun e w4 ⟨v4, e4, hz⟩ => ⟨v4, e4, ?_⟩
  rcases hz with ⟨⟨W, q, s⟩, ⟨rfl, hGW, hBW, hall⟩, S4⟩ | ⟨⟨W, q, s⟩, ⟨cs, e, q1, q2, rfl, hBW, rfl, rfl, hF⟩, S4⟩
  · refine ⟨.ready, none, _, W, by decide, S4, ?_⟩
    dsimp only [RFEnd]
    have hlo : t.lastOk = none := lastB_none.2 fun j hj => by
      have := hall j (Nat.zero_le _) hj
      cases hx : t.wit (j : Nat) with
      | none => exact absurd hx this
      | some y => rfl
    obtain ⟨d1, d2⟩ := dec_none hc hcl hlo
    repeat (first | (refine M0 ?_; first | refine SL ?_ | refine SB fun _ _ => ?_) | (refine M1 ?_; refine SC ?_) | (refine M2 ?_; refine SE ?_))
    refine XE.retM (i := 1) tok Tryz.results14 rfl rfl rfl (by simp only [and_self, and_true]) (fun w' S => ?_)
    exact decZ d1 d2 (hBW.trans S.toBelow)
  · refine ⟨.done, some .ret, _, W, by decide, S4, ?_⟩
    dsimp only [RFEnd]
    refine XE.blk_ret (XE.then_ret ?_)
    refine XE.retM (i := 1) tok Tryz.results14 rfl rfl rfl (by simp only [and_self, and_true]) (fun w' S => ?_)
    refine ⟨_, _, rfl, ⟨q1, q2, rfl, rfl⟩, fun x hx => ?_, hBW.trans S.toBelow⟩
    exact (hF.sys S ZZMK).get hx
end Go.Proofs.YtmpaiphakjogjaaGreat.X
/-
  The walks of the example's Task, Rules and of Awake (closure).
-/
namespace Go.Proofs.YtmpaiphakjogjaaGreat.X
open Go Go.RowKit Go.Proofs.YtmpaiphakjogjaaGreat.Bs
set_option linter.unusedVariables false
/-- a task in blocks of ok. -/
structure CtAtP (w : World) (ok : Nat → Prop) (v : CTV) (t : CTk) : Prop where
  bas : BasAtP w ok v.p t.b
  fil : IntsAt w ok v.f t.fil
  his : ∃ es : List (SV × His), ListAt hisK w ok v.h es ∧ es.map (·.2) = t.his
  river : IntsAt w ok v.r t.river
  cap : v.h.n ≤ v.h.c
theorem CtAtP.keep {w w' : World} {ok : Nat → Prop} {v : CTV} {t : CTk} (h : CtAtP w ok v t) (hk : ∀ k, ok k → w'.heap[k]? = w.heap[k]?) : CtAtP w' ok v t := by
  obtain ⟨es, h1, h2⟩ := h.his
  exact ⟨h.bas.keep hk, h.fil.keep hk, ⟨es, h1.keep hk, h2⟩, h.river.keep hk, h.cap⟩
theorem CtAtP.mono {w : World} {ok ok' : Nat → Prop} {v : CTV} {t : CTk} (h : CtAtP w ok v t) (hk : ∀ k, ok k → ok' k) : CtAtP w ok' v t := by
  obtain ⟨es, h1, h2⟩ := h.his
  exact ⟨h.bas.mono hk, h.fil.mono hk, ⟨es, h1.mono hk, h2⟩, h.river.mono hk, h.cap⟩
theorem CtAtP.to {w : World} {ok : Nat → Prop} {v : CTV} {t : CTk} {B : Nat} (h : CtAtP w ok v t) (hk : ∀ k, ok k → k < B) : CtAt w B v t := by
  obtain ⟨es, h1, h2⟩ := h.his
  exact ⟨(h.bas.mono hk).to, h.fil.mono hk, ⟨es, h1.mono hk, h2⟩, h.river.mono hk, h.cap⟩
def hCt (v : CTV) (t : CTk) : Held := ⟨fun w ok => CtAtP w ok v t, CtAtP.keep, CtAtP.mono⟩
def hBas5 (p : BV) (b : Bas) : Held := ⟨fun w ok => BasAtP w ok p b, BasAtP.keep, BasAtP.mono⟩
def Tsk5V (x : Value) (new : List Held) : Prop := ∃ v : CTV, x = ctkV v cxT ∧ new = [hCt v cxT]
def Bas5V (v : Value) (new : List Held) : Prop := ∃ p : BV, v = basV p exB ∧ new = [hBas5 p exB]
theorem Basin5_made (w : World) : Calls Tryz.prog 72 #[] w (Made w Bas5V) := (Basin_any w).mono fun e w' ⟨v, h1, ⟨p, h2, h3⟩, h4⟩ =>
  ⟨v, _, h1, ⟨p, h2, rfl⟩, fun x hx => by rw [List.mem_singleton] at hx; subst hx; exact h3, h4⟩
theorem task5_end {w W w' : World} {B : Nat} {L : Lo} {A A2 : Option Addr} {n c n2 c2 ga gb gh gr : Nat} (hbas : BasAtP w' (Btw w.heap.size w'.heap.size) ⟨A, n, c, A2, n2, c2⟩ exB) (S : Sys B W L w') (hB : Below w.heap.size w w')
    (h3 : (gh, cel 133 [.int .i64 10, .slice (some ⟨ga, 0, none⟩) 6 6, .int .i64 10, .slice (some ⟨gb, 0, none⟩) 6 6]) ∈ L) (h4 : (gr, cel 3 [.int .i64 60000, .int .i64 60000, .int .i64 60000, .int .i64 60000, .int .i64 60000, .int .i64 60000]) ∈ L)
    (h1 : (ga, cel 3 [.int .i64 0, .int .i64 500, .int .i64 1500, .int .i64 2500, .int .i64 1500, .int .i64 500]) ∈ L) (h2 : (gb, cel 3 (ints (List.replicate 6 0))) ∈ L)
    (b1 : w.heap.size ≤ ga) (b2 : w.heap.size ≤ gb) (b3 : w.heap.size ≤ gh) (b4 : w.heap.size ≤ gr) :
    Made w Tsk5V (.returned (.agg ⟨[.slice A n c, .int .i64 100, .int .i64 3000, .int .i64 500, .slice none 0 0, .slice none 0 0, .slice (some ⟨gh, 0, none⟩) 2 2, .slice (some ⟨gr, 0, none⟩) 6 6, .int .i64 0, .int .i64 800, .int .i64 1]⟩)) w' := by
  refine ⟨_, _, rfl, ⟨⟨⟨A, n, c, none, 0, 0⟩, ⟨none, 0, 0⟩, ⟨some ⟨gh, 0, none⟩, 2, 2⟩, ⟨some ⟨gr, 0, none⟩, 6, 6⟩⟩, rfl, rfl⟩, fun x hx => ?_, hB⟩
  rw [List.mem_singleton.1 hx]
  have k1 : IntsAt w' (Btw w.heap.size w'.heap.size) ⟨some ⟨ga, 0, none⟩, 6, 6⟩ [0, 500, 1500, 2500, 1500, 500] := ⟨ReadsP.block (S.own _ h1).2 b1 rfl, by simp⟩
  have k2 : IntsAt w' (Btw w.heap.size w'.heap.size) ⟨some ⟨gb, 0, none⟩, 6, 6⟩ [0, 0, 0, 0, 0, 0] := ⟨ReadsP.block (S.own _ h2).2 b2 rfl, by simp⟩
  have k4 : IntsAt w' (Btw w.heap.size w'.heap.size) ⟨some ⟨gr, 0, none⟩, 6, 6⟩ [60000, 60000, 60000, 60000, 60000, 60000] := ⟨ReadsP.block (S.own _ h4).2 b4 rfl, by simp⟩
  refine ⟨⟨hbas.rows, ReadsP.nil, hbas.cap, hbas.len, by simp, fun d hd => by cases hd⟩, ⟨ReadsP.nil, by simp⟩, ⟨[(⟨some ⟨ga, 0, none⟩, 6, 6⟩, ⟨10, [0, 500, 1500, 2500, 1500, 500]⟩), (⟨some ⟨gb, 0, none⟩, 6, 6⟩, ⟨10, [0, 0, 0, 0, 0, 0]⟩)], ⟨ReadsP.block (S.own _ h3).2 b3 rfl, by simp, fun a ha x hx => ?_⟩, rfl⟩, k4, by simp⟩
  simp only [List.mem_cons, List.not_mem_nil, or_false] at ha
  rcases ha with rfl | rfl
  · rw [List.mem_singleton.1 hx]; exact k1
  · rw [List.mem_singleton.1 hx]; exact k2
theorem ser_el5 : elemOk Tryz.prog 26 3 1 8 = true := by kernel_rfl
set_option maxHeartbeats 4000000 in
theorem Task5_made (w : World) : Calls Tryz.prog 28 #[] w (Made w Tsk5V) := by
  refine enter Tryz.func28 rfl Tryz.ntmps28 rfl ?_; simp only [frame, Nat.zero_add, Nat.reduceAdd]
  repeat (first | (refine M0 ?_; first | refine SL ?_ | refine SB fun _ _ => ?_) | (refine M1 ?_; refine SC ?_) | (refine M2 ?_; refine SE ?_))
  rename_i g0 hg0
  refine XL.callF (ks := []) (rs := []) (hs := []) (b0 := w.heap.size) (wE := w) Bas5V (ck rfl) rfl rfl (Fam.start (Nat.le_refl w.heap.size)) (fun _ h => by cases h) (Below.refl w.heap.size w) (fun w1 S1 _ _ => Basin5_made w1) (fun w2 x new hR hF2 hB2 hk2 => ?_) ZZHL
  obtain ⟨⟨A, n, c, A2, n2, c2⟩, rfl, rfl⟩ := hR
  simp only [basV, basC]
  repeat (first | (refine M0 ?_; first | refine SL ?_ | refine SB fun _ _ => ?_) | (refine M1 ?_; refine SC ?_) | (refine M2 ?_; refine SE ?_))
  rename_i g1 hg1
  have hz2 := hB2.size
  have l0 : g0 < w2.heap.size := hk2 g0 (by simp)
  have hle : w.heap.size ≤ w.heap.size := Nat.le_refl _
  refine XC.drawRS (trunc w w.heap.size) [(g1, cel 25 [.slice A n c, .int .i64 100, .int .i64 3000, .int .i64 500, .slice none 0 0])] [0] [1, 2, 3, 4, 5, 6, 7, 8] mixed (fun _ h => Sys.anchorT hB2 h (fun e he => by rw [List.mem_singleton.1 he]; exact .head _) (by simp) hle) rfl (by kernel_rfl) ?_
  repeat (any_goals (first | (refine M0 ?_; first | refine SL ?_ | refine SB fun _ _ => ?_ | refine Y4 (Ev.load_loc_agg tok 0 (g := g1) (o := 0) rfl rfl rfl rfl) ?_ | refine XL.buildSlice tok rfl rfl rfl rfl rfl rfl rfl rfl rfl (fun _ _ => ?_) | refine XL.makeInts (n := 6) ser_el5 (by kernel_rfl) rfl rfl rfl (by omega) (fun _ _ => ?_)) | (refine M1 ?_; refine SC ?_) | (refine M2 ?_; first | refine SE ?_ | ((with_reducible refine atHeld ?_); refine z7 ?_)) | (refine M3 ?_; first | refine SG ?_ | refine SF ?_ | refine YF (Ev.load_loc_agg tok 0 (g := g1) (o := 0) rfl rfl rfl rfl) ?_) | (refine M4 ?_; refine SR ?_) | (refine M5 ?_; first | exact M7 | refine YM ?_ | refine YN ?_ ?_)))
  any_goals (repeat (first | exact AnyR.nil | refine AnyR.skip rfl ?_))
  all_goals
    refine XE.retg tok Tryz.results28 rfl (by simp only [and_self, and_true]) (fun w' S => ?_)
    apply task5_end (A2 := A2) (n2 := n2) (c2 := c2) (S := S) (hB := hB2.trans S.toBelow)
    case h3 => repeat (first | exact List.mem_cons_self | apply List.mem_cons_of_mem)
    case h4 => repeat (first | exact List.mem_cons_self | apply List.mem_cons_of_mem)
    case h1 => repeat (first | exact List.mem_cons_self | apply List.mem_cons_of_mem)
    case h2 => repeat (first | exact List.mem_cons_self | apply List.mem_cons_of_mem)
    case b1 => omega
    case b2 => omega
    case b3 => omega
    case b4 => omega
    case hbas => exact (hF2.sys S (by intro e he; repeat (first | (cases he; done) | (rcases List.mem_cons.1 he with rfl | he; · first | (left; simp; done) | (right; assumption))))).get (x := hBas5 ⟨A, n, c, A2, n2, c2⟩ exB) (.head _)
set_option maxHeartbeats 4000000 in
theorem Rules5_any (w : World) : Calls Tryz.prog 29 #[] w fun e w' => e = .returned (ruV cxR) ∧ Below w.heap.size w w' := by
  refine enter Tryz.func29 rfl Tryz.ntmps29 rfl ?_; simp only [frame, Nat.zero_add, Nat.reduceAdd]
  repeat (first | (refine M0 ?_; first | refine SL ?_ | refine SB fun _ _ => ?_) | (refine M1 ?_; refine SC ?_) | (refine M2 ?_; refine SE ?_))
  refine XE.retg tok Tryz.results29 rfl (by simp only [and_self, and_true]) (fun w' S => ?_)
  exact ⟨rfl, S.toBelow⟩
end Go.Proofs.YtmpaiphakjogjaaGreat.X
/-
  The walk of Awake (closure).
-/
namespace Go.Proofs.YtmpaiphakjogjaaGreat.X
open Go Go.RowKit Go.Proofs.YtmpaiphakjogjaaGreat.Bs
set_option linter.unusedVariables false
theorem Fam.ct {W : World} {b0 : Nat} {ks : List Nat} {rs : List RowX} {hs : List Held} {v : CTV} {t : CTk} (h : Fam W b0 ks rs hs) (hm : hCt v t ∈ hs) : CtAt W W.heap.size v t := CtAtP.to (h.get hm) fun k hk => hk.2
set_option maxHeartbeats 4000000 in
theorem Awake5_any {w : World} : Calls Tryz.prog 9 #[] w fun e w' => e = .returned (.bool true) ∧ Below w.heap.size w w' := by
  obtain ⟨d1, d2, d3⟩ := cx_dec
  refine enter Tryz.func9 rfl Tryz.ntmps9 rfl ?_; simp only [frame, Nat.zero_add, Nat.reduceAdd]
  repeat (first | (refine M0 ?_; first | refine SL ?_ | refine SB fun _ _ => ?_) | (refine M1 ?_; refine SC ?_) | (refine M2 ?_; refine SE ?_))
  refine XL.callF (ks := []) (rs := []) (hs := []) (b0 := w.heap.size) (wE := w) Tsk5V (ck rfl) rfl rfl (Fam.start (Nat.le_refl w.heap.size)) (fun _ h => by cases h) (Below.refl w.heap.size w) (fun w1 S1 _ _ => Task5_made w1) (fun w1 x new hR hF1 hB1 hk1 => ?_) ZZHL
  obtain ⟨v1, rfl, rfl⟩ := hR
  repeat (first | (refine M0 ?_; first | refine SL ?_ | refine SB fun _ _ => ?_ | refine Y4 (Ev.call (f := 10) (ck rfl) rfl (fun w5 S5 => Last_any (t := cxT) (v := v1) (h0 := 0) ((hF1.sys S5 ZZHL).ct (.head _)))) ?_) | (refine M1 ?_; refine SC ?_) | (refine M2 ?_; refine SE ?_))
  rw [cx_las.1, cx_las.2]
  repeat (first | (refine M0 ?_; first | refine SL ?_ | refine SB fun _ _ => ?_) | (refine M1 ?_; refine SC ?_) | (refine M2 ?_; refine SE ?_))
  refine XL.callF (wE := w) Tsk5V (ck rfl) rfl rfl hF1 hk1 hB1 (fun w1 S1 _ _ => Task5_made w1) (fun w2 x new hR hF2 hB2 hk2 => ?_) ZZHL
  obtain ⟨v2, rfl, rfl⟩ := hR
  repeat (first | (refine M0 ?_; first | refine SL ?_ | refine SB fun _ _ => ?_ | refine Y4 (Ev.call (f := 29) (ck rfl) rfl (fun w5 S5 => Rules5_any w5)) ?_) | (refine M1 ?_; refine SC ?_) | (refine M2 ?_; refine SE ?_))
  refine XL.callF (wE := w) (DecR cxT cxR) (ck rfl) rfl rfl hF2 hk2 hB2 (fun w1 S1 hFx _ => Decide_made (t := cxT) (v := v2) (r := cxR) (hFx.ct (.head _))) (fun w3 x new hR hF3 hB3 hk3 => ?_) ZZHL
  obtain ⟨q1, q2, rfl, rfl⟩ := hR
  have hl2 : ListAt wtnK5 w3 (Free w3 w.heap.size _ []) q2 (cxT.decD cxR).later := hF3.held (hList wtnK5 q2 (cxT.decD cxR).later) (.tail _ (.head _))
  have hq2 := hl2.len (by decide)
  rw [d3] at hq2
  obtain ⟨A2, n2, c2⟩ := q2
  simp only at hq2
  subst hq2
  simp only [decV, decC, d1, d2, svV]
  repeat (first | (refine M0 ?_; first | refine SL ?_ | refine SB fun _ _ => ?_) | (refine M1 ?_; refine SC ?_) | (refine M2 ?_; refine SE ?_))
  rename_i g3 hg3
  refine XL.callF (wE := w) Tsk5V (ck rfl) rfl rfl hF3 hk3 hB3 (fun w1 S1 _ _ => Task5_made w1) (fun w4 x new hR hF4 hB4 hk4 => ?_) ZZHL
  obtain ⟨v4, rfl, rfl⟩ := hR
  have hla := fun (w5 : World) (h5 : CtAt w5 w5.heap.size v4 cxT) => Last_any (t := cxT) (v := v4) (h0 := 2) h5
  obtain ⟨z, hz⟩ : ∃ z, z = cxT.lasN 2 := ⟨_, rfl⟩
  rw [cx_las2, ← hz] at hla
  repeat (first | (refine M0 ?_; first | refine SL ?_ | refine SB fun _ _ => ?_ | refine Y4 (Ev.call (f := 10) (ck rfl) rfl (fun w5 S5 => hla w5 ((hF4.sys S5 ZZHL).ct (.head _)))) ?_) | (refine M1 ?_; refine SC ?_) | (refine M2 ?_; refine SE ?_))
  repeat (first | (refine M0 ?_; first | refine SL ?_ | refine SB fun _ _ => ?_ | refine Y4 (Ev.plnEql rfl rfl) ?_) | (refine M1 ?_; first | refine SC ?_ | refine SD ?_) | (refine M2 ?_; refine SE ?_) | (refine M3 ?_; first | refine SG ?_ | refine SF ?_ | refine YF (Ev.plnEql rfl rfl) ?_) | (refine M4 ?_; refine SR ?_) | (refine M5 ?_; first | exact M7 | refine YM ?_ | refine YN ?_ ?_))
  refine XE.retg tok Tryz.results9 rfl (by simp only [and_self, and_true]) (fun w' S => ?_)
  exact ⟨rfl, hB4.trans S.toBelow⟩
end Go.Proofs.YtmpaiphakjogjaaGreat.X
/-
  The walk of Best (closure). DRAFT: stands where the range over begins starts.
-/
namespace Go.Proofs.YtmpaiphakjogjaaGreat.Bs
open Go Go.Proofs.YtmpaiphakjogjaaGreat.X
theorem bst_ru {t : CTk} {r : CRu} (h : ruE t r ≠ 0) : t.bstE r = ruE t r ∧ t.bstP r = ⟨0, 0⟩ ∧ t.bstN r = [] := by
  unfold CTk.bstE CTk.bstP CTk.bstN
  rw [if_pos h, if_pos h, if_pos h]
  exact ⟨rfl, rfl, rfl⟩
theorem bst_0 {t : CTk} {r : CRu} (h : ruE t r = 0) (hc : t.called r = false) : t.bstE r = 0 ∧ t.bstP r = nev ∧ t.bstN r = t.fld.map fun k => ((k : Nat) : Int) := by
  unfold CTk.bstE CTk.bstP CTk.bstN
  rw [if_neg (by simp [h]), if_pos hc, if_neg (by simp [h]), if_pos hc, if_neg (by simp [h]), if_pos hc]
  exact ⟨rfl, rfl, rfl⟩
/-- those of the first k histories for which the plan from i does not hold. -/
noncomputable def CTk.notTo (t : CTk) (i k : Nat) : List Int := ((List.range k).filter fun k => (t.fails k (t.plan (i : Nat))).isSome).map fun k => ((k : Nat) : Int)
theorem notTo_keep {t : CTk} {i k : Nat} (h : t.fails k (t.plan (i : Nat)) = none) : t.notTo i (k + 1) = t.notTo i k := by
  unfold CTk.notTo
  rw [List.range_succ, List.filter_append]
  simp [h]
theorem notTo_push {t : CTk} {i k a : Nat} (h : t.fails k (t.plan (i : Nat)) = some a) : t.notTo i (k + 1) = t.notTo i k ++ [((k : Nat) : Int)] := by
  unfold CTk.notTo
  rw [List.range_succ, List.filter_append]
  simp [h]
theorem notTo_len (t : CTk) (i k : Nat) : (t.notTo i k).length ≤ k := by
  unfold CTk.notTo
  rw [List.length_map]
  exact Nat.le_trans (List.length_filter_le _ _) (by simp)
theorem notTo_all (t : CTk) (i : Nat) : t.notTo i t.m = (t.notL (i : Nat)).map fun k => ((k : Nat) : Int) := rfl
end Go.Proofs.YtmpaiphakjogjaaGreat.Bs
namespace Go.Proofs.YtmpaiphakjogjaaGreat.X
open Go Go.RowKit Go.Proofs.YtmpaiphakjogjaaGreat.Bs
set_option linter.unusedVariables false
theorem XE.blk_exit {N B : Nat} {w0 : World} {ds : List Deferred} {Q : Exit → Act → World → Prop} {F : Fr} {L : Lo} {id : Nat} (h : XE N B w0 ds Q .normal F L) : XE N B w0 ds (Exit.inBlock id Q) (.exit id) F L := ⟨fun a w hf hs => by unfold Exit.inBlock; simp only [if_true]; exact h.run a w hf hs⟩
noncomputable def bstHs (t : CTk) (b : Option (Nat × SV)) : List Held := match b with | none => [] | some x => [hList intK5 x.2 ((t.notL (x.1 : Nat)).map fun k => ((k : Nat) : Int))]
def bstQ (b : Option (Nat × SV)) : Value := match b with | none => .slice none 0 0 | some x => svV x.2
def bstC (t : CTk) (b : Option (Nat × SV)) : List Value := match b with | none => [.int .i64 0, .int .i64 0] | some x => [.int .i64 (t.plan (x.1 : Nat)).close, .int .i64 (t.plan (x.1 : Nat)).open_]
def BstR (t : CTk) (r : CRu) (x : Value) (new : List Held) : Prop := ∃ q : SV, x = .tuple ⟨[plnV (t.bstP r), svV q, .int .i64 (t.bstE r)]⟩ ∧ new = [hList intK5 q (t.bstN r)]
theorem bstZ {t : CTk} {r : CRu} {e : Int} (h1 : t.bstE r = e) (h2 : t.bstP r = ⟨0, 0⟩) (h3 : t.bstN r = []) {w w' : World} (hB : Below w.heap.size w w') :
    Made w (BstR t r) (.returned (.tuple ⟨[.agg ⟨[.int .i64 0, .int .i64 0]⟩, .slice none 0 0, .int .i64 e]⟩)) w' := by
  refine ⟨_, _, rfl, ⟨⟨none, 0, 0⟩, by rw [h1, h2]; rfl, rfl⟩, fun x hx => ?_, hB⟩
  rw [h3, List.mem_singleton] at hx
  subst hx
  exact ListAt.nil
set_option maxHeartbeats 16000000 in
theorem Best_made {v : CTV} {t : CTk} {r : CRu} {w : World} (h : CtAt w w.heap.size v t) :
    Calls Tryz.prog 17 #[ctkV v t, ruV r] w (Made w (BstR t r)) := by
  simp only [ctkV, ctkC, ruV]
  refine enterM Tryz.func17 rfl Tryz.ntmps17 rfl ?_; simp only [frame, Nat.zero_add, Nat.reduceAdd]
  repeat (first | (refine M0 ?_; first | refine SL ?_ | refine SB fun _ _ => ?_) | (refine M1 ?_; refine SC ?_) | (refine M2 ?_; refine SE ?_))
  rename_i g2 hg2 g3 hg3 g4 hg4 g5 hg5
  refine XL.with5 (v := v) (t := t) (r := r) h rfl rfl (fun hc w1 hB1 => ?_) (fun hc ho hq w1 gr g gm hG1 hB1 hgl hgrl => ?_)
  · obtain ⟨d1, d2, d3⟩ := bst_ru hc
    repeat (first | (refine M0 ?_; first | refine SL ?_ | refine SB fun _ _ => ?_) | (refine M1 ?_; refine SC ?_) | (refine M2 ?_; refine SE ?_))
    rw [show decide (ruE t r ≠ 0) = true from decide_eq_true hc]
    repeat (first | (refine M0 ?_; first | refine SL ?_ | refine SB fun _ _ => ?_) | (refine M1 ?_; refine SC ?_) | (refine M2 ?_; refine SE ?_))
    refine XE.retM0 tok Tryz.results17 rfl (by simp only [and_self, and_true]) (fun w' S => ?_)
    exact bstZ d1 d2 d3 (hB1.trans S.toBelow)
  have hal := fun {L : Lo} {W : World} (hGW : CtAt W w.heap.size v t) (w5 : World) (S5 : Sys w.heap.size W L w5) (m1 : (gr, rulO g r) ∈ L) (m2 : (g, gamO v t gm) ∈ L) => allowed_any (r := r) ((hGW.below S5.toBelow).more (Nat.le_trans S5.base S5.size)) ho hq (S5.own _ m1).2 (S5.own _ m2).2
  have hgs1 : g ∈ gr :: g :: [(g5, cel 26 [.slice none 0 0]), (g4, cel 42 [.int .i64 0, .int .i64 0]), (g3, cel 31 [.int .i64 r.count, .int .i64 r.early]), (g2, cel 29 (ctkC v t))].map (·.1) := .tail _ (.head _)
  have h60 := ho.n60
  have hdl := ho.dly
  have hfr := ho.frm
  have hm8 := ho.m8
  simp only [gamO, gamC, rulO, rulC]
  repeat (first | (refine M0 ?_; first | refine SL ?_ | refine SB fun _ _ => ?_) | (refine M1 ?_; refine SC ?_) | (refine M2 ?_; refine SE ?_))
  rename_i g7 hg7
  have hle : w.heap.size ≤ w.heap.size := Nat.le_refl _
  have hz1 := hB1.size
  repeat (first | (refine M0 ?_; first | refine SL ?_ | refine SB fun _ _ => ?_ | refine Y4 (Ev.call (f := 45) (ck rfl) rfl (fun w5 S5 => hal hG1.task w5 S5 (.tail _ (.head _)) (.tail _ (.tail _ (.head _))))) ?_) | (refine M1 ?_; refine SC ?_) | (refine M2 ?_; refine SE ?_))
  cases hcl : t.called r with
  | false =>
    obtain ⟨d1, d2, d3⟩ := bst_0 hc hcl
    repeat (first | (refine M0 ?_; first | refine SL ?_ | refine SB fun _ _ => ?_) | (refine M1 ?_; refine SC ?_) | (refine M2 ?_; refine SE ?_))
    refine XL.callF (wE := w) (fun x new => ∃ q : SV, x = .tuple ⟨[svV q, .int .i64 (t.lst : Nat)]⟩ ∧ new = [hList intK5 q (t.fld.map fun k => ((k : Nat) : Int))]) (ck rfl) rfl rfl hG1.fam hG1.lt hB1 (fun w5 S5 hF5 hB5 => highs_any (v := v) (r := r) (h.sys (Sys.ofBelow hB5)) ho (S5.own (gr, rulO g r) (by repeat (first | exact List.mem_cons_self | apply List.mem_cons_of_mem))).2 (S5.own (g, gamO v t gm) (by repeat (first | exact List.mem_cons_self | apply List.mem_cons_of_mem))).2) (fun w5 x new hR hF5 hB5 hk5 => ?_) ZZMK
    obtain ⟨⟨qA, qn, qc⟩, rfl, rfl⟩ := hR
    simp only [svV]
    repeat (first | (refine M0 ?_; first | refine SL ?_ | refine SB fun _ _ => ?_ | refine Y4 (Ev.call (f := 46) (ck rfl) rfl (fun w S => nev_any w)) ?_) | (refine M1 ?_; refine SC ?_) | (refine M2 ?_; refine SE ?_))
    refine XE.retM0 tok Tryz.results17 rfl (by simp only [and_self, and_true]) (fun w' S => ?_)
    refine ⟨_, _, rfl, ⟨⟨qA, qn, qc⟩, by rw [d1, d2]; rfl, rfl⟩, fun x hx => ?_, hB5.trans S.toBelow⟩
    rw [d3, List.mem_singleton] at hx
    subst hx
    exact (hF5.sys S ZZMK).get (.head _)
  | true =>
  repeat (first | (refine M0 ?_; first | refine SL ?_ | refine SB fun _ _ => ?_ | refine Y4 (Ev.load_loc tok 2 (g := gr) (o := 0) rfl rfl rfl rfl) ?_) | (refine M1 ?_; refine SC ?_) | (refine M2 ?_; refine SE ?_))
  rename_i g12 hg12
  refine XL.callr (fst := []) (cap := []) (fun w1 x w2 => ∃ gp, x = .func (.func 73) #[] #[.pointer (some ⟨gp, 0, none⟩)] ∧ Sys w1.heap.size w1 [(gp, cel 74 [.pointer (some ⟨g, 0, none⟩)])] w2) (ck rfl) rfl rfl rfl (fun w1 S1 => begs0_any) (fun wX x w2 S1 hR => ?_)
  obtain ⟨gp, rfl, S2⟩ := hR
  refine ⟨_, w2, (S1.join S2 (List.Sublist.refl _)).rebase (List.sublist_cons_self _ _), ?_⟩
  have hB2 : Below w.heap.size w w2 := hB1.trans (S1.toBelow.trans (S2.toBelow.mono (Nat.le_trans S1.base S1.size)))
  have hgpL : ∀ x, x ∈ [g12, g7, gr, g, g5, g4, g3, g2] → x < gp := fun x hx => Nat.lt_of_lt_of_le (S1.keyLt x hx) (S2.own _ (.head _)).1
  have hgpc : w2.cell? ⟨gp, 0, none⟩ = some (.pointer (some ⟨g, 0, none⟩)) := by
    have := (S2.own _ (.head _)).2
    simp [World.cell?, this]
  have hgpl : gp < w2.heap.size := S2.lt (.head _)
  have hG2 : Gam t v w.heap.size g gm [g12, g7, gr, g, g5, g4, g3, g2] [] [] w2 := by
    have h1 := (hG1.add S1 (by repeat (first | exact List.mem_cons_self | apply List.mem_cons_of_mem)) ZZMK).made (new := []) S2.toBelow (fun x hx => by cases hx)
    exact h1.less (fun x hx => List.mem_append_left _ hx) (by simp)
  clear S1 S2
  repeat (first | (refine M0 ?_; first | refine SL ?_ | refine SB fun _ _ => ?_) | (refine M1 ?_; refine SC ?_) | (refine M2 ?_; refine SE ?_))
  refine XC.rangeFuncD (cap := [.pointer (some ⟨gp, 0, none⟩)]) rfl (ck rfl) (fun fn a D w3 hD hf S3 => ?_)
  have hfS : Fits 101 [] [(12, .pointer (some ⟨g12, 0, none⟩)), (7, .pointer (some ⟨g7, 0, none⟩)), (5, .pointer (some ⟨g5, 0, none⟩)), (4, .pointer (some ⟨g4, 0, none⟩))] { tmps := a.tmps, defers := [] } := by
    have h4 := Sub.fits (G := [(12, .pointer (some ⟨g12, 0, none⟩)), (7, .pointer (some ⟨g7, 0, none⟩)), (5, .pointer (some ⟨g5, 0, none⟩)), (4, .pointer (some ⟨g4, 0, none⟩))]) ZZSUB hf
    exact ⟨h4.size, rfl, h4.get⟩
  have hG3 : Gam t v w.heap.size g gm [D + 1, D, g12, g7, gr, g, g5, g4, g3, g2] [] [] w3 := by
    have h1 := hG2.add S3 (by repeat (first | exact List.mem_cons_self | apply List.mem_cons_of_mem)) (fun e he => by
      have h5 : e.1 ∈ [D + 1, D, g12, g7, gr, g, g5, g4, g3, g2] := List.mem_map.2 ⟨e, he, rfl⟩
      rcases List.mem_cons.1 h5 with h5 | h5
      · right; omega
      rcases List.mem_cons.1 h5 with h5 | h5
      · right; omega
      · left; exact h5)
    exact h1.less (fun x hx => List.mem_append_left _ hx) (by simp)
  have hB3 : Below w.heap.size w w3 := hB2.trans S3.toBelow
  have hbg := begs_any (B := w.heap.size) (l := D + 1) (gp := gp) (g := g) (gm := gm) (v := v) (t := t) (σ := World × Option (Nat × SV) × Bool)
    (fun s => [(D + 1, .loop (recO fn a.tmps #[45] _ _ D (match s.2.2 with | false => .ready | true => .done) (match s.2.2 with | false => none | true => some (.exit 0)))), (D, .deferred (some [])), (g12, cel 4 [.bool s.2.1.isSome]), (g7, cel 89 [.pointer (some ⟨gr, 0, none⟩)]), (gr, rulO g r), (g, gamO v t gm), (g5, cel 26 [bstQ s.2.1]), (g4, cel 42 (bstC t s.2.1)), (g3, cel 31 [.int .i64 r.count, .int .i64 r.early]), (g2, cel 29 (ctkC v t))])
    (fun s => s.1)
    (fun i s => s.2.2 = false ∧ Gam t v w.heap.size g gm [D + 1, D, g12, g7, gr, g, g5, g4, g3, g2] [] (bstHs t s.2.1) s.1 ∧ Below w.heap.size w s.1 ∧ BInv t r i (s.2.1.map (·.1)))
    (fun s => s.2.2 = true ∧ Below w.heap.size w s.1 ∧ t.bst r = s.2.1.map (·.1) ∧ Fam s.1 w.heap.size [D + 1, D, g12, g7, gr, g, g5, g4, g3, g2] [] (bstHs t s.2.1))
    (w3, none, false) ho (S3.rebase (List.Sublist.refl _)) ⟨rfl, hG3, hB3, BInv.start t r⟩ ?_ ?_ ?_ ?_ ?_
  rotate_left
  · have h := S3.farCell (a := ⟨gp, 0, none⟩) hgpl (fun e he => by
      have h5 : e.1 ∈ [D + 1, D, g12, g7, gr, g, g5, g4, g3, g2] := List.mem_map.2 ⟨e, he, rfl⟩
      show e.1 ≠ gp
      rcases List.mem_cons.1 h5 with h5 | h5
      · omega
      rcases List.mem_cons.1 h5 with h5 | h5
      · omega
      · have := hgpL e.1 h5; omega)
    exact h.trans hgpc
  · exact Nat.lt_of_lt_of_le hgpl S3.size
  · intro e he
    have h5 : e.1 ∈ [D + 1, D, g12, g7, gr, g, g5, g4, g3, g2] := List.mem_map.2 ⟨e, he, rfl⟩
    rcases List.mem_cons.1 h5 with h5 | h5
    · omega
    rcases List.mem_cons.1 h5 with h5 | h5
    · omega
    · have := hgpL e.1 h5; omega
  · repeat (first | exact List.mem_cons_self | apply List.mem_cons_of_mem)
  · rintro i ⟨W, b, s⟩ hi ⟨rfl, hGW, hBW, hJ⟩ w1' S1
    simp only at hGW hBW hJ S1
    have hloop := (S1.own _ (.head _)).2
    refine ⟨_, _, _, _, run_yield (args := #[.int .i64 (i : Nat)]) hloop rfl, ?_⟩
    refine round_of (hfS.one5 rfl) S1 ?_
    clear hloop
    have hil : (i : Int) ≤ t.last := by unfold CTk.beg at hi; omega
    have hl1 : -31 ≤ t.last ∧ t.last ≤ 60 := by unfold CTk.last; omega
    simp only [gamO, gamC, ctkC, rulO, rulC, svV]
    repeat (first | (refine M0 ?_; first | refine SL ?_ | refine SB fun _ _ => ?_) | (refine XI.id ?_; first | refine XI.done ?_ | refine XI.one1 rfl ?_) | (refine XR'.id ?_; first | refine XR'.seq ?_ | refine XR'.region ?_ | refine XR'.block ?_ | refine XR'.skip ?_ | refine XR'.ret ?_ | refine XR'.cond_t rfl ?_ | refine XR'.cond_f rfl ?_ | refine XR'.exit ?_) | (refine M1 ?_; first | refine SC ?_ | refine SD ?_) | (refine M2 ?_; first | refine XE.nextI ?_ | refine XE.nextR ?_ | refine SE ?_))
    refine XE.begin (i := 0) rfl rfl rfl ?_
    repeat (first | (refine M0 ?_; first | refine SL ?_ | refine SB fun _ _ => ?_) | (refine XI.id ?_; first | refine XI.done ?_ | refine XI.one1 rfl ?_) | (refine XR'.id ?_; first | refine XR'.seq ?_ | refine XR'.region ?_ | refine XR'.block ?_ | refine XR'.skip ?_ | refine XR'.ret ?_ | refine XR'.cond_t rfl ?_ | refine XR'.cond_f rfl ?_ | refine XR'.exit ?_) | (refine M1 ?_; first | refine SC ?_ | refine SD ?_) | (refine M2 ?_; first | refine XE.nextI ?_ | refine XE.nextR ?_ | refine SE ?_))
    have hml := fun {L : Lo} (w9 : World) (S9 : Sys w.heap.size W L w9) (m1 : (gr, rulO g r) ∈ L) (m2 : (g, gamO v t gm) ∈ L) => may_any (r := r) (i := (i : Nat)) ((hGW.task.below S9.toBelow).more (Nat.le_trans S9.base S9.size)) ho hq (S9.own _ m1).2 (S9.own _ m2).2
    repeat (first | (refine M0 ?_; first | refine SL ?_ | refine SB fun _ _ => ?_ | refine Y4 (Ev.load_loc tok 3 (g := g7) (o := 0) rfl rfl rfl rfl) ?_ | refine Y4 (Ev.call (f := 42) (ck rfl) rfl (fun w9 S9 => hml w9 S9 (by repeat (first | exact List.mem_cons_self | apply List.mem_cons_of_mem)) (by repeat (first | exact List.mem_cons_self | apply List.mem_cons_of_mem)))) ?_) | (refine XI.id ?_; first | refine XI.done ?_ | refine XI.one1 rfl ?_) | (refine XR'.id ?_; first | refine XR'.seq ?_ | refine XR'.region ?_ | refine XR'.block ?_ | refine XR'.skip ?_ | refine XR'.ret ?_ | refine XR'.cond_t rfl ?_ | refine XR'.cond_f rfl ?_ | refine XR'.exit ?_) | (refine M1 ?_; first | refine SC ?_ | refine SD ?_) | (refine M2 ?_; first | refine XE.nextI ?_ | refine XE.nextR ?_ | refine SE ?_))
    cases hmy : t.may r (i : Nat) with
    | false =>
      repeat (first | (refine M0 ?_; first | refine SL ?_ | refine SB fun _ _ => ?_) | (refine XI.id ?_; first | refine XI.done ?_ | refine XI.one1 rfl ?_) | (refine XR'.id ?_; first | refine XR'.seq ?_ | refine XR'.region ?_ | refine XR'.block ?_ | refine XR'.skip ?_ | refine XR'.ret ?_ | refine XR'.cond_t rfl ?_ | refine XR'.cond_f rfl ?_ | refine XR'.exit ?_) | (refine M1 ?_; first | refine SC ?_ | refine SD ?_) | (refine M2 ?_; first | refine XE.nextI ?_ | refine XE.nextR ?_ | refine SE ?_))
      refine XE.endExit (i := 0) rfl rfl (fun w' S => ?_)
      refine ⟨_, rfl, .inr ⟨rfl, (w', b, true), ⟨rfl, hBW.trans S.toBelow, hJ.bst hdl.1 (may_down hcl hi hmy), ?_⟩, S.rebase ZZSM⟩⟩
      exact Fam.add (ks' := [D + 1, D, g12, g7, gr, g, g5, g4, g3, g2]) (hGW.on (ks := [D + 1, D, g12, g7, gr, g, g5, g4, g3, g2]) S (by repeat (first | exact List.mem_cons_self | apply List.mem_cons_of_mem)) ZZMK ZZSB (by simp) (fun x hx => hx)).fam (fun x hx => .inl (.tail _ hx))
    | true =>
      repeat (first | (refine M0 ?_; first | refine SL ?_ | refine SB fun _ _ => ?_ | refine Y4 (Ev.load_loc tok 3 (g := g7) (o := 0) rfl rfl rfl rfl) ?_ | refine Y4 (Ev.load_loc tok 4 (g := gr) (o := 0) rfl rfl rfl rfl) ?_ | refine Y4 (Ev.load_loc tok 5 (g := g) (o := 6) rfl rfl rfl rfl) ?_) | (refine XI.id ?_; first | refine XI.done ?_ | refine XI.one1 rfl ?_) | (refine XR'.id ?_; first | refine XR'.seq ?_ | refine XR'.region ?_ | refine XR'.block ?_ | refine XR'.skip ?_ | refine XR'.ret ?_ | refine XR'.cond_t rfl ?_ | refine XR'.cond_f rfl ?_ | refine XR'.exit ?_) | (refine M1 ?_; first | refine SC ?_ | refine SD ?_) | (refine M2 ?_; first | refine XE.nextI ?_ | refine XE.nextR ?_ | refine SE ?_))
      have hNil : Gam t v w.heap.size g gm [D + 1, D, g12, g7, gr, g, g5, g4, g3, g2] [⟨Int, intK5, .slice none 0 0, t.notTo i 0⟩] (bstHs t b) W := by
        rw [show t.notTo i 0 = [] from rfl]
        exact hGW.nil intK5
      refine XR'.loopk [4, 5, 7, 12, 13, 58] rfl (fun z : Nat × World × SV => [(14, svV z.2.2), (59, .int .i64 (z.1 : Nat))]) (fun z => [(D + 1, .loop { (recO fn a.tmps #[45] _ _ D .ready none) with state := .busy }), (D, .deferred (some [])), (g12, cel 4 [.bool b.isSome]), (g7, cel 89 [.pointer (some ⟨gr, 0, none⟩)]), (gr, rulO g r), (g, gamO v t gm), (g5, cel 26 [bstQ b]), (g4, cel 42 (bstC t b)), (g3, cel 31 [.int .i64 r.count, .int .i64 r.early]), (g2, cel 29 (ctkC v t))]) (fun z => z.2.1) (fun z => z.1 ≤ t.m ∧ Below w.heap.size w z.2.1 ∧ Gam t v w.heap.size g gm [D + 1, D, g12, g7, gr, g, g5, g4, g3, g2] [⟨Int, intK5, svV z.2.2, t.notTo i z.1⟩] (bstHs t b) z.2.1) (fun z => t.m - z.1) (0, W, ⟨none, 0, 0⟩) ⟨Nat.zero_le _, hBW, hNil⟩ ZZSUB (fun _ h => h) ?_
      rintro ⟨k, W2, q⟩ ⟨hk, hB2', hG2'⟩
      simp only at hk hB2' hG2'
      simp only [gamO, gamC, ctkC, rulO, rulC, svV]
      dsimp only [List.cons_append, List.nil_append]
      repeat (first | (refine M0 ?_; first | refine SL ?_ | refine SB fun _ _ => ?_) | (refine XI.id ?_; first | refine XI.done ?_ | refine XI.one1 rfl ?_) | (refine XR'.id ?_; first | refine XR'.seq ?_ | refine XR'.region ?_ | refine XR'.block ?_ | refine XR'.skip ?_ | refine XR'.ret ?_ | refine XR'.cond_t rfl ?_ | refine XR'.cond_f rfl ?_ | refine XR'.exit ?_) | (refine M1 ?_; first | refine SC ?_ | refine SD ?_) | (refine M2 ?_; first | refine XE.nextI ?_ | refine XE.nextR ?_ | refine SE ?_))
      have hpl := fun {L : Lo} {B : Nat} {W1 : World} (w9 : World) (S9 : Sys B W1 L w9) (hm : (g, gamO v t gm) ∈ L) => plan_any (v := v) (t := t) (gm := gm) (i := (i : Nat)) (S9.own _ hm).2 ho ⟨by omega, by omega⟩
      by_cases hkm : k < t.m
      rotate_left
      · rw [show decide ((k : Int) < (v.h.n : Int)) = false from decide_eq_false (by have := h.hn; omega)]
        obtain rfl : k = t.m := by omega
        have hGF := hG2'.freeze
        have hql : q.n = (t.notTo i t.m).length := (hGF.fam.held _ (.head _)).len (by decide)
        repeat (first | (refine M0 ?_; first | refine SL ?_ | refine SB fun _ _ => ?_) | (refine XI.id ?_; first | refine XI.done ?_ | refine XI.one1 rfl ?_) | (refine XR'.id ?_; first | refine XR'.seq ?_ | refine XR'.region ?_ | refine XR'.block ?_ | refine XR'.skip ?_ | refine XR'.ret ?_ | refine XR'.cond_t rfl ?_ | refine XR'.cond_f rfl ?_ | refine XR'.exit ?_) | (refine M1 ?_; first | refine SC ?_ | refine SD ?_) | (refine M2 ?_; first | refine XE.nextI ?_ | refine XE.nextR ?_ | refine SE ?_))
        rcases b with _ | ⟨i0, q0⟩
        · simp only [bstQ, bstC]
          repeat (first | (refine M0 ?_; first | refine SL ?_ | refine SB fun _ _ => ?_ | refine Y4 (Ev.load_loc tok 2 (g := g12) (o := 0) rfl rfl rfl rfl) ?_) | (refine XI.id ?_; first | refine XI.done ?_ | refine XI.one1 rfl ?_) | (refine XR'.id ?_; first | refine XR'.seq ?_ | refine XR'.region ?_ | refine XR'.block ?_ | refine XR'.skip ?_ | refine XR'.ret ?_ | refine XR'.cond_t rfl ?_ | refine XR'.cond_f rfl ?_ | refine XR'.exit ?_) | (refine M1 ?_; first | refine SC ?_ | refine SD ?_) | (refine M2 ?_; first | refine XE.nextI ?_ | refine XE.nextR ?_ | refine SE ?_))
          repeat (first | (refine M0 ?_; first | refine SL ?_ | refine SB fun _ _ => ?_ | refine Y4 (Ev.load_loc tok 3 (g := g7) (o := 0) rfl rfl rfl rfl) ?_ | refine Y4 (Ev.load_loc tok 4 (g := gr) (o := 0) rfl rfl rfl rfl) ?_) | (refine XI.id ?_; first | refine XI.done ?_ | refine XI.one1 rfl ?_) | (refine XR'.id ?_; first | refine XR'.seq ?_ | refine XR'.region ?_ | refine XR'.block ?_ | refine XR'.skip ?_ | refine XR'.ret ?_ | refine XR'.cond_t rfl ?_ | refine XR'.cond_f rfl ?_ | refine XR'.exit ?_) | (refine M1 ?_; first | refine SC ?_ | refine SD ?_) | (refine M2 ?_; first | refine XE.nextI ?_ | refine XE.nextR ?_ | refine SE ?_))
          repeat (first | (refine M0 ?_; first | refine SL ?_ | refine SB fun _ _ => ?_ | refine Y4 (Ev.call (f := 33) (ck rfl) rfl (fun w9 S9 => hpl w9 S9 (.tail _ (.tail _ (.tail _ (.tail _ (.tail _ (.head _)))))))) ?_) | (refine XI.id ?_; first | refine XI.done ?_ | refine XI.one1 rfl ?_) | (refine XR'.id ?_; first | refine XR'.seq ?_ | refine XR'.region ?_ | refine XR'.block ?_ | refine XR'.skip ?_ | refine XR'.ret ?_ | refine XR'.cond_t rfl ?_ | refine XR'.cond_f rfl ?_ | refine XR'.exit ?_) | (refine M1 ?_; first | refine SC ?_ | refine SD ?_) | (refine M2 ?_; first | refine XE.nextI ?_ | refine XE.nextR ?_ | refine SE ?_))
          repeat (first | (refine M0 ?_; first | refine SL ?_ | refine SB fun _ _ => ?_ | refine XL.store tok 7 (g := g4) (o := 0) (cs := [.int .i64 0, .int .i64 0]) rfl rfl rfl rfl (.inr rfl) rfl rfl rfl ?_ | refine XL.store_at tok 6 (g := g5) (o := 0) (j := 0) (cs := [.slice none 0 0]) rfl rfl rfl rfl rfl (Nat.le_of_ble_eq_true rfl) rfl ?_ | refine XL.store_at tok 2 (g := g12) (o := 0) (j := 0) (cs := [.bool false]) rfl rfl rfl rfl rfl (Nat.le_of_ble_eq_true rfl) rfl ?_) | (refine XI.id ?_; first | refine XI.done ?_ | refine XI.one1 rfl ?_) | (refine XR'.id ?_; first | refine XR'.seq ?_ | refine XR'.region ?_ | refine XR'.block ?_ | refine XR'.skip ?_ | refine XR'.ret ?_ | refine XR'.cond_t rfl ?_ | refine XR'.cond_f rfl ?_ | refine XR'.exit ?_) | (refine M1 ?_; first | refine SC ?_ | refine SD ?_) | (refine M2 ?_; first | refine XE.nextI ?_ | refine XE.nextR ?_ | refine SE ?_))
          refine XE.endR (i := 0) rfl rfl (fun w' S => ?_)
          refine ⟨_, rfl, .inl ⟨rfl, (w', some (i, q), false), ⟨rfl, ?_, hB2'.trans S.toBelow, ?_⟩, S.rebase ZZSM⟩⟩
          · exact hGF.on (ks := [D + 1, D, g12, g7, gr, g, g5, g4, g3, g2]) S (by repeat (first | exact List.mem_cons_self | apply List.mem_cons_of_mem)) ZZMK ZZSB (by simp) (fun x hx => by
              unfold bstHs at hx
              rw [List.mem_singleton] at hx
              subst hx
              exact .head _)
          · exact hJ.step hi hmy
        · have hq0 : q0.n = (t.notL (i0 : Nat)).length := by
            have := (hGF.fam.held (hList intK5 q0 ((t.notL (i0 : Nat)).map fun k => ((k : Nat) : Int))) (.tail _ (.head _))).len (by decide)
            rw [this, List.length_map]
          have hq1 : q.n = (t.notL (i : Nat)).length := by rw [hql, notTo_all, List.length_map]
          have hst2 := hJ.step hi hmy
          simp only [bstQ, bstC, svV]
          repeat (first | (refine M0 ?_; first | refine SL ?_ | refine SB fun _ _ => ?_ | refine Y4 (Ev.load_loc tok 2 (g := g12) (o := 0) rfl rfl rfl rfl) ?_ | refine Y4 (Ev.load_loc tok 6 (g := g5) (o := 0) rfl rfl rfl rfl) ?_) | (refine XI.id ?_; first | refine XI.done ?_ | refine XI.one1 rfl ?_) | (refine XR'.id ?_; first | refine XR'.seq ?_ | refine XR'.region ?_ | refine XR'.block ?_ | refine XR'.skip ?_ | refine XR'.ret ?_ | refine XR'.cond_t rfl ?_ | refine XR'.cond_f rfl ?_ | refine XR'.exit ?_) | (refine M1 ?_; first | refine SC ?_ | refine SD ?_) | (refine M2 ?_; first | refine XE.nextI ?_ | refine XE.nextR ?_ | refine SE ?_))
          by_cases hlt : q.n < q0.n
          · rw [show decide ((q.n : Int) < (q0.n : Int)) = true from decide_eq_true (by omega)]
            repeat (first | (refine M0 ?_; first | refine SL ?_ | refine SB fun _ _ => ?_ | refine Y4 (Ev.load_loc tok 3 (g := g7) (o := 0) rfl rfl rfl rfl) ?_ | refine Y4 (Ev.load_loc tok 4 (g := gr) (o := 0) rfl rfl rfl rfl) ?_ | refine Y4 (Ev.call (f := 33) (ck rfl) rfl (fun w9 S9 => hpl w9 S9 (.tail _ (.tail _ (.tail _ (.tail _ (.tail _ (.head _)))))))) ?_) | (refine XI.id ?_; first | refine XI.done ?_ | refine XI.one1 rfl ?_) | (refine XR'.id ?_; first | refine XR'.seq ?_ | refine XR'.region ?_ | refine XR'.block ?_ | refine XR'.skip ?_ | refine XR'.ret ?_ | refine XR'.cond_t rfl ?_ | refine XR'.cond_f rfl ?_ | refine XR'.exit ?_) | (refine M1 ?_; first | refine SC ?_ | refine SD ?_) | (refine M2 ?_; first | refine XE.nextI ?_ | refine XE.nextR ?_ | refine SE ?_))
            repeat (first | (refine M0 ?_; first | refine SL ?_ | refine SB fun _ _ => ?_ | refine XL.store tok 7 (g := g4) (o := 0) (cs := [.int .i64 (t.plan (i0 : Nat)).close, .int .i64 (t.plan (i0 : Nat)).open_]) rfl rfl rfl rfl (.inr rfl) rfl rfl rfl ?_ | refine XL.store_at tok 6 (g := g5) (o := 0) (j := 0) (cs := [.slice q0.A q0.n q0.c]) rfl rfl rfl rfl rfl (Nat.le_of_ble_eq_true rfl) rfl ?_ | refine XL.store_at tok 2 (g := g12) (o := 0) (j := 0) (cs := [.bool true]) rfl rfl rfl rfl rfl (Nat.le_of_ble_eq_true rfl) rfl ?_) | (refine XI.id ?_; first | refine XI.done ?_ | refine XI.one1 rfl ?_) | (refine XR'.id ?_; first | refine XR'.seq ?_ | refine XR'.region ?_ | refine XR'.block ?_ | refine XR'.skip ?_ | refine XR'.ret ?_ | refine XR'.cond_t rfl ?_ | refine XR'.cond_f rfl ?_ | refine XR'.exit ?_) | (refine M1 ?_; first | refine SC ?_ | refine SD ?_) | (refine M2 ?_; first | refine XE.nextI ?_ | refine XE.nextR ?_ | refine SE ?_))
            refine XE.endR (i := 0) rfl rfl (fun w' S => ?_)
            refine ⟨_, rfl, .inl ⟨rfl, (w', some (i, q), false), ⟨rfl, ?_, hB2'.trans S.toBelow, ?_⟩, S.rebase ZZSM⟩⟩
            · exact hGF.on (ks := [D + 1, D, g12, g7, gr, g, g5, g4, g3, g2]) S (by repeat (first | exact List.mem_cons_self | apply List.mem_cons_of_mem)) ZZMK ZZSB (by simp) (fun x hx => by
                unfold bstHs at hx
                rw [List.mem_singleton] at hx
                subst hx
                exact .head _)
            · have e : t.bStep (some i0) i = some i := by
                unfold CTk.bStep
                simp only
                rw [if_pos (by omega)]
              have h9 : t.bStep (Option.map (·.1) (some (i0, q0))) i = some i := e
              rw [h9] at hst2
              exact hst2
          · rw [show decide ((q.n : Int) < (q0.n : Int)) = false from decide_eq_false (by omega)]
            repeat (first | (refine M0 ?_; first | refine SL ?_ | refine SB fun _ _ => ?_) | (refine XI.id ?_; first | refine XI.done ?_ | refine XI.one1 rfl ?_) | (refine XR'.id ?_; first | refine XR'.seq ?_ | refine XR'.region ?_ | refine XR'.block ?_ | refine XR'.skip ?_ | refine XR'.ret ?_ | refine XR'.cond_t rfl ?_ | refine XR'.cond_f rfl ?_ | refine XR'.exit ?_) | (refine M1 ?_; first | refine SC ?_ | refine SD ?_) | (refine M2 ?_; first | refine XE.nextI ?_ | refine XE.nextR ?_ | refine SE ?_))
            refine XE.endR (i := 0) rfl rfl (fun w' S => ?_)
            refine ⟨_, rfl, .inl ⟨rfl, (w', some (i0, q0), false), ⟨rfl, ?_, hB2'.trans S.toBelow, ?_⟩, S.rebase ZZSM⟩⟩
            · exact hGF.on (ks := [D + 1, D, g12, g7, gr, g, g5, g4, g3, g2]) S (by repeat (first | exact List.mem_cons_self | apply List.mem_cons_of_mem)) ZZMK ZZSB (by simp) (fun x hx => .tail _ hx)
            · have e : t.bStep (some i0) i = some i0 := by
                unfold CTk.bStep
                simp only
                rw [if_neg (by omega)]
              have h9 : t.bStep (Option.map (·.1) (some (i0, q0))) i = some i0 := e
              rw [h9] at hst2
              exact hst2
      rw [show decide ((k : Int) < (v.h.n : Int)) = true from decide_eq_true (by have := h.hn; omega)]
      repeat (first | (refine M0 ?_; first | refine SL ?_ | refine SB fun _ _ => ?_ | refine Y4 (Ev.load_loc tok 3 (g := g7) (o := 0) rfl rfl rfl rfl) ?_ | refine Y4 (Ev.load_loc tok 4 (g := gr) (o := 0) rfl rfl rfl rfl) ?_) | (refine XI.id ?_; first | refine XI.done ?_ | refine XI.one1 rfl ?_) | (refine XR'.id ?_; first | refine XR'.seq ?_ | refine XR'.region ?_ | refine XR'.block ?_ | refine XR'.skip ?_ | refine XR'.ret ?_ | refine XR'.cond_t rfl ?_ | refine XR'.cond_f rfl ?_ | refine XR'.exit ?_) | (refine M1 ?_; first | refine SC ?_ | refine SD ?_) | (refine M2 ?_; first | refine XE.nextI ?_ | refine XE.nextR ?_ | refine SE ?_))
      have lgr : gr < w1.heap.size := hG1.lt gr (by simp)
      have hst : t.strange (t.plan (i : Nat)) = false := (plan_ok ho (Int.natCast_nonneg i) hil).1
      have hfl := fun (w5 : World) (ks2 : List Nat) (hG5 : Gam t v w.heap.size g gm ks2 [] [] w5) => fails_any (p := t.plan (i : Nat)) hG5 ho hkm hst
      simp only [plnV] at hfl
      refine XR'.drawRS (trunc w w.heap.size) [(g7, cel 89 [.pointer (some ⟨gr, 0, none⟩)]), (gr, rulO g r)] [0, 1, 2, 3, 4, 5, 6, 7, 8, 9] [10, 11, 12] mixed (fun _ h => Sys.anchorT hB2' h (by intro e he; repeat (first | (cases he; done) | (rcases List.mem_cons.1 he with rfl | he; · repeat (first | exact List.mem_cons_self | apply List.mem_cons_of_mem)))) (by simp; omega) hle) rfl rfl (by kernel_rfl) ?_
      repeat (first | (refine M0 ?_; first | refine SL ?_ | refine SB fun _ _ => ?_ | refine Y4 (Ev.load_loc tok 0 (g := g7) (o := 0) rfl rfl rfl rfl) ?_ | refine Y4 (Ev.load_loc tok 1 (g := gr) (o := 0) rfl rfl rfl rfl) ?_) | (refine M2 ?_; refine SE ?_) | (refine M3 ?_; first | refine SG ?_ | refine SF ?_ | refine YF (Ev.load_loc tok 0 (g := g7) (o := 0) rfl rfl rfl rfl) ?_ | refine YF (Ev.load_loc tok 1 (g := gr) (o := 0) rfl rfl rfl rfl) ?_) | (refine M4 ?_; refine SR ?_) | (refine M5 ?_; first | exact M7 | refine YM ?_ | refine YN ?_ ?_))
      repeat (first | (refine M0 ?_; first | refine SL ?_ | refine SB fun _ _ => ?_ | refine Y4 (Ev.call (f := 33) (ck rfl) rfl (fun w9 S9 => hpl w9 S9 (by repeat (first | exact List.mem_cons_self | apply List.mem_cons_of_mem)))) ?_) | (refine M2 ?_; refine SE ?_) | (refine M3 ?_; first | refine SG ?_ | refine SF ?_ | refine YF (Ev.call (f := 33) (ck rfl) rfl (fun w9 S9 => hpl w9 S9 (by repeat (first | exact List.mem_cons_self | apply List.mem_cons_of_mem)))) ?_) | (refine M4 ?_; refine SR ?_) | (refine M5 ?_; first | exact M7 | refine YM ?_ | refine YN ?_ ?_))
      refine z7 ?_
      repeat (first | (refine M0 ?_; first | refine SL ?_ | refine SB fun _ _ => ?_) | (refine M2 ?_; refine SE ?_) | (refine M3 ?_; first | refine SG ?_ | refine SF ?_) | (refine M4 ?_; refine SR ?_) | (refine M5 ?_; first | exact M7 | refine YM ?_ | refine YN ?_ ?_))
      refine XL.callJ (IntR (idxB (t.above k (t.plan (i : Nat))) t.n)) (ck rfl) rfl rfl hG2' (by repeat (first | exact List.mem_cons_self | apply List.mem_cons_of_mem)) (fun w9 ks2 _ _ hG9 => hfl w9 ks2 hG9) (fun w9 x new hR hG9 hB9 => ?_) ZZMK
      obtain ⟨rfl, rfl⟩ := hR
      have hBW9 : Below w.heap.size w w9 := hB2'.trans hB9
      repeat (first | (refine M0 ?_; first | refine SL ?_ | refine SB fun _ _ => ?_) | (refine M2 ?_; refine SE ?_) | (refine M3 ?_; first | refine SG ?_ | refine SF ?_) | (refine M4 ?_; refine SR ?_) | (refine M5 ?_; first | exact M7 | refine YM ?_ | refine YN ?_ ?_))
      refine z7 ?_
      repeat (first | (refine M0 ?_; first | refine SL ?_ | refine SB fun _ _ => ?_) | (refine M2 ?_; refine SE ?_) | (refine M3 ?_; first | refine SG ?_ | refine SF ?_) | (refine M4 ?_; refine SR ?_) | (refine M5 ?_; first | exact M7 | refine YM ?_ | refine YN ?_ ?_))
      refine z7 ?_
      repeat (first | (refine M0 ?_; first | refine SL ?_ | refine SB fun _ _ => ?_) | (refine M2 ?_; refine SE ?_) | (refine M3 ?_; first | refine SG ?_ | refine SF ?_) | (refine M4 ?_; refine SR ?_) | (refine M5 ?_; first | exact M7 | refine YM ?_ | refine YN ?_ ?_))
      refine XE.onlyN ?_
      have eI : idxB (t.above k (t.plan (i : Nat))) t.n = match t.fails k (t.plan (i : Nat)) with | none => -1 | some a => (a : Int) := by
        unfold idxB CTk.fails
        cases firstB (t.above k (t.plan (i : Nat))) t.n <;> rfl
      rw [eI]
      cases hf : t.fails k (t.plan (i : Nat)) with
      | none =>
        simp only
        repeat (first | (refine M0 ?_; first | refine SL ?_ | refine SB fun _ _ => ?_) | (refine XI.id ?_; first | refine XI.done ?_ | refine XI.one1 rfl ?_) | (refine XR'.id ?_; first | refine XR'.seq ?_ | refine XR'.region ?_ | refine XR'.block ?_ | refine XR'.skip ?_ | refine XR'.ret ?_ | refine XR'.cond_t rfl ?_ | refine XR'.cond_f rfl ?_ | refine XR'.exit ?_) | (refine M1 ?_; first | refine SC ?_ | refine SD ?_) | (refine M2 ?_; first | refine XE.nextI ?_ | refine XE.nextR ?_ | refine SE ?_))
        refine XE.roundW (s := (k, W2, q)) (fun w' S => ⟨(k + 1, w', q), ⟨hkm, hBW9.trans S.toBelow, ?_⟩, by simp only; omega, ZZSUB, S.rebase ZZSM⟩)
        rw [notTo_keep hf]
        exact hG9.on (ks := [D + 1, D, g12, g7, gr, g, g5, g4, g3, g2]) S (by repeat (first | exact List.mem_cons_self | apply List.mem_cons_of_mem)) ZZMK ZZSB (by simp) (fun x hx => hx)
      | some a =>
        simp only
        repeat (first | (refine M0 ?_; first | refine SL ?_ | refine SB fun _ _ => ?_ | refine XL.buildSlice tok rfl rfl rfl rfl rfl rfl rfl rfl rfl (fun _ _ => ?_)) | (refine XI.id ?_; first | refine XI.done ?_ | refine XI.one1 rfl ?_) | (refine XR'.id ?_; first | refine XR'.seq ?_ | refine XR'.region ?_ | refine XR'.block ?_ | refine XR'.skip ?_ | refine XR'.ret ?_ | refine XR'.cond_t rfl ?_ | refine XR'.cond_f rfl ?_ | refine XR'.exit ?_) | (refine M1 ?_; first | refine SC ?_ | refine SD ?_) | (refine M2 ?_; first | refine XE.nextI ?_ | refine XE.nextR ?_ | refine SE ?_))
        rename_i g53 hg53
        refine XL.pushG (K := intK5) (a := ((k : Nat) : Int)) 0 int5_el (by decide) rfl rfl rfl hG9 (by repeat (first | exact List.mem_cons_self | apply List.mem_cons_of_mem)) rfl (.head _) rfl (fun _ => rfl) (by have := notTo_len t i k; omega) (by decide) (fun w6 r6 hG6 hB6 => ?_) ZZMK
        rw [← notTo_push hf] at hG6
        simp only [svV]
        repeat (first | (refine M0 ?_; first | refine SL ?_ | refine SB fun _ _ => ?_) | (refine XI.id ?_; first | refine XI.done ?_ | refine XI.one1 rfl ?_) | (refine XR'.id ?_; first | refine XR'.seq ?_ | refine XR'.region ?_ | refine XR'.block ?_ | refine XR'.skip ?_ | refine XR'.ret ?_ | refine XR'.cond_t rfl ?_ | refine XR'.cond_f rfl ?_ | refine XR'.exit ?_) | (refine M1 ?_; first | refine SC ?_ | refine SD ?_) | (refine M2 ?_; first | refine XE.nextI ?_ | refine XE.nextR ?_ | refine SE ?_))
        refine XE.roundW (s := (k, W2, q)) (fun w' S => ⟨(k + 1, w', r6), ⟨hkm, (hBW9.trans hB6).trans S.toBelow, ?_⟩, by simp only; omega, ZZSUB, S.rebase ZZSM⟩)
        exact hG6.on (ks := [D + 1, D, g12, g7, gr, g, g5, g4, g3, g2]) S (by repeat (first | exact List.mem_cons_self | apply List.mem_cons_of_mem)) ZZMK ZZSB (by simp) (fun x hx => hx)
      any_goals (repeat (first | exact AnyR.nil | refine AnyR.skip rfl ?_))
  refine hbg.mono fun e w4 ⟨v4, e4, hz⟩ => ⟨v4, e4, ?_⟩
  rcases hz with ⟨⟨W, b, s⟩, ⟨rfl, hGW, hBW, hJ⟩, S4⟩ | ⟨⟨W, b, s⟩, ⟨rfl, hBW, hbst, hF⟩, S4⟩
  · refine ⟨.ready, none, _, W, by decide, S4, ?_⟩
    dsimp only [RFEnd]
    have hbst := hJ.bst hdl.1 (fun j hj => absurd hj (by simp))
    have hF := Fam.add (ks' := [D + 1, D, g12, g7, gr, g, g5, g4, g3, g2]) hGW.fam (fun x hx => .inl (.tail _ hx))
    rcases b with _ | ⟨i0, q0⟩
    · simp only [bstQ, bstC, gamO, gamC, rulO, rulC]
      repeat (first | (refine M0 ?_; first | refine SL ?_ | refine SB fun _ _ => ?_ | refine Y4 (Ev.load_loc tok 2 (g := g12) (o := 0) rfl rfl rfl rfl) ?_ | refine XL.store tok 7 (g := g4) (o := 0) (cs := [.int .i64 0, .int .i64 0]) rfl rfl rfl rfl (.inr rfl) rfl rfl rfl ?_ | refine XL.store_at tok 6 (g := g5) (o := 0) (j := 0) (cs := [.slice none 0 0]) rfl rfl rfl rfl rfl (Nat.le_of_ble_eq_true rfl) rfl ?_) | (refine M1 ?_; refine SC ?_) | (refine M2 ?_; refine SE ?_))
      refine XE.retM (i := 1) tok Tryz.results17 rfl rfl rfl (by simp only [and_self, and_true]) (fun w' S => ?_)
      obtain ⟨d1, d2, d3⟩ := bst_none hc hcl hbst
      exact bstZ d1 d2 d3 (hBW.trans S.toBelow)
    · obtain ⟨d1, d2, d3⟩ := bst_some hc hcl hbst
      simp only [bstQ, bstC, gamO, gamC, rulO, rulC, svV]
      repeat (first | (refine M0 ?_; first | refine SL ?_ | refine SB fun _ _ => ?_ | refine Y4 (Ev.load_loc tok 2 (g := g12) (o := 0) rfl rfl rfl rfl) ?_) | (refine M1 ?_; refine SC ?_) | (refine M2 ?_; refine SE ?_))
      refine XC.drawRS (trunc w w.heap.size) [] [] [0, 1, 2, 3, 4] mixed (fun _ h => Sys.anchorT hBW h (fun e he => by cases he) (by simp) hle) rfl (by kernel_rfl) ?_
      repeat (any_goals (first | (refine M0 ?_; first | refine SL ?_ | refine SB fun _ _ => ?_ | refine Y4 (Ev.load_loc_agg tok 7 (g := g4) (o := 0) rfl rfl rfl rfl) ?_ | refine Y4 (Ev.load_loc tok 6 (g := g5) (o := 0) rfl rfl rfl rfl) ?_ | refine XL.store tok 7 (g := g4) (o := 0) (cs := [.int .i64 (t.plan (i0 : Nat)).close, .int .i64 (t.plan (i0 : Nat)).open_]) rfl rfl rfl rfl (.inr rfl) rfl rfl rfl ?_ | refine XL.store_at tok 6 (g := g5) (o := 0) (j := 0) (cs := [.slice q0.A q0.n q0.c]) rfl rfl rfl rfl rfl (Nat.le_of_ble_eq_true rfl) rfl ?_) | (refine M1 ?_; refine SC ?_) | (refine M2 ?_; first | refine SE ?_ | ((with_reducible refine atHeld ?_); refine z7 ?_)) | (refine M3 ?_; first | refine SG ?_ | refine SF ?_ | refine YF (Ev.load_loc_agg tok 7 (g := g4) (o := 0) rfl rfl rfl rfl) ?_ | refine YF (Ev.load_loc tok 6 (g := g5) (o := 0) rfl rfl rfl rfl) ?_) | (refine M4 ?_; refine SR ?_) | (refine M5 ?_; first | exact M7 | refine YM ?_ | refine YN ?_ ?_)))
      any_goals (repeat (first | exact AnyR.nil | refine AnyR.skip rfl ?_))
      all_goals
        repeat (first | (refine M0 ?_; first | refine SL ?_ | refine SB fun _ _ => ?_) | (refine M1 ?_; refine SC ?_) | (refine M2 ?_; refine SE ?_))
        refine XE.retM (i := 1) tok Tryz.results17 rfl rfl rfl (by simp only [and_self, and_true]) (fun w' S => ?_)
        refine ⟨_, _, rfl, ⟨q0, by rw [d1, d2]; rfl, rfl⟩, fun x hx => ?_, hBW.trans S.toBelow⟩
        rw [d3, List.mem_singleton] at hx
        subst hx
        exact (hF.sys S ZZMK).get (.head _)
  · refine ⟨.done, some (.exit 0), _, W, by decide, S4, ?_⟩
    dsimp only [RFEnd]
    refine XE.blk_exit ?_
    rcases b with _ | ⟨i0, q0⟩
    · simp only [bstQ, bstC, gamO, gamC, rulO, rulC]
      repeat (first | (refine M0 ?_; first | refine SL ?_ | refine SB fun _ _ => ?_ | refine Y4 (Ev.load_loc tok 2 (g := g12) (o := 0) rfl rfl rfl rfl) ?_ | refine XL.store tok 7 (g := g4) (o := 0) (cs := [.int .i64 0, .int .i64 0]) rfl rfl rfl rfl (.inr rfl) rfl rfl rfl ?_ | refine XL.store_at tok 6 (g := g5) (o := 0) (j := 0) (cs := [.slice none 0 0]) rfl rfl rfl rfl rfl (Nat.le_of_ble_eq_true rfl) rfl ?_) | (refine M1 ?_; refine SC ?_) | (refine M2 ?_; refine SE ?_))
      refine XE.retM (i := 1) tok Tryz.results17 rfl rfl rfl (by simp only [and_self, and_true]) (fun w' S => ?_)
      obtain ⟨d1, d2, d3⟩ := bst_none hc hcl hbst
      exact bstZ d1 d2 d3 (hBW.trans S.toBelow)
    · obtain ⟨d1, d2, d3⟩ := bst_some hc hcl hbst
      simp only [bstQ, bstC, gamO, gamC, rulO, rulC, svV]
      repeat (first | (refine M0 ?_; first | refine SL ?_ | refine SB fun _ _ => ?_ | refine Y4 (Ev.load_loc tok 2 (g := g12) (o := 0) rfl rfl rfl rfl) ?_) | (refine M1 ?_; refine SC ?_) | (refine M2 ?_; refine SE ?_))
      refine XC.drawRS (trunc w w.heap.size) [] [] [0, 1, 2, 3, 4] mixed (fun _ h => Sys.anchorT hBW h (fun e he => by cases he) (by simp) hle) rfl (by kernel_rfl) ?_
      repeat (any_goals (first | (refine M0 ?_; first | refine SL ?_ | refine SB fun _ _ => ?_ | refine Y4 (Ev.load_loc_agg tok 7 (g := g4) (o := 0) rfl rfl rfl rfl) ?_ | refine Y4 (Ev.load_loc tok 6 (g := g5) (o := 0) rfl rfl rfl rfl) ?_ | refine XL.store tok 7 (g := g4) (o := 0) (cs := [.int .i64 (t.plan (i0 : Nat)).close, .int .i64 (t.plan (i0 : Nat)).open_]) rfl rfl rfl rfl (.inr rfl) rfl rfl rfl ?_ | refine XL.store_at tok 6 (g := g5) (o := 0) (j := 0) (cs := [.slice q0.A q0.n q0.c]) rfl rfl rfl rfl rfl (Nat.le_of_ble_eq_true rfl) rfl ?_) | (refine M1 ?_; refine SC ?_) | (refine M2 ?_; first | refine SE ?_ | ((with_reducible refine atHeld ?_); refine z7 ?_)) | (refine M3 ?_; first | refine SG ?_ | refine SF ?_ | refine YF (Ev.load_loc_agg tok 7 (g := g4) (o := 0) rfl rfl rfl rfl) ?_ | refine YF (Ev.load_loc tok 6 (g := g5) (o := 0) rfl rfl rfl rfl) ?_) | (refine M4 ?_; refine SR ?_) | (refine M5 ?_; first | exact M7 | refine YM ?_ | refine YN ?_ ?_)))
      any_goals (repeat (first | exact AnyR.nil | refine AnyR.skip rfl ?_))
      all_goals
        repeat (first | (refine M0 ?_; first | refine SL ?_ | refine SB fun _ _ => ?_) | (refine M1 ?_; refine SC ?_) | (refine M2 ?_; refine SE ?_))
        refine XE.retM (i := 1) tok Tryz.results17 rfl rfl rfl (by simp only [and_self, and_true]) (fun w' S => ?_)
        refine ⟨_, _, rfl, ⟨q0, by rw [d1, d2]; rfl, rfl⟩, fun x hx => ?_, hBW.trans S.toBelow⟩
        rw [d3, List.mem_singleton] at hx
        subst hx
        exact (hF.sys S ZZMK).get (.head _)
end Go.Proofs.YtmpaiphakjogjaaGreat.X
/-
  The walks of the document's in, history and Check (closure).
-/
namespace Go.Proofs.YtmpaiphakjogjaaGreat.Bs
open Go Go.Proofs.YtmpaiphakjogjaaGreat.X
set_option linter.unusedVariables false
theorem any_all {l : List Int} {f : Int → Bool} : (l.all fun x => !f x) = !l.any f := by
  induction l with
  | nil => rfl
  | cons a l ih => simp [ih, Bool.not_or]
theorem take_all {l : List Int} {f : Int → Bool} {k : Nat} (hk : k < l.length) : (l.take (k + 1)).all f = ((l.take k).all f && f (at0 l k)) := by
  rw [List.take_succ_eq_append_getElem hk, List.all_append]
  unfold at0
  rw [List.getElem?_eq_getElem hk]
  simp
theorem from_in {f : Int} {n : Nat} (hn : 1 ≤ n) : (!outB f 0 200000 && !outB (f + n - 1) 0 200000) = !outB f 0 (200000 - n + 1) := by
  rw [Bool.eq_iff_iff]
  simp only [Bool.and_eq_true, Bool.not_eq_true', outB_f]
  omega
end Go.Proofs.YtmpaiphakjogjaaGreat.Bs
namespace Go.Proofs.YtmpaiphakjogjaaGreat.X
open Go Go.RowKit Go.Proofs.YtmpaiphakjogjaaGreat.Bs
set_option linter.unusedVariables false
theorem in5_any (n lo hi : Int) (w : World) : Calls Tryz.prog 35 #[.int .i64 n, .int .i64 lo, .int .i64 hi] w fun e w' => e = .returned (.bool (!outB n lo hi)) ∧ Below w.heap.size w w' := by
  refine enter Tryz.func35 rfl Tryz.ntmps35 rfl ?_; simp only [frame, Nat.zero_add, Nat.reduceAdd]
  by_cases h1 : lo ≤ n
  · have e : (!outB n lo hi) = decide (n ≤ hi) := by
      unfold outB
      rw [decide_eq_false (by omega), Bool.false_or]
      by_cases h2 : n ≤ hi
      · rw [decide_eq_true h2, decide_eq_false (by omega)]; rfl
      · rw [decide_eq_false h2, decide_eq_true (by omega)]; rfl
    repeat (first | (refine M0 ?_; first | refine SL ?_ | refine SB fun _ _ => ?_) | (refine M1 ?_; refine SC ?_) | (refine M2 ?_; refine SE ?_))
    rw [show decide (lo ≤ n) = true from decide_eq_true h1]
    repeat (first | (refine M0 ?_; first | refine SL ?_ | refine SB fun _ _ => ?_) | (refine M1 ?_; refine SC ?_) | (refine M2 ?_; refine SE ?_))
    refine XE.retg tok Tryz.results35 rfl (by simp only [and_self, and_true]) (fun w' S => ?_)
    rw [e]
    exact ⟨rfl, S.toBelow⟩
  · have e : (!outB n lo hi) = false := by
      unfold outB
      rw [decide_eq_true (by omega)]; rfl
    repeat (first | (refine M0 ?_; first | refine SL ?_ | refine SB fun _ _ => ?_) | (refine M1 ?_; refine SC ?_) | (refine M2 ?_; refine SE ?_))
    rw [show decide (lo ≤ n) = false from decide_eq_false h1]
    repeat (first | (refine M0 ?_; first | refine SL ?_ | refine SB fun _ _ => ?_) | (refine M1 ?_; refine SC ?_) | (refine M2 ?_; refine SE ?_))
    refine XE.retg tok Tryz.results35 rfl (by simp only [and_self, and_true]) (fun w' S => ?_)
    rw [e]
    exact ⟨rfl, S.toBelow⟩
set_option maxHeartbeats 8000000 in
theorem refHis_any {v : CTV} {t : CTk} {k : Nat} {w : World} (hT : CtAt w w.heap.size v t) (hk : k < t.m) (hn1 : 1 ≤ t.n) (hn60 : t.n ≤ 60) :
    Calls Tryz.prog 97 #[ctkV v t, .int .i64 (k : Nat)] w fun e w' => e = .returned (.int .i64 (hisErr t k)) ∧ Below w.heap.size w w' := by
  have hhn := hT.hn
  have hhm := hT.hmax
  obtain ⟨ad, q, e1, hlt, hc, hq⟩ := hT.hisAt hk
  obtain ⟨ad', q0, e1', hlt', hc', hq0⟩ := hT.hisAt (k := 0) (by omega)
  obtain ⟨vp, vf, ⟨Ah, nh, ch⟩, vr⟩ := v
  simp only at hhn hhm e1 e1'
  subst hhn
  obtain rfl := e1
  obtain rfl : ad = ad' := Option.some.inj e1'
  have hql := hq.len
  have hq0l := hq0.len
  have hqm := hq.max
  obtain ⟨qA, qn, qc⟩ := q
  obtain ⟨pA, pn, pc⟩ := q0
  simp only at hql hq0l hqm
  subst hql hq0l
  have hbw := Below.refl w.heap.size w
  have en : (t.h 0).vals.length = t.n := rfl
  have ef : (t.h 0).from_ = t.from_ := rfl
  simp only [ctkV, ctkC]
  refine enter Tryz.func97 rfl Tryz.ntmps97 rfl ?_; simp only [frame, Nat.zero_add, Nat.reduceAdd]
  repeat (first | (refine M0 ?_; first | refine SL ?_ | refine SB fun _ _ => ?_) | (refine M1 ?_; refine SC ?_) | (refine M2 ?_; refine SE ?_))
  rename_i g2 hg2
  refine XC.cutn [1, 2] rfl (fun g : Nat × Nat => [(5, .pointer (some ⟨g.1, 0, none⟩)), (6, .pointer (some ⟨g.2, 0, none⟩))]) (fun g => [(g.2, cel 133 [.int .i64 (t.h 0).from_, .slice pA (t.h 0).vals.length pc]), (g.1, cel 133 [.int .i64 (t.h k).from_, .slice qA (t.h k).vals.length qc]), (g2, cel 29 (ctkC ⟨vp, vf, ⟨some ad, t.m, ch⟩, vr⟩ t))]) (fun _ => w) (fun g => w.heap.size ≤ g.1 ∧ w.heap.size ≤ g.2) ?_ ?_
  · refine XC.drawR _ [0, 1, 2, 3, 4, 5, 6, 7, 8] [9, 10, 11, 12] mixed (fun _ h => h) rfl (by kernel_rfl) ?_
    repeat (any_goals (first | (refine M0 ?_; first | refine SL ?_ | refine SB fun _ _ => ?_ | refine Y4 (Ev.load_old_agg tok (hisC ⟨qA, (t.h k).vals.length, qc⟩ (t.h k)) rfl rfl rfl (add_lt hlt) hc) ?_ | refine Y4 (Ev.load_old_agg tok (hisC ⟨pA, (t.h 0).vals.length, pc⟩ (t.h 0)) rfl rfl rfl (add_lt hlt) hc') ?_) | (refine M1 ?_; refine SC ?_) | (refine M2 ?_; refine SE ?_) | (refine M3 ?_; first | refine SG ?_ | refine SF ?_ | refine YF (Ev.load_old_agg tok (hisC ⟨qA, (t.h k).vals.length, qc⟩ (t.h k)) rfl rfl rfl (add_lt hlt) hc) ?_ | refine YF (Ev.load_old_agg tok (hisC ⟨pA, (t.h 0).vals.length, pc⟩ (t.h 0)) rfl rfl rfl (add_lt hlt) hc') ?_) | (refine M4 ?_; refine SR ?_) | (refine M5 ?_; first | exact M7 | refine YM ?_ | refine YN ?_ ?_)))
    any_goals (repeat (first | exact AnyR.nil | refine AnyR.skip rfl ?_))
    all_goals exact XE.leaf (_, _) ZZSUB (fun _ S' => by first | exact S' | exact S'.perm (by repeat (first | exact List.Perm.refl _ | refine perm1 ?_ | refine List.Perm.cons _ ?_ | refine perm2 ?_)) | exact (S'.pop (by assumption)) | exact (S'.pop2 (by assumption))) ⟨by assumption, by assumption⟩
  rintro ⟨g5, g6⟩ ⟨hg5, hg6⟩
  simp only at hg5 hg6
  dsimp only [List.cons_append, List.nil_append]
  refine XC.hint 6 2 (XC.hint 5 1 ?_)
  by_cases hf : (t.h k).from_ = (t.h 0).from_
  rotate_left
  · repeat (first | (refine M0 ?_; first | refine SL ?_ | refine SB fun _ _ => ?_) | (refine M1 ?_; refine SC ?_) | (refine M2 ?_; refine SE ?_))
    rw [show decide ((t.h k).from_ ≠ (t.h 0).from_) = true from decide_eq_true hf]
    repeat (first | (refine M0 ?_; first | refine SL ?_ | refine SB fun _ _ => ?_) | (refine M1 ?_; refine SC ?_) | (refine M2 ?_; refine SE ?_))
    refine XE.retg tok Tryz.results97 rfl (by simp only [and_self, and_true]) (fun w' S => ?_)
    exact ⟨by unfold hisErr; rw [if_pos (.inl hf)]; rfl, S.toBelow⟩
  repeat (first | (refine M0 ?_; first | refine SL ?_ | refine SB fun _ _ => ?_) | (refine M1 ?_; refine SC ?_) | (refine M2 ?_; refine SE ?_))
  rw [show decide ((t.h k).from_ ≠ (t.h 0).from_) = false from decide_eq_false (fun h => h hf)]
  repeat (first | (refine M0 ?_; first | refine SL ?_ | refine SB fun _ _ => ?_) | (refine M1 ?_; refine SC ?_) | (refine M2 ?_; refine SE ?_))
  by_cases hl : (t.h k).vals.length = t.n
  rotate_left
  · rw [show decide (((t.h k).vals.length : Int) ≠ ((t.h 0).vals.length : Int)) = true from decide_eq_true (by rw [en]; omega)]
    repeat (first | (refine M0 ?_; first | refine SL ?_ | refine SB fun _ _ => ?_) | (refine M1 ?_; refine SC ?_) | (refine M2 ?_; refine SE ?_))
    refine XE.retg tok Tryz.results97 rfl (by simp only [and_self, and_true]) (fun w' S => ?_)
    exact ⟨by unfold hisErr; rw [if_pos (.inr hl)]; rfl, S.toBelow⟩
  rw [show decide (((t.h k).vals.length : Int) ≠ ((t.h 0).vals.length : Int)) = false from decide_eq_false (by rw [en]; omega)]
  have hE : hisErr t k = if outB (t.h k).from_ 0 (200000 - t.n + 1) || (t.h k).vals.any highB then 7 else 0 := by
    unfold hisErr
    rw [if_neg (fun h => h.elim (fun h => h hf) (fun h => h hl))]
  have hfi := from_in (f := (t.h k).from_) hn1
  obtain ⟨b0, hb0⟩ : ∃ b0, b0 = !outB (t.h k).from_ 0 (200000 - t.n + 1) := ⟨_, rfl⟩
  rw [← hb0] at hfi
  obtain ⟨l, hll⟩ : ∃ l, l = (t.h k).vals := ⟨_, rfl⟩
  have hbb : (!(outB (t.h k).from_ 0 (200000 - t.n + 1) || l.any highB)) = (b0 && l.all fun x => !highB x) := by rw [any_all, Bool.not_or, hb0]
  repeat (first | (refine M0 ?_; first | refine SL ?_ | refine SB fun _ _ => ?_) | (refine M2 ?_; refine SE ?_) | (refine M3 ?_; first | refine SG ?_ | refine SF ?_) | (refine M4 ?_; refine SR ?_) | (refine M5 ?_; first | exact M7 | refine YM ?_ | refine YN ?_ ?_))
  refine SC ?_
  refine SC ?_
  refine SE ?_
  refine XC.seq ?_
  refine XC.cutn [2, 5, 6] rfl (fun _ : Unit => [(7, .bool b0)]) (fun _ => [(g6, cel 133 [.int .i64 (t.h 0).from_, .slice pA (t.h 0).vals.length pc]), (g5, cel 133 [.int .i64 (t.h k).from_, .slice qA (t.h k).vals.length qc]), (g2, cel 29 (ctkC ⟨vp, vf, ⟨some ad, t.m, ch⟩, vr⟩ t))]) (fun _ => w) (fun _ => True) ?_ (fun _ _ => ?_)
  · cases hx : outB (t.h k).from_ 0 200000 with
    | true =>
      rw [hx] at hfi
      have hb : b0 = false := hfi.symm
      subst hb
      repeat (first | (refine M0 ?_; first | refine SL ?_ | refine SB fun _ _ => ?_ | refine Y4 (Ev.call (f := 35) (ck rfl) rfl (fun w _ => in5_any _ _ _ w)) ?_) | (refine M1 ?_; refine SC ?_) | (refine M2 ?_; refine SE ?_))
      rw [hx]
      repeat (first | (refine M0 ?_; first | refine SL ?_ | refine SB fun _ _ => ?_) | (refine M1 ?_; refine SC ?_) | (refine M2 ?_; refine SE ?_))
      exact XE.leaf () ZZSUB (fun _ h => h) trivial
    | false =>
      rw [hx, Bool.not_false, Bool.true_and, ← hl] at hfi
      have hbd := outB_f.1 hx
      repeat (first | (refine M0 ?_; first | refine SL ?_ | refine SB fun _ _ => ?_ | refine Y4 (Ev.call (f := 35) (ck rfl) rfl (fun w _ => in5_any _ _ _ w)) ?_) | (refine M1 ?_; refine SC ?_) | (refine M2 ?_; refine SE ?_))
      rw [hx]
      repeat (first | (refine M0 ?_; first | refine SL ?_ | refine SB fun _ _ => ?_ | refine Y4 (Ev.call (f := 35) (ck rfl) rfl (fun w _ => in5_any _ _ _ w)) ?_) | (refine M1 ?_; refine SC ?_) | (refine M2 ?_; refine SE ?_))
      rw [hfi]
      exact XE.leaf () ZZSUB (fun _ h => h) trivial
  dsimp only [List.cons_append, List.nil_append]
  have hmx : (t.h k).vals.length ≤ 60 := by omega
  rw [← hll] at hq hmx hE ⊢
  repeat (first | (refine M0 ?_; first | refine SL ?_ | refine SB fun _ _ => ?_) | (refine M1 ?_; refine SC ?_) | (refine M2 ?_; refine SE ?_))
  refine XC.loopk [2, 5, 6] rfl (fun j : Nat => [(7, .bool (b0 && (l.take j).all fun x => !highB x)), (8, .int .i64 (j : Nat))]) (fun _ => [(g6, cel 133 [.int .i64 (t.h 0).from_, .slice pA (t.h 0).vals.length pc]), (g5, cel 133 [.int .i64 (t.h k).from_, .slice qA l.length qc]), (g2, cel 29 (ctkC ⟨vp, vf, ⟨some ad, t.m, ch⟩, vr⟩ t))]) (fun _ => w) (fun j => j ≤ l.length) (fun j => l.length - j) 0 (Nat.zero_le _) (Sub.cons (by show some _ = some _; simp) ZZSUB) (fun _ h => h) ?_
  intro j hj
  dsimp only [List.cons_append, List.nil_append]
  repeat (first | (refine M0 ?_; first | refine SL ?_ | refine SB fun _ _ => ?_) | (refine M1 ?_; refine SC ?_) | (refine M2 ?_; refine SE ?_))
  refine XC.cond _ rfl (fun h2 => ?_) (fun h2 => ?_)
  rotate_left
  · have hjn : j = l.length := by have := of_decide_eq_false h2; omega
    subst hjn
    rw [List.take_length, ← hbb]
    cases hz : (outB (t.h k).from_ 0 (200000 - t.n + 1) || l.any highB) with
    | true =>
      rw [hz] at hE
      repeat (first | (refine M0 ?_; first | refine SL ?_ | refine SB fun _ _ => ?_) | (refine M1 ?_; refine SC ?_) | (refine M2 ?_; refine SE ?_))
      refine XE.retg tok Tryz.results97 rfl (by simp only [and_self, and_true]) (fun w' S => ?_)
      exact ⟨by rw [hE]; rfl, S.toBelow⟩
    | false =>
      rw [hz] at hE
      repeat (first | (refine M0 ?_; first | refine SL ?_ | refine SB fun _ _ => ?_) | (refine M1 ?_; refine SC ?_) | (refine M2 ?_; refine SE ?_))
      refine XE.retg tok Tryz.results97 rfl (by simp only [and_self, and_true]) (fun w' S => ?_)
      exact ⟨by rw [hE]; rfl, S.toBelow⟩
  have hjn : j < l.length := by have := of_decide_eq_true h2; omega
  obtain ⟨aq, rfl, hltq, hcq⟩ := hq.at_ (by omega)
  have hcell := hcq j hjn
  have htk := take_all (f := fun x => !highB x) hjn
  cases hb : (b0 && (l.take j).all fun x => !highB x) with
  | false =>
    have htk2 : (b0 && (l.take (j + 1)).all fun x => !highB x) = false := by rw [htk, ← Bool.and_assoc, hb]; rfl
    repeat (first | (refine M0 ?_; first | refine SL ?_ | refine SB fun _ _ => ?_) | (refine M1 ?_; refine SC ?_) | (refine M2 ?_; refine SE ?_))
    exact XE.round (s := j) (j + 1) (by omega) (by omega) (Sub.cons (by simp only [htk2]; rfl) ZZSUB) (fun _ h => h)
  | true =>
    have htk2 : (b0 && (l.take (j + 1)).all fun x => !highB x) = !outB (at0 l j) (-20000) 20000 := by rw [htk, ← Bool.and_assoc, hb]; rfl
    repeat (first | (refine M0 ?_; first | refine SL ?_ | refine SB fun _ _ => ?_ | refine Y4 (Ev.load_old tok rfl rfl (add_lt hltq) hcell) ?_ | refine Y4 (Ev.call (f := 35) (ck rfl) rfl (fun w _ => in5_any _ _ _ w)) ?_) | (refine M1 ?_; refine SC ?_) | (refine M2 ?_; refine SE ?_))
    exact XE.round (s := j) (j + 1) (by omega) (by omega) (Sub.cons (by simp only [htk2]; rfl) ZZSUB) (fun _ h => h)
end Go.Proofs.YtmpaiphakjogjaaGreat.X
/-
  The walk of the document's Check, and of what returns its error alone (closure).
-/
namespace Go.Proofs.YtmpaiphakjogjaaGreat.Bs
open Go Go.Proofs.YtmpaiphakjogjaaGreat.X
set_option linter.unusedVariables false
theorem filB_take {t : CTk} {j : Nat} : ((List.range (j + 1)).all fun i => !outB (at0 t.fil i) 0 (t.b.pol i).room) = (((List.range j).all fun i => !outB (at0 t.fil i) 0 (t.b.pol i).room) && !outB (at0 t.fil j) 0 (t.b.pol j).room) := by
  rw [List.range_succ, List.all_append]; simp
theorem filB_all {t : CTk} : ((List.range t.fil.length).all fun i => !outB (at0 t.fil i) 0 (t.b.pol i).room) = !filBad t := by
  unfold filBad
  generalize List.range t.fil.length = l
  induction l with
  | nil => rfl
  | cons a l ih => simp [ih, Bool.not_or]
end Go.Proofs.YtmpaiphakjogjaaGreat.Bs
namespace Go.Proofs.YtmpaiphakjogjaaGreat.X
open Go Go.RowKit Go.Proofs.YtmpaiphakjogjaaGreat.Bs
set_option linter.unusedVariables false
set_option maxHeartbeats 16000000 in
theorem refCheck5_any {v : CTV} {t : CTk} {w : World} (h : CtAt w w.heap.size v t) :
    Calls Tryz.prog 78 #[ctkV v t] w fun e w' => e = .returned (chkCV t) ∧ Below w.heap.size w w' := by
  have hm := h.hn
  have hmax := h.hmax
  have hrn := h.river.len
  have hrm := h.river.max
  have hfn := h.fil.len
  have hfm := h.fil.max
  have hpn := h.bas.n2_eq
  have hrows := h.bas.n_eq
  have hbas := h.bas
  have hhis := fun k hk => h.hisAt (k := k) hk
  have hriv := h.river
  have hfil := h.fil
  have hh := h
  obtain ⟨⟨A1, n1, c1, A2, n2, c2⟩, ⟨Af, nf, cf⟩, ⟨Ah, nh, ch⟩, ⟨Ar, nr, cr⟩⟩ := v
  simp only at hm hrn hfn hpn hrows hmax hrm hfm
  subst hm hrn hfn hpn hrows
  have hchk := fun (w5 : World) (hB : Below w.heap.size w w5) => refCheck_any (p := ⟨A1, t.b.rows.length, c1, A2, t.b.pols.length, c2⟩) (b := t.b) (w := w5) ((hbas.below hB).more hB.size)
  simp only [basV, basC] at hchk
  simp only [ctkV, ctkC]
  refine enter Tryz.func78 rfl Tryz.ntmps78 rfl ?_; simp only [frame, Nat.zero_add, Nat.reduceAdd]
  repeat (first | (refine M0 ?_; first | refine SL ?_ | refine SB fun _ _ => ?_ | refine Y4 (Ev.call (f := 96) (ck rfl) rfl (fun w5 S5 => hchk w5 S5.toBelow)) ?_) | (refine M1 ?_; refine SC ?_) | (refine M2 ?_; refine SE ?_))
  rename_i g1 hg1
  by_cases hc : chkE t.b = 0
  rotate_left
  · rw [show decide ((chk t.b).2.2 ≠ 0) = true from decide_eq_true hc]
    repeat (first | (refine M0 ?_; first | refine SL ?_ | refine SB fun _ _ => ?_) | (refine M1 ?_; refine SC ?_) | (refine M2 ?_; refine SE ?_))
    refine XE.retg tok Tryz.results78 rfl (by simp only [and_self, and_true]) (fun w' S => ?_)
    exact ⟨chkCV_of (chkC_1 hc), S.toBelow⟩
  rw [show decide ((chk t.b).2.2 ≠ 0) = false from decide_eq_false (fun h => h hc)]
  repeat (first | (refine M0 ?_; first | refine SL ?_ | refine SB fun _ _ => ?_ | refine Y4 (Ev.call (f := 35) (ck rfl) rfl (fun w _ => in5_any _ _ _ w)) ?_) | (refine M1 ?_; refine SC ?_) | (refine M2 ?_; refine SE ?_))
  cases hm1 : outB (t.m : Int) 1 8
  rotate_left
  · repeat (first | (refine M0 ?_; first | refine SL ?_ | refine SB fun _ _ => ?_) | (refine M1 ?_; refine SC ?_) | (refine M2 ?_; refine SE ?_))
    refine XE.retg tok Tryz.results78 rfl (by simp only [and_self, and_true]) (fun w' S => ?_)
    exact ⟨chkCV_of (chkC_2 hc (by rw [hm1]; rfl)), S.toBelow⟩
  have hm2 := outB_f.1 hm1
  obtain ⟨ad, ⟨A0, n0, c0⟩, rfl, hlt, hcell0, hq0⟩ := hhis 0 (by omega)
  have hl0 := hq0.len
  have hn0 : n0 = t.n := hl0
  subst hn0
  have d01 : w.cell? ((ad.add (0 * 2)).add 1) = some (.slice A0 t.n c0) := hcell0 1 _ rfl
  repeat (first | (refine M0 ?_; first | refine SL ?_ | refine SB fun _ _ => ?_ | refine Y4 (Ev.load_old tok rfl rfl (add_lt2 hlt) d01) ?_ | refine Y4 (Ev.call (f := 35) (ck rfl) rfl (fun w _ => in5_any _ _ _ w)) ?_) | (refine M1 ?_; refine SC ?_) | (refine M2 ?_; refine SE ?_))
  cases hn1 : outB (t.n : Int) 1 60
  rotate_left
  · repeat (first | (refine M0 ?_; first | refine SL ?_ | refine SB fun _ _ => ?_) | (refine M1 ?_; refine SC ?_) | (refine M2 ?_; refine SE ?_))
    refine XE.retg tok Tryz.results78 rfl (by simp only [and_self, and_true]) (fun w' S => ?_)
    exact ⟨chkCV_of (chkC_2 hc (by rw [hm1, hn1]; rfl)), S.toBelow⟩
  have hn2 := outB_f.1 hn1
  have pA : PreA t := ⟨hc, hm1, hn1⟩
  have hhi := fun {L : Lo} (k : Nat) (hk : k < t.m) (w5 : World) (S5 : Sys w.heap.size w L w5) => refHis_any (hh.sys S5) hk (by omega) (by omega)
  simp only [ctkV, ctkC] at hhi
  repeat (first | (refine M0 ?_; first | refine SL ?_ | refine SB fun _ _ => ?_) | (refine M1 ?_; refine SC ?_) | (refine M2 ?_; refine SE ?_))
  refine XC.loopk [1] rfl (fun k : Nat => [(8, .int .i64 (k : Nat))]) (fun _ => [(g1, cel 29 (ctkC ⟨⟨A1, t.b.rows.length, c1, A2, t.b.pols.length, c2⟩, ⟨Af, t.fil.length, cf⟩, ⟨some ad, t.m, ch⟩, ⟨Ar, t.river.length, cr⟩⟩ t))]) (fun _ => w) (fun k => k ≤ t.m ∧ ∀ j, j < k → hisErr t j = 0) (fun k => t.m - k) 0 ⟨Nat.zero_le _, fun j h => absurd h (by omega)⟩ ZZSUB (fun _ h => h) ?_
  rintro k ⟨hk, h0⟩
  simp only [ctkC]
  dsimp only [List.cons_append, List.nil_append]
  repeat (first | (refine M0 ?_; first | refine SL ?_ | refine SB fun _ _ => ?_) | (refine M1 ?_; refine SC ?_) | (refine M2 ?_; refine SE ?_))
  refine XC.cond _ rfl (fun h3 => ?_) (fun h3 => ?_)
  · have hkn : k < t.m := by have := of_decide_eq_true h3; omega
    repeat (first | (refine M0 ?_; first | refine SL ?_ | refine SB fun _ _ => ?_ | refine Y4 (Ev.call (f := 97) (ck rfl) rfl (fun w5 S5 => hhi k hkn w5 S5)) ?_) | (refine M1 ?_; refine SC ?_) | (refine M2 ?_; refine SE ?_))
    by_cases he : hisErr t k = 0
    rotate_left
    · rw [show decide (hisErr t k ≠ 0) = true from decide_eq_true he]
      repeat (first | (refine M0 ?_; first | refine SL ?_ | refine SB fun _ _ => ?_) | (refine M1 ?_; refine SC ?_) | (refine M2 ?_; refine SE ?_))
      refine XE.retg tok Tryz.results78 rfl (by simp only [and_self, and_true]) (fun w' S => ?_)
      exact ⟨chkCV_of (chkC_3 pA hkn h0 rfl he), S.toBelow⟩
    rw [show decide (hisErr t k ≠ 0) = false from decide_eq_false (fun h => h he)]
    repeat (first | (refine M0 ?_; first | refine SL ?_ | refine SB fun _ _ => ?_) | (refine M1 ?_; refine SC ?_) | (refine M2 ?_; refine SE ?_))
    refine XE.round (s := k) (k + 1) ⟨hkn, fun j hj => ?_⟩ (by omega) ZZSUB (fun _ h => h)
    rcases Nat.lt_or_ge j k with h5 | h5
    · exact h0 j h5
    · have : j = k := by omega
      subst this
      exact he
  have hkn : k = t.m := by have := of_decide_eq_false h3; omega
  subst hkn
  have pB : PreB t := ⟨pA, h0⟩
  repeat (first | (refine M0 ?_; first | refine SL ?_ | refine SB fun _ _ => ?_ | refine Y4 (Ev.load_old tok rfl rfl (add_lt2 hlt) d01) ?_) | (refine M1 ?_; first | refine SC ?_ | refine SD ?_) | (refine M2 ?_; refine SE ?_) | (refine M3 ?_; first | refine SG ?_ | refine SF ?_ | refine YF (Ev.load_old tok rfl rfl (add_lt2 hlt) d01) ?_) | (refine M4 ?_; refine SR ?_) | (refine M5 ?_; first | exact M7 | refine YM ?_ | refine YN ?_ ?_))
  by_cases hr : t.river.length = t.n
  rotate_left
  · rw [show decide ((t.river.length : Int) ≠ (t.n : Int)) = true from decide_eq_true (by omega)]
    repeat (first | (refine M0 ?_; first | refine SL ?_ | refine SB fun _ _ => ?_) | (refine M1 ?_; refine SC ?_) | (refine M2 ?_; refine SE ?_))
    refine XE.retg tok Tryz.results78 rfl (by simp only [and_self, and_true]) (fun w' S => ?_)
    exact ⟨chkCV_of (chkC_4 pB hr), S.toBelow⟩
  rw [show decide ((t.river.length : Int) ≠ (t.n : Int)) = false from decide_eq_false (by omega)]
  repeat (first | (refine M0 ?_; first | refine SL ?_ | refine SB fun _ _ => ?_) | (refine M1 ?_; refine SC ?_) | (refine M2 ?_; refine SE ?_))
  refine XC.loopk [1] rfl (fun k : Nat => [(10, .int .i64 (k : Nat))]) (fun _ => [(g1, cel 29 (ctkC ⟨⟨A1, t.b.rows.length, c1, A2, t.b.pols.length, c2⟩, ⟨Af, t.fil.length, cf⟩, ⟨some ad, t.m, ch⟩, ⟨Ar, t.river.length, cr⟩⟩ t))]) (fun _ => w) (fun k => k ≤ t.river.length ∧ ∀ j, j < k → outB (at0 t.river j) 0 10000000 = false) (fun k => t.river.length - k) 0 ⟨Nat.zero_le _, fun j h => absurd h (by omega)⟩ ZZSUB (fun _ h => h) ?_
  rintro k ⟨hk, h1⟩
  simp only [ctkC]
  dsimp only [List.cons_append, List.nil_append]
  repeat (first | (refine M0 ?_; first | refine SL ?_ | refine SB fun _ _ => ?_) | (refine M1 ?_; refine SC ?_) | (refine M2 ?_; refine SE ?_))
  refine XC.cond _ rfl (fun h3 => ?_) (fun h3 => ?_)
  · have hkn : k < t.river.length := by have := of_decide_eq_true h3; omega
    obtain ⟨ar, rfl, hltr, hcr⟩ := hriv.at_ (by omega)
    have dr := hcr k hkn
    repeat (first | (refine M0 ?_; first | refine SL ?_ | refine SB fun _ _ => ?_ | refine Y4 (Ev.load_old tok rfl rfl (add_lt hltr) dr) ?_ | refine Y4 (Ev.call (f := 35) (ck rfl) rfl (fun w _ => in5_any _ _ _ w)) ?_) | (refine M1 ?_; refine SC ?_) | (refine M2 ?_; refine SE ?_))
    cases he : outB (at0 t.river k) 0 10000000
    rotate_left
    · repeat (first | (refine M0 ?_; first | refine SL ?_ | refine SB fun _ _ => ?_) | (refine M1 ?_; refine SC ?_) | (refine M2 ?_; refine SE ?_))
      refine XE.retg tok Tryz.results78 rfl (by simp only [and_self, and_true]) (fun w' S => ?_)
      refine ⟨chkCV_of (chkC_5 pB hr ?_), S.toBelow⟩
      rw [List.any_eq_true]
      exact ⟨t.river[k], List.getElem_mem hkn, by unfold at0 at he; rw [List.getElem?_eq_getElem hkn] at he; exact he⟩
    repeat (first | (refine M0 ?_; first | refine SL ?_ | refine SB fun _ _ => ?_) | (refine M1 ?_; refine SC ?_) | (refine M2 ?_; refine SE ?_))
    refine XE.round (s := k) (k + 1) ⟨hkn, fun j hj => ?_⟩ (by omega) ZZSUB (fun _ h => h)
    rcases Nat.lt_or_ge j k with h5 | h5
    · exact h1 j h5
    · have : j = k := by omega
      subst this
      exact he
  have hkn : k = t.river.length := by have := of_decide_eq_false h3; omega
  subst hkn
  have ha : (t.river.any fun v => outB v 0 10000000) = false := any_of (p := fun v => outB v 0 10000000) h1
  repeat (first | (refine M0 ?_; first | refine SL ?_ | refine SB fun _ _ => ?_) | (refine M1 ?_; refine SC ?_) | (refine M2 ?_; refine SE ?_))
  by_cases hfl : t.fil.length = t.b.pols.length
  rotate_left
  · rw [show decide ((t.fil.length : Int) ≠ (t.b.pols.length : Int)) = true from decide_eq_true (by omega)]
    repeat (first | (refine M0 ?_; first | refine SL ?_ | refine SB fun _ _ => ?_) | (refine M1 ?_; refine SC ?_) | (refine M2 ?_; refine SE ?_))
    refine XE.retg tok Tryz.results78 rfl (by simp only [and_self, and_true]) (fun w' S => ?_)
    exact ⟨chkCV_of (chkC_6 pB hr ha hfl), S.toBelow⟩
  rw [show decide ((t.fil.length : Int) ≠ (t.b.pols.length : Int)) = false from decide_eq_false (by omega)]
  have hOk := ok_of hc
  have hr2 := hOk.n2
  obtain ⟨a1, rfl, hlt1⟩ := hbas.rows.addr (by simp only; omega)
  have dlev : w.cell? ((a1.add (0 * 2)).add 0) = some (.int .i64 (t.b.row 0).level) := hbas.rowLevel (by omega)
  obtain ⟨b0, hb0⟩ : ∃ b0, b0 = !(outB t.out 0 10000000 || (outB t.limit (t.b.row 0).level 20000 || outB t.delay 0 30)) := ⟨_, rfl⟩
  repeat (first | (refine M0 ?_; first | refine SL ?_ | refine SB fun _ _ => ?_) | (refine M2 ?_; refine SE ?_) | (refine M3 ?_; first | refine SG ?_ | refine SF ?_) | (refine M4 ?_; refine SR ?_) | (refine M5 ?_; first | exact M7 | refine YM ?_ | refine YN ?_ ?_))
  refine SC ?_
  refine SC ?_
  refine SE ?_
  refine XC.seq ?_
  refine XC.cutn [1] rfl (fun _ : Unit => [(11, .bool b0)]) (fun _ => [(g1, cel 29 (ctkC ⟨⟨some a1, t.b.rows.length, c1, A2, t.b.pols.length, c2⟩, ⟨Af, t.fil.length, cf⟩, ⟨some ad, t.m, ch⟩, ⟨Ar, t.river.length, cr⟩⟩ t))]) (fun _ => w) (fun _ => True) ?_ (fun _ _ => ?_)
  · cases x1 : outB t.out 0 10000000
    rotate_left
    · repeat (first | (refine M0 ?_; first | refine SL ?_ | refine SB fun _ _ => ?_ | refine Y4 (Ev.call (f := 35) (ck rfl) rfl (fun w _ => in5_any _ _ _ w)) ?_) | (refine M1 ?_; first | refine SC ?_ | refine SD ?_) | (refine M2 ?_; refine SE ?_) | (refine M3 ?_; first | refine SG ?_ | refine SF ?_ | refine YF (Ev.call (f := 35) (ck rfl) rfl (fun w _ => in5_any _ _ _ w)) ?_) | (refine M4 ?_; refine SR ?_) | (refine M5 ?_; first | exact M7 | refine YM ?_ | refine YN ?_ ?_))
      rw [x1]
      repeat (first | (refine M0 ?_; first | refine SL ?_ | refine SB fun _ _ => ?_) | (refine M1 ?_; first | refine SC ?_ | refine SD ?_) | (refine M2 ?_; refine SE ?_) | (refine M3 ?_; first | refine SG ?_ | refine SF ?_) | (refine M4 ?_; refine SR ?_) | (refine M5 ?_; first | exact M7 | refine YM ?_ | refine YN ?_ ?_))
      exact XE.leaf () (Sub.cons (by rw [hb0, x1]; rfl) ZZSUB) (fun _ h => h) trivial
    cases x2 : outB t.limit (t.b.row 0).level 20000
    rotate_left
    · repeat (first | (refine M0 ?_; first | refine SL ?_ | refine SB fun _ _ => ?_ | refine Y4 (Ev.call (f := 35) (ck rfl) rfl (fun w _ => in5_any _ _ _ w)) ?_) | (refine M1 ?_; first | refine SC ?_ | refine SD ?_) | (refine M2 ?_; refine SE ?_) | (refine M3 ?_; first | refine SG ?_ | refine SF ?_ | refine YF (Ev.call (f := 35) (ck rfl) rfl (fun w _ => in5_any _ _ _ w)) ?_) | (refine M4 ?_; refine SR ?_) | (refine M5 ?_; first | exact M7 | refine YM ?_ | refine YN ?_ ?_))
      rw [x1]
      repeat (first | (refine M0 ?_; first | refine SL ?_ | refine SB fun _ _ => ?_ | refine Y4 (Ev.load_old tok rfl rfl (add_lt2 hlt1) dlev) ?_ | refine Y4 (Ev.call (f := 35) (ck rfl) rfl (fun w _ => in5_any _ _ _ w)) ?_) | (refine M1 ?_; first | refine SC ?_ | refine SD ?_) | (refine M2 ?_; refine SE ?_) | (refine M3 ?_; first | refine SG ?_ | refine SF ?_ | refine YF (Ev.load_old tok rfl rfl (add_lt2 hlt1) dlev) ?_ | refine YF (Ev.call (f := 35) (ck rfl) rfl (fun w _ => in5_any _ _ _ w)) ?_) | (refine M4 ?_; refine SR ?_) | (refine M5 ?_; first | exact M7 | refine YM ?_ | refine YN ?_ ?_))
      rw [x2]
      repeat (first | (refine M0 ?_; first | refine SL ?_ | refine SB fun _ _ => ?_) | (refine M1 ?_; first | refine SC ?_ | refine SD ?_) | (refine M2 ?_; refine SE ?_) | (refine M3 ?_; first | refine SG ?_ | refine SF ?_) | (refine M4 ?_; refine SR ?_) | (refine M5 ?_; first | exact M7 | refine YM ?_ | refine YN ?_ ?_))
      exact XE.leaf () (Sub.cons (by rw [hb0, x1, x2]; rfl) ZZSUB) (fun _ h => h) trivial
    repeat (first | (refine M0 ?_; first | refine SL ?_ | refine SB fun _ _ => ?_ | refine Y4 (Ev.call (f := 35) (ck rfl) rfl (fun w _ => in5_any _ _ _ w)) ?_) | (refine M1 ?_; first | refine SC ?_ | refine SD ?_) | (refine M2 ?_; refine SE ?_) | (refine M3 ?_; first | refine SG ?_ | refine SF ?_ | refine YF (Ev.call (f := 35) (ck rfl) rfl (fun w _ => in5_any _ _ _ w)) ?_) | (refine M4 ?_; refine SR ?_) | (refine M5 ?_; first | exact M7 | refine YM ?_ | refine YN ?_ ?_))
    rw [x1]
    repeat (first | (refine M0 ?_; first | refine SL ?_ | refine SB fun _ _ => ?_ | refine Y4 (Ev.load_old tok rfl rfl (add_lt2 hlt1) dlev) ?_ | refine Y4 (Ev.call (f := 35) (ck rfl) rfl (fun w _ => in5_any _ _ _ w)) ?_) | (refine M1 ?_; first | refine SC ?_ | refine SD ?_) | (refine M2 ?_; refine SE ?_) | (refine M3 ?_; first | refine SG ?_ | refine SF ?_ | refine YF (Ev.load_old tok rfl rfl (add_lt2 hlt1) dlev) ?_ | refine YF (Ev.call (f := 35) (ck rfl) rfl (fun w _ => in5_any _ _ _ w)) ?_) | (refine M4 ?_; refine SR ?_) | (refine M5 ?_; first | exact M7 | refine YM ?_ | refine YN ?_ ?_))
    rw [x2]
    repeat (first | (refine M0 ?_; first | refine SL ?_ | refine SB fun _ _ => ?_ | refine Y4 (Ev.call (f := 35) (ck rfl) rfl (fun w _ => in5_any _ _ _ w)) ?_) | (refine M1 ?_; first | refine SC ?_ | refine SD ?_) | (refine M2 ?_; refine SE ?_) | (refine M3 ?_; first | refine SG ?_ | refine SF ?_ | refine YF (Ev.call (f := 35) (ck rfl) rfl (fun w _ => in5_any _ _ _ w)) ?_) | (refine M4 ?_; refine SR ?_) | (refine M5 ?_; first | exact M7 | refine YM ?_ | refine YN ?_ ?_))
    exact XE.leaf () (Sub.cons (by rw [hb0, x1, x2]; rfl) ZZSUB) (fun _ h => h) trivial
  dsimp only [List.cons_append, List.nil_append]
  repeat (first | (refine M0 ?_; first | refine SL ?_ | refine SB fun _ _ => ?_) | (refine M1 ?_; refine SC ?_) | (refine M2 ?_; refine SE ?_))
  refine XC.loopk [1] rfl (fun j : Nat => [(11, .bool (b0 && (List.range j).all fun i => !outB (at0 t.fil i) 0 (t.b.pol i).room)), (12, .int .i64 (j : Nat))]) (fun _ => [(g1, cel 29 (ctkC ⟨⟨some a1, t.b.rows.length, c1, A2, t.b.pols.length, c2⟩, ⟨Af, t.fil.length, cf⟩, ⟨some ad, t.m, ch⟩, ⟨Ar, t.river.length, cr⟩⟩ t))]) (fun _ => w) (fun j => j ≤ t.fil.length) (fun j => t.fil.length - j) 0 (Nat.zero_le _) (Sub.cons (by show some _ = some _; simp) ZZSUB) (fun _ h => h) ?_
  intro j hj
  simp only [ctkC]
  dsimp only [List.cons_append, List.nil_append]
  repeat (first | (refine M0 ?_; first | refine SL ?_ | refine SB fun _ _ => ?_) | (refine M1 ?_; refine SC ?_) | (refine M2 ?_; refine SE ?_))
  refine XC.cond _ rfl (fun h2 => ?_) (fun h2 => ?_)
  rotate_left
  · have hjn : j = t.fil.length := by have := of_decide_eq_false h2; omega
    subst hjn
    rw [filB_all]
    cases b0 with
    | false =>
      repeat (first | (refine M0 ?_; first | refine SL ?_ | refine SB fun _ _ => ?_) | (refine M1 ?_; refine SC ?_) | (refine M2 ?_; refine SE ?_))
      refine XE.retg tok Tryz.results78 rfl (by simp only [and_self, and_true]) (fun w' S => ?_)
      refine ⟨chkCV_of (chkC_7 pB hr ha hfl ?_), S.toBelow⟩
      cases hx : (outB t.out 0 10000000 || (outB t.limit (t.b.row 0).level 20000 || outB t.delay 0 30)) with
      | true => rfl
      | false => rw [hx] at hb0; cases hb0
    | true =>
      have h7 : (outB t.out 0 10000000 || (outB t.limit (t.b.row 0).level 20000 || outB t.delay 0 30)) = false := by
        cases hx : (outB t.out 0 10000000 || (outB t.limit (t.b.row 0).level 20000 || outB t.delay 0 30)) with
        | false => rfl
        | true => rw [hx] at hb0; cases hb0
      cases hfb : filBad t
      · repeat (first | (refine M0 ?_; first | refine SL ?_ | refine SB fun _ _ => ?_) | (refine M1 ?_; refine SC ?_) | (refine M2 ?_; refine SE ?_))
        refine XE.retg tok Tryz.results78 rfl (by simp only [and_self, and_true]) (fun w' S => ?_)
        exact ⟨chkCV_of (chkC_9 pB hr ha hfl h7 hfb), S.toBelow⟩
      · repeat (first | (refine M0 ?_; first | refine SL ?_ | refine SB fun _ _ => ?_) | (refine M1 ?_; refine SC ?_) | (refine M2 ?_; refine SE ?_))
        refine XE.retg tok Tryz.results78 rfl (by simp only [and_self, and_true]) (fun w' S => ?_)
        exact ⟨chkCV_of (chkC_8 pB hr ha hfl h7 hfb), S.toBelow⟩
  have hjn : j < t.fil.length := by have := of_decide_eq_true h2; omega
  obtain ⟨af, rfl, hltf, hcf⟩ := hfil.at_ (by omega)
  have df := hcf j hjn
  obtain ⟨ap, rfl, hltp⟩ := hbas.pols.addr (by simp only; omega)
  have droom : w.cell? ((ap.add (j * 4)).add 3) = some (.int .i64 (t.b.pol j).room) := hbas.pol (by omega) 3 _ rfl
  have htk := filB_take (t := t) (j := j)
  cases hb : (b0 && (List.range j).all fun i => !outB (at0 t.fil i) 0 (t.b.pol i).room) with
  | false =>
    have htk2 : (b0 && (List.range (j + 1)).all fun i => !outB (at0 t.fil i) 0 (t.b.pol i).room) = false := by rw [htk, ← Bool.and_assoc, hb]; rfl
    repeat (first | (refine M0 ?_; first | refine SL ?_ | refine SB fun _ _ => ?_) | (refine M1 ?_; first | refine SC ?_ | refine SD ?_) | (refine M2 ?_; refine SE ?_) | (refine M3 ?_; first | refine SG ?_ | refine SF ?_) | (refine M4 ?_; refine SR ?_) | (refine M5 ?_; first | exact M7 | refine YM ?_ | refine YN ?_ ?_))
    exact XE.round (s := j) (j + 1) (by omega) (by omega) (Sub.cons (by simp only [htk2]; rfl) ZZSUB) (fun _ h => h)
  | true =>
    have htk2 : (b0 && (List.range (j + 1)).all fun i => !outB (at0 t.fil i) 0 (t.b.pol i).room) = !outB (at0 t.fil j) 0 (t.b.pol j).room := by rw [htk, ← Bool.and_assoc, hb]; rfl
    repeat (first | (refine M0 ?_; first | refine SL ?_ | refine SB fun _ _ => ?_ | refine Y4 (Ev.load_old tok rfl rfl (add_lt hltf) df) ?_ | refine Y4 (Ev.load_old tok rfl rfl (add_lt2 hltp) droom) ?_ | refine Y4 (Ev.call (f := 35) (ck rfl) rfl (fun w _ => in5_any _ _ _ w)) ?_) | (refine M1 ?_; first | refine SC ?_ | refine SD ?_) | (refine M2 ?_; refine SE ?_) | (refine M3 ?_; first | refine SG ?_ | refine SF ?_ | refine YF (Ev.load_old tok rfl rfl (add_lt hltf) df) ?_ | refine YF (Ev.load_old tok rfl rfl (add_lt2 hltp) droom) ?_ | refine YF (Ev.call (f := 35) (ck rfl) rfl (fun w _ => in5_any _ _ _ w)) ?_) | (refine M4 ?_; refine SR ?_) | (refine M5 ?_; first | exact M7 | refine YM ?_ | refine YN ?_ ?_))
    exact XE.round (s := j) (j + 1) (by omega) (by omega) (Sub.cons (by simp only [htk2]; rfl) ZZSUB) (fun _ h => h)
theorem good5_any {v : CTV} {t : CTk} {w : World} (h : CtAt w w.heap.size v t) :
    Calls Tryz.prog 34 #[ctkV v t] w fun e w' => e = .returned (.int .i64 (ctE t)) ∧ Below w.heap.size w w' := by
  have hchk := fun {L : Lo} (w5 : World) (S5 : Sys w.heap.size w L w5) => refCheck5_any (h.sys S5)
  simp only [ctkV, ctkC, chkCV] at hchk ⊢
  refine enter Tryz.func34 rfl Tryz.ntmps34 rfl ?_; simp only [frame, Nat.zero_add, Nat.reduceAdd]
  repeat (first | (refine M0 ?_; first | refine SL ?_ | refine SB fun _ _ => ?_ | refine Y4 (Ev.call (f := 78) (ck rfl) rfl (fun w5 S5 => hchk w5 S5)) ?_) | (refine M1 ?_; refine SC ?_) | (refine M2 ?_; refine SE ?_))
  refine XE.retg tok Tryz.results34 rfl (by simp only [and_self, and_true]) (fun w' S => ?_)
  exact ⟨rfl, S.toBelow⟩
end Go.Proofs.YtmpaiphakjogjaaGreat.X
/-
  The law ClosureOpens.
-/
namespace Go.Proofs.YtmpaiphakjogjaaGreat.Bs
open Go Go.Proofs.YtmpaiphakjogjaaGreat.X
set_option linter.unusedVariables false
end Go.Proofs.YtmpaiphakjogjaaGreat.Bs
namespace Go.Proofs.YtmpaiphakjogjaaGreat.X
open Go Go.RowKit Go.Proofs.YtmpaiphakjogjaaGreat.Bs
set_option linter.unusedVariables false
end Go.Proofs.YtmpaiphakjogjaaGreat.X
/-
  The walks of whole, Long and levels of the statements (closure).
-/
namespace Go.Proofs.YtmpaiphakjogjaaGreat.Bs
open Go Go.Proofs.YtmpaiphakjogjaaGreat.X
set_option linter.unusedVariables false
def CTk.wholeB (t : CTk) : Bool := decide (0 < t.m) && (List.range t.m).all fun k => decide ((t.h k).vals.length = t.river.length) && decide ((t.h k).from_ = t.from_)
def CTk.longB (t : CTk) : Bool := (decide (12 < t.river.length) && decide (t.river.length ≤ 60)) || (decide (4 < t.m) && decide (t.m ≤ 8))
end Go.Proofs.YtmpaiphakjogjaaGreat.Bs
namespace Go.Proofs.YtmpaiphakjogjaaGreat.X
open Go Go.RowKit Go.Proofs.YtmpaiphakjogjaaGreat.Bs
set_option linter.unusedVariables false
end Go.Proofs.YtmpaiphakjogjaaGreat.X
/-
  The walk of Long, for the seat whose laws do not call whole (closure).
-/
namespace Go.Proofs.YtmpaiphakjogjaaGreat.X
open Go Go.RowKit Go.Proofs.YtmpaiphakjogjaaGreat.Bs
set_option linter.unusedVariables false
theorem Longz_any {v : CTV} {t : CTk} {w : World} (hT : CtAt w w.heap.size v t) :
    Calls Tryz.prog 8 #[ctkV v t] w fun e w' => e = .returned (.bool t.longB) ∧ Below w.heap.size w w' := by
  have hhn := hT.hn
  have hhm := hT.hmax
  have hrn := hT.river.len
  have hrm := hT.river.max
  obtain ⟨vp, vf, ⟨Ah, nh, ch⟩, ⟨Ar, nr, cr⟩⟩ := v
  simp only at hhn hrn hhm hrm
  subst hhn hrn
  have k1 : decide ((12 : Int) < (t.river.length : Int)) = decide (12 < t.river.length) := by rw [decide_eq_decide]; omega
  have k2 : decide ((t.river.length : Int) ≤ 60) = decide (t.river.length ≤ 60) := by rw [decide_eq_decide]; omega
  have k3 : decide ((4 : Int) < (t.m : Int)) = decide (4 < t.m) := by rw [decide_eq_decide]; omega
  have k4 : decide ((t.m : Int) ≤ 8) = decide (t.m ≤ 8) := by rw [decide_eq_decide]; omega
  simp only [ctkV, ctkC]
  unfold CTk.longB
  refine enter Tryz.func8 rfl Tryz.ntmps8 rfl ?_; simp only [frame, Nat.zero_add, Nat.reduceAdd]
  repeat (first | (refine M0 ?_; first | refine SL ?_ | refine SB fun _ _ => ?_) | (refine M1 ?_; refine SC ?_) | (refine M2 ?_; refine SE ?_))
  rw [k1]
  cases decide (12 < t.river.length) with
  | true =>
    repeat (first | (refine M0 ?_; first | refine SL ?_ | refine SB fun _ _ => ?_) | (refine M1 ?_; refine SC ?_) | (refine M2 ?_; refine SE ?_))
    rw [k2]
    cases decide (t.river.length ≤ 60) with
    | true =>
      repeat (first | (refine M0 ?_; first | refine SL ?_ | refine SB fun _ _ => ?_) | (refine M1 ?_; refine SC ?_) | (refine M2 ?_; refine SE ?_))
      refine XE.retg tok Tryz.results8 rfl (by simp only [and_self, and_true]) (fun w' S => ?_)
      exact ⟨rfl, S.toBelow⟩
    | false =>
      repeat (first | (refine M0 ?_; first | refine SL ?_ | refine SB fun _ _ => ?_) | (refine M1 ?_; refine SC ?_) | (refine M2 ?_; refine SE ?_))
      rw [k3]
      cases decide (4 < t.m) with
      | true =>
        repeat (first | (refine M0 ?_; first | refine SL ?_ | refine SB fun _ _ => ?_) | (refine M1 ?_; refine SC ?_) | (refine M2 ?_; refine SE ?_))
        rw [k4]
        refine XE.retg tok Tryz.results8 rfl (by simp only [and_self, and_true]) (fun w' S => ?_)
        exact ⟨rfl, S.toBelow⟩
      | false =>
        repeat (first | (refine M0 ?_; first | refine SL ?_ | refine SB fun _ _ => ?_) | (refine M1 ?_; refine SC ?_) | (refine M2 ?_; refine SE ?_))
        refine XE.retg tok Tryz.results8 rfl (by simp only [and_self, and_true]) (fun w' S => ?_)
        exact ⟨rfl, S.toBelow⟩
  | false =>
    repeat (first | (refine M0 ?_; first | refine SL ?_ | refine SB fun _ _ => ?_) | (refine M1 ?_; refine SC ?_) | (refine M2 ?_; refine SE ?_))
    rw [k3]
    cases decide (4 < t.m) with
    | true =>
      repeat (first | (refine M0 ?_; first | refine SL ?_ | refine SB fun _ _ => ?_) | (refine M1 ?_; refine SC ?_) | (refine M2 ?_; refine SE ?_))
      rw [k4]
      refine XE.retg tok Tryz.results8 rfl (by simp only [and_self, and_true]) (fun w' S => ?_)
      exact ⟨rfl, S.toBelow⟩
    | false =>
      repeat (first | (refine M0 ?_; first | refine SL ?_ | refine SB fun _ _ => ?_) | (refine M1 ?_; refine SC ?_) | (refine M2 ?_; refine SE ?_))
      refine XE.retg tok Tryz.results8 rfl (by simp only [and_self, and_true]) (fun w' S => ?_)
      exact ⟨rfl, S.toBelow⟩
end Go.Proofs.YtmpaiphakjogjaaGreat.X
/-
  The walks of the document's from, end, can, high, quiet, Quiet, plan and Plan; the law ClosureChecks.
-/
namespace Go.Proofs.YtmpaiphakjogjaaGreat.Bs
open Go Go.Proofs.YtmpaiphakjogjaaGreat.X
set_option linter.unusedVariables false
/-- the quiet tick as it stands inside a round of the ticks: i ticks and k histories of the next seen. -/
def CTk.qIn (t : CTk) (i k : Nat) : Int := if (List.range k).any (fun j => decide (t.limit < t.v j i)) = true then (i : Int) + 1 else t.qTo i
theorem qIn_t {t : CTk} {i k : Nat} (h : t.limit < t.v k i) : t.qIn i (k + 1) = (i : Int) + 1 := by
  unfold CTk.qIn
  rw [List.range_succ, List.any_append, if_pos (by simp [h])]
theorem qIn_f {t : CTk} {i k : Nat} (h : ¬t.limit < t.v k i) : t.qIn i (k + 1) = t.qIn i k := by
  unfold CTk.qIn
  rw [List.range_succ, List.any_append]
  simp [h]
theorem qIn_m {t : CTk} {i : Nat} : t.qIn i t.m = t.qTo (i + 1) := by
  unfold CTk.qIn
  show (if t.highAt i = true then _ else _) = ((if t.highAt i = true then i + 1 else t.qTo i : Nat) : Int)
  split <;> simp
theorem qIn_b {t : CTk} {i k : Nat} : 0 ≤ t.qIn i k ∧ t.qIn i k ≤ i + 1 := by
  have := (qTo_spec t i).1
  unfold CTk.qIn
  split <;> omega
theorem plan_at {t : CTk} {i : Int} : (⟨i, max (t.from_ + (t.q : Int)) (i + t.delay + 1)⟩ : CPl) = t.plan (i - t.from_) := by
  unfold CTk.plan
  congr 1 <;> omega
theorem can_at {t : CTk} : t.from_ + (t.n : Int) - 1 - t.delay = t.from_ + t.last := by unfold CTk.last; omega
end Go.Proofs.YtmpaiphakjogjaaGreat.Bs
namespace Go.Proofs.YtmpaiphakjogjaaGreat.X
open Go Go.RowKit Go.Proofs.YtmpaiphakjogjaaGreat.Bs
set_option linter.unusedVariables false
section
variable {v : CTV} {t : CTk} {w : World}
theorem from5_any (hT : CtAt w w.heap.size v t) (ho : CtOk t) :
    Calls Tryz.prog 37 #[ctkV v t] w fun e w' => e = .returned (.int .i64 t.from_) ∧ Below w.heap.size w w' := by
  obtain ⟨ad, q, e1, hlt, hc, hq⟩ := hT.hisAt (k := 0) (by have := ho.m1; omega)
  have hhn := hT.hn
  have hm := ho.m1
  obtain ⟨vp, vf, ⟨Ah, nh, ch⟩, vr⟩ := v
  simp only at hhn e1
  subst hhn e1
  have c0 := hc 0 _ rfl
  simp only [ctkV, ctkC]
  refine enter Tryz.func37 rfl Tryz.ntmps37 rfl ?_; simp only [frame, Nat.zero_add, Nat.reduceAdd]
  repeat (first | (refine M0 ?_; first | refine SL ?_ | refine SB fun _ _ => ?_ | refine Y4 (Ev.load_old tok rfl rfl (add_lt2 hlt) c0) ?_) | (refine M1 ?_; refine SC ?_) | (refine M2 ?_; refine SE ?_))
  refine XE.retg tok Tryz.results37 rfl (by simp only [and_self, and_true]) (fun w' S => ?_)
  exact ⟨rfl, S.toBelow⟩
theorem end5_any (hT : CtAt w w.heap.size v t) (ho : CtOk t) :
    Calls Tryz.prog 36 #[ctkV v t] w fun e w' => e = .returned (.int .i64 (t.from_ + (t.n : Int))) ∧ Below w.heap.size w w' := by
  have hfr := fun {L : Lo} (w5 : World) (S5 : Sys w.heap.size w L w5) => from5_any (hT.sys S5) ho
  obtain ⟨ad, q, e1, hlt, hc, hq⟩ := hT.hisAt (k := 0) (by have := ho.m1; omega)
  have hhn := hT.hn
  have hm := ho.m1
  have h1 := ho.frm
  have h3 := ho.n60
  have hql := hq.len
  have hqm := hq.max
  obtain ⟨vp, vf, ⟨Ah, nh, ch⟩, vr⟩ := v
  obtain ⟨qA, qn, qc⟩ := q
  simp only at hhn e1 hql hqm
  subst hhn e1 hql
  have c0 := hc 1 _ rfl
  simp only [svV] at c0
  have en : (t.h 0).vals.length = t.n := rfl
  simp only [ctkV, ctkC] at hfr ⊢
  refine enter Tryz.func36 rfl Tryz.ntmps36 rfl ?_; simp only [frame, Nat.zero_add, Nat.reduceAdd]
  repeat (first | (refine M0 ?_; first | refine SL ?_ | refine SB fun _ _ => ?_ | refine Y4 (Ev.call (f := 37) (ck rfl) rfl (fun w5 S5 => hfr w5 S5)) ?_ | refine Y4 (Ev.load_old tok rfl rfl (add_lt2 hlt) c0) ?_) | (refine M1 ?_; first | refine SC ?_ | refine SD ?_) | (refine M2 ?_; refine SE ?_) | (refine M3 ?_; first | refine SG ?_ | refine SF ?_ | refine YF (Ev.call (f := 37) (ck rfl) rfl (fun w5 S5 => hfr w5 S5)) ?_ | refine YF (Ev.load_old tok rfl rfl (add_lt2 hlt) c0) ?_) | (refine M4 ?_; refine SR ?_) | (refine M5 ?_; first | exact M7 | refine YM ?_ | refine YN ?_ ?_))
  refine XE.retg tok Tryz.results36 rfl (by simp only [and_self, and_true]) (fun w' S => ?_)
  exact ⟨rfl, S.toBelow⟩
theorem can5_any {i : Int} (hT : CtAt w w.heap.size v t) (ho : CtOk t) :
    Calls Tryz.prog 81 #[ctkV v t, .int .i64 i] w fun e w' => e = .returned (.bool (!outB i t.from_ (t.from_ + t.last))) ∧ Below w.heap.size w w' := by
  have hfr := fun {L : Lo} (w5 : World) (S5 : Sys w.heap.size w L w5) => from5_any (hT.sys S5) ho
  have hen := fun {L : Lo} (w5 : World) (S5 : Sys w.heap.size w L w5) => end5_any (hT.sys S5) ho
  have h1 := ho.frm
  have h2 := ho.dly
  have h3 := ho.n60
  simp only [ctkV, ctkC] at hfr hen ⊢
  rw [← can_at]
  refine enter Tryz.func81 rfl Tryz.ntmps81 rfl ?_; simp only [frame, Nat.zero_add, Nat.reduceAdd]
  repeat (first | (refine M0 ?_; first | refine SL ?_ | refine SB fun _ _ => ?_ | refine Y4 (Ev.call (f := 37) (ck rfl) rfl (fun w5 S5 => hfr w5 S5)) ?_ | refine Y4 (Ev.call (f := 36) (ck rfl) rfl (fun w5 S5 => hen w5 S5)) ?_ | refine Y4 (Ev.call (f := 35) (ck rfl) rfl (fun w _ => in5_any _ _ _ w)) ?_) | (refine M1 ?_; first | refine SC ?_ | refine SD ?_) | (refine M2 ?_; refine SE ?_) | (refine M3 ?_; first | refine SG ?_ | refine SF ?_ | refine YF (Ev.call (f := 37) (ck rfl) rfl (fun w5 S5 => hfr w5 S5)) ?_ | refine YF (Ev.call (f := 36) (ck rfl) rfl (fun w5 S5 => hen w5 S5)) ?_ | refine YF (Ev.call (f := 35) (ck rfl) rfl (fun w _ => in5_any _ _ _ w)) ?_) | (refine M4 ?_; refine SR ?_) | (refine M5 ?_; first | exact M7 | refine YM ?_ | refine YN ?_ ?_))
  refine XE.retg tok Tryz.results81 rfl (by simp only [and_self, and_true]) (fun w' S => ?_)
  exact ⟨rfl, S.toBelow⟩
theorem high5_any {k i : Nat} {x : Int} (hT : CtAt w w.heap.size v t) (ho : CtOk t) (hk : k < t.m) (hi : i < t.n) (hx : x = t.from_ + (i : Int)) :
    Calls Tryz.prog 98 #[ctkV v t, .int .i64 (k : Nat), .int .i64 x] w fun e w' => e = .returned (.bool (decide (t.limit < t.v k i))) ∧ Below w.heap.size w w' := by
  subst hx
  have hfr := fun {L : Lo} (w5 : World) (S5 : Sys w.heap.size w L w5) => from5_any (hT.sys S5) ho
  obtain ⟨ad, q, e1, hlt, hc, hq⟩ := hT.hisAt (k := k) hk
  have hhn := hT.hn
  have hhm := hT.hmax
  have hm := ho.m8
  have h1 := ho.frm
  have h3 := ho.n60
  have hl := ho.len k hk
  have hql := hq.len
  have hqm := hq.max
  obtain ⟨aq, eq, hltq, hcq⟩ := hq.at_ (by omega)
  obtain ⟨vp, vf, ⟨Ah, nh, ch⟩, vr⟩ := v
  obtain ⟨qA, qn, qc⟩ := q
  simp only at hhn e1 hql eq hhm hqm
  subst hhn e1 hql eq
  have c0 := hc 1 _ rfl
  simp only [svV] at c0
  have e5 : (t.from_ + (i : Int) - t.from_).toNat = i := by omega
  have d0 : w.cell? (aq.add ((t.from_ + (i : Int) - t.from_).toNat * 1)) = some (.int .i64 (t.v k i)) := by rw [e5]; exact hcq i (by omega)
  simp only [ctkV, ctkC] at hfr ⊢
  refine enter Tryz.func98 rfl Tryz.ntmps98 rfl ?_; simp only [frame, Nat.zero_add, Nat.reduceAdd]
  repeat (first | (refine M0 ?_; first | refine SL ?_ | refine SB fun _ _ => ?_ | refine Y4 (Ev.call (f := 37) (ck rfl) rfl (fun w5 S5 => hfr w5 S5)) ?_ | refine Y4 (Ev.load_old tok rfl rfl (add_lt2 hlt) c0) ?_ | refine Y4 (Ev.load_old tok rfl rfl (add_lt hltq) d0) ?_) | (refine M1 ?_; first | refine SC ?_ | refine SD ?_) | (refine M2 ?_; refine SE ?_) | (refine M3 ?_; first | refine SG ?_ | refine SF ?_ | refine YF (Ev.call (f := 37) (ck rfl) rfl (fun w5 S5 => hfr w5 S5)) ?_ | refine YF (Ev.load_old tok rfl rfl (add_lt2 hlt) c0) ?_ | refine YF (Ev.load_old tok rfl rfl (add_lt hltq) d0) ?_) | (refine M4 ?_; refine SR ?_) | (refine M5 ?_; first | exact M7 | refine YM ?_ | refine YN ?_ ?_))
  refine XE.retg tok Tryz.results98 rfl (by simp only [and_self, and_true]) (fun w' S => ?_)
  exact ⟨rfl, S.toBelow⟩
set_option maxHeartbeats 8000000 in
theorem quiet5_any (hT : CtAt w w.heap.size v t) (ho : CtOk t) :
    Calls Tryz.prog 80 #[ctkV v t] w fun e w' => e = .returned (.int .i64 (t.from_ + (t.q : Int))) ∧ Below w.heap.size w w' := by
  have hfr := fun {L : Lo} (w5 : World) (S5 : Sys w.heap.size w L w5) => from5_any (hT.sys S5) ho
  have hen := fun {L : Lo} (w5 : World) (S5 : Sys w.heap.size w L w5) => end5_any (hT.sys S5) ho
  have hhi := fun (i k : Nat) (hi : i < t.n) (hk : k < t.m) {L : Lo} (w5 : World) (S5 : Sys w.heap.size w L w5) => high5_any (hT.sys S5) ho hk hi rfl
  have h1 := ho.frm
  have h3 := ho.n60
  have hm8 := ho.m8
  have hhn := hT.hn
  obtain ⟨vp, vf, ⟨Ah, nh, ch⟩, vr⟩ := v
  simp only at hhn
  subst hhn
  simp only [ctkV, ctkC] at hfr hen hhi ⊢
  refine enter Tryz.func80 rfl Tryz.ntmps80 rfl ?_; simp only [frame, Nat.zero_add, Nat.reduceAdd]
  repeat (first | (refine M0 ?_; first | refine SL ?_ | refine SB fun _ _ => ?_ | refine Y4 (Ev.call (f := 37) (ck rfl) rfl (fun w5 S5 => hfr w5 S5)) ?_) | (refine M1 ?_; refine SC ?_) | (refine M2 ?_; refine SE ?_))
  rename_i g1 hg1
  refine XC.loopk [1] rfl (fun i : Nat => [(3, .int .i64 (t.from_ + (t.qTo i : Int))), (4, .int .i64 (t.from_ + (i : Int)))]) (fun _ => [(g1, cel 29 (ctkC ⟨vp, vf, ⟨Ah, t.m, ch⟩, vr⟩ t))]) (fun _ => w) (fun i => i ≤ t.n) (fun i => t.n - i) 0 (Nat.zero_le _) (Sub.cons (by show some _ = some _; simp [CTk.qTo]) (Sub.cons (by show some _ = some _; simp) ZZSUB)) (fun _ h => h) ?_
  intro i hi
  simp only [ctkC]
  have hq := (qTo_spec t i).1
  dsimp only [List.cons_append, List.nil_append]
  repeat (first | (refine M0 ?_; first | refine SL ?_ | refine SB fun _ _ => ?_ | refine Y4 (Ev.call (f := 36) (ck rfl) rfl (fun w5 S5 => hen w5 S5)) ?_) | (refine M1 ?_; refine SC ?_) | (refine M2 ?_; refine SE ?_))
  refine XC.cond _ rfl (fun h2 => ?_) (fun h2 => ?_)
  rotate_left
  · have hin : i = t.n := by have := of_decide_eq_false h2; omega
    subst hin
    repeat (first | (refine M0 ?_; first | refine SL ?_ | refine SB fun _ _ => ?_) | (refine M1 ?_; refine SC ?_) | (refine M2 ?_; refine SE ?_))
    refine XE.retg tok Tryz.results80 rfl (by simp only [and_self, and_true]) (fun w' S => ?_)
    exact ⟨rfl, S.toBelow⟩
  have hin : i < t.n := by have := of_decide_eq_true h2; omega
  repeat (first | (refine M0 ?_; first | refine SL ?_ | refine SB fun _ _ => ?_) | (refine M1 ?_; refine SC ?_) | (refine M2 ?_; refine SE ?_))
  refine XC.loopk [1, 4] rfl (fun k : Nat => [(3, .int .i64 (t.from_ + t.qIn i k)), (5, .int .i64 (k : Nat))]) (fun _ => [(g1, cel 29 (ctkC ⟨vp, vf, ⟨Ah, t.m, ch⟩, vr⟩ t))]) (fun _ => w) (fun k => k ≤ t.m) (fun k => t.m - k) 0 (Nat.zero_le _) ZZSUB (fun _ h => h) ?_
  intro k hk
  simp only [ctkC]
  have hb := qIn_b (t := t) (i := i) (k := k)
  dsimp only [List.cons_append, List.nil_append]
  repeat (first | (refine M0 ?_; first | refine SL ?_ | refine SB fun _ _ => ?_) | (refine M1 ?_; refine SC ?_) | (refine M2 ?_; refine SE ?_))
  refine XC.cond _ rfl (fun h4 => ?_) (fun h4 => ?_)
  rotate_left
  · have hkm : k = t.m := by have := of_decide_eq_false h4; omega
    subst hkm
    rw [qIn_m]
    repeat (first | (refine M0 ?_; first | refine SL ?_ | refine SB fun _ _ => ?_) | (refine M1 ?_; refine SC ?_) | (refine M2 ?_; refine SE ?_))
    exact XE.round (s := i) (i + 1) (by omega) (by omega) (Sub.cons rfl (Sub.cons (by show some _ = some _; congr 2; omega) ZZSUB)) (fun _ h => h)
  have hkm : k < t.m := by have := of_decide_eq_true h4; omega
  repeat (first | (refine M0 ?_; first | refine SL ?_ | refine SB fun _ _ => ?_ | refine Y4 (Ev.call (f := 98) (ck rfl) rfl (fun w5 S5 => hhi i k hin hkm w5 S5)) ?_) | (refine M1 ?_; refine SC ?_) | (refine M2 ?_; refine SE ?_))
  refine XC.cond _ rfl (fun h5 => ?_) (fun h5 => ?_)
  · repeat (first | (refine M0 ?_; first | refine SL ?_ | refine SB fun _ _ => ?_) | (refine M1 ?_; refine SC ?_) | (refine M2 ?_; refine SE ?_))
    exact XE.round (s := k) (k + 1) (by omega) (by omega) (Sub.cons (by show some _ = some _; rw [qIn_t (of_decide_eq_true h5)]; congr 2; omega) ZZSUB) (fun _ h => h)
  · repeat (first | (refine M0 ?_; first | refine SL ?_ | refine SB fun _ _ => ?_) | (refine M1 ?_; refine SC ?_) | (refine M2 ?_; refine SE ?_))
    exact XE.round (s := k) (k + 1) (by omega) (by omega) (Sub.cons (by show some _ = some _; rw [qIn_f (of_decide_eq_false h5)]) ZZSUB) (fun _ h => h)
theorem refplan_any {i : Int} (hT : CtAt w w.heap.size v t) (ho : CtOk t) (hi : 0 ≤ i ∧ i ≤ 300000) :
    Calls Tryz.prog 39 #[ctkV v t, .int .i64 i] w fun e w' => e = .returned (plnV (t.plan (i - t.from_))) ∧ Below w.heap.size w w' := by
  have hqu := fun {L : Lo} (w5 : World) (S5 : Sys w.heap.size w L w5) => quiet5_any (hT.sys S5) ho
  have h2 := ho.dly
  simp only [ctkV, ctkC] at hqu ⊢
  rw [← plan_at]
  simp only [plnV]
  refine enter Tryz.func39 rfl Tryz.ntmps39 rfl ?_; simp only [frame, Nat.zero_add, Nat.reduceAdd]
  repeat (first | (refine M0 ?_; first | refine SL ?_ | refine SB fun _ _ => ?_ | refine Y4 (Ev.call (f := 80) (ck rfl) rfl (fun w5 S5 => hqu w5 S5)) ?_) | (refine M1 ?_; first | refine SC ?_ | refine SD ?_) | (refine M2 ?_; refine SE ?_) | (refine M3 ?_; first | refine SG ?_ | refine SF ?_ | refine YF (Ev.call (f := 80) (ck rfl) rfl (fun w5 S5 => hqu w5 S5)) ?_) | (refine M4 ?_; refine SR ?_) | (refine M5 ?_; first | exact M7 | refine YM ?_ | refine YN ?_ ?_))
  refine XE.retg tok Tryz.results39 rfl (by simp only [and_self, and_true]) (fun w' S => ?_)
  exact ⟨rfl, S.toBelow⟩
end
end Go.Proofs.YtmpaiphakjogjaaGreat.X
/-
  The walks of the document's never, planned, fits, span, ruled and first (closure).
-/
namespace Go.Proofs.YtmpaiphakjogjaaGreat.Bs
open Go Go.Proofs.YtmpaiphakjogjaaGreat.X
set_option linter.unusedVariables false
def CTk.fstI (t : CTk) (k : Nat) : Int := match t.fst k with
  | none => -1
  | some i => t.from_ + (i : Nat)
noncomputable def CTk.rspan (t : CTk) (x : RL) : Int × Int := if x.shut = true then (lvlLo t.b x.n, lvlHi t.b x.n) else (x.n, x.n)
end Go.Proofs.YtmpaiphakjogjaaGreat.Bs
namespace Go.Proofs.YtmpaiphakjogjaaGreat.X
open Go Go.RowKit Go.Proofs.YtmpaiphakjogjaaGreat.Bs
set_option linter.unusedVariables false
section
variable {v : CTV} {t : CTk} {w : World}
def rlV (x : RL) : Value := .agg ⟨[.bool x.shut, .bool x.great, .int .i64 x.n]⟩
theorem rnever5_any (w : World) : Calls Tryz.prog 51 #[] w fun e w' => e = .returned (.agg ⟨[.int .i64 (-1), .int .i64 (-1)]⟩) ∧ Below w.heap.size w w' := by
  refine enter Tryz.func51 rfl Tryz.ntmps51 rfl ?_; simp only [frame, Nat.zero_add, Nat.reduceAdd]
  repeat (first | (refine M0 ?_; first | refine SL ?_ | refine SB fun _ _ => ?_) | (refine M1 ?_; refine SC ?_) | (refine M2 ?_; refine SE ?_))
  refine XE.retg tok Tryz.results51 rfl (by simp only [and_self, and_true]) (fun w' S => ?_)
  exact ⟨rfl, S.toBelow⟩
theorem ruled5_any {r : CRu} (hT : CtAt w w.heap.size v t) :
    Calls Tryz.prog 43 #[ctkV v t, ruV r] w fun e w' => e = .returned (.int .i64 (ruE t r)) ∧ Below w.heap.size w w' := by
  have hgo := fun {L : Lo} (w5 : World) (S5 : Sys w.heap.size w L w5) => good5_any (hT.sys S5)
  simp only [ctkV, ctkC, ruV] at hgo ⊢
  unfold ruE
  refine enter Tryz.func43 rfl Tryz.ntmps43 rfl ?_; simp only [frame, Nat.zero_add, Nat.reduceAdd]
  repeat (first | (refine M0 ?_; first | refine SL ?_ | refine SB fun _ _ => ?_ | refine Y4 (Ev.call (f := 34) (ck rfl) rfl (fun w5 S5 => hgo w5 S5)) ?_) | (refine M1 ?_; refine SC ?_) | (refine M2 ?_; refine SE ?_))
  by_cases hc : ctE t = 0
  rotate_left
  · rw [show decide (ctE t = 0) = false from decide_eq_false hc, if_pos hc]
    repeat (first | (refine M0 ?_; first | refine SL ?_ | refine SB fun _ _ => ?_) | (refine M1 ?_; refine SC ?_) | (refine M2 ?_; refine SE ?_))
    refine XE.retg tok Tryz.results43 rfl (by simp only [and_self, and_true]) (fun w' S => ?_)
    exact ⟨rfl, S.toBelow⟩
  rw [show decide (ctE t = 0) = true from decide_eq_true hc, if_neg (fun h => h hc)]
  repeat (first | (refine M0 ?_; first | refine SL ?_ | refine SB fun _ _ => ?_ | refine Y4 (Ev.call (f := 35) (ck rfl) rfl (fun w _ => in5_any _ _ _ w)) ?_) | (refine M1 ?_; refine SC ?_) | (refine M2 ?_; refine SE ?_))
  cases hb1 : outB r.count 1 8 with
  | true =>
    repeat (first | (refine M0 ?_; first | refine SL ?_ | refine SB fun _ _ => ?_) | (refine M1 ?_; refine SC ?_) | (refine M2 ?_; refine SE ?_))
    refine XE.retg tok Tryz.results43 rfl (by simp only [and_self, and_true]) (fun w' S => ?_)
    exact ⟨rfl, S.toBelow⟩
  | false =>
    repeat (first | (refine M0 ?_; first | refine SL ?_ | refine SB fun _ _ => ?_ | refine Y4 (Ev.call (f := 35) (ck rfl) rfl (fun w _ => in5_any _ _ _ w)) ?_) | (refine M1 ?_; refine SC ?_) | (refine M2 ?_; refine SE ?_))
    cases hb2 : outB r.early 0 60 with
    | true =>
      repeat (first | (refine M0 ?_; first | refine SL ?_ | refine SB fun _ _ => ?_) | (refine M1 ?_; refine SC ?_) | (refine M2 ?_; refine SE ?_))
      refine XE.retg tok Tryz.results43 rfl (by simp only [and_self, and_true]) (fun w' S => ?_)
      exact ⟨rfl, S.toBelow⟩
    | false =>
      repeat (first | (refine M0 ?_; first | refine SL ?_ | refine SB fun _ _ => ?_) | (refine M1 ?_; refine SC ?_) | (refine M2 ?_; refine SE ?_))
      refine XE.retg tok Tryz.results43 rfl (by simp only [and_self, and_true]) (fun w' S => ?_)
      exact ⟨by rw [hc]; rfl, S.toBelow⟩
theorem fits5_any {x : RL} {l : Int} (hT : CtAt w w.heap.size v t) :
    Calls Tryz.prog 79 #[ctkV v t, rlV x, .int .i64 l] w fun e w' => e = .returned (.bool (t.fits x l)) ∧ Below w.heap.size w w' := by
  have hlv := fun {L : Lo} (w5 : World) (S5 : Sys w.heap.size w L w5) => refLevel_any (v := x.n) (hT.sys S5).bas
  obtain ⟨s, g, n⟩ := x
  unfold CTk.fits
  simp only [ctkV, ctkC, rlV, basV, basC, spanV] at hlv ⊢
  refine enter Tryz.func79 rfl Tryz.ntmps79 rfl ?_; simp only [frame, Nat.zero_add, Nat.reduceAdd]
  cases s with
  | false =>
    repeat (first | (refine M0 ?_; first | refine SL ?_ | refine SB fun _ _ => ?_) | (refine M1 ?_; refine SC ?_) | (refine M2 ?_; refine SE ?_))
    refine XE.retg tok Tryz.results79 rfl (by simp only [and_self, and_true]) (fun w' S => ?_)
    exact ⟨rfl, S.toBelow⟩
  | true =>
    cases g with
    | true =>
      repeat (first | (refine M0 ?_; first | refine SL ?_ | refine SB fun _ _ => ?_) | (refine M1 ?_; refine SC ?_) | (refine M2 ?_; refine SE ?_))
      refine XE.retg tok Tryz.results79 rfl (by simp only [and_self, and_true]) (fun w' S => ?_)
      exact ⟨rfl, S.toBelow⟩
    | false =>
      repeat (first | (refine M0 ?_; first | refine SL ?_ | refine SB fun _ _ => ?_ | refine Y4 (Ev.call (f := 91) (ck rfl) rfl (fun w5 S5 => hlv w5 S5)) ?_) | (refine M1 ?_; refine SC ?_) | (refine M2 ?_; refine SE ?_))
      refine XE.retg tok Tryz.results79 rfl (by simp only [and_self, and_true]) (fun w' S => ?_)
      exact ⟨rfl, S.toBelow⟩
theorem rspan5_any {x : RL} (hT : CtAt w w.heap.size v t) :
    Calls Tryz.prog 63 #[ctkV v t, rlV x] w fun e w' => e = .returned (.agg ⟨[.int .i64 (t.rspan x).1, .int .i64 (t.rspan x).2]⟩) ∧ Below w.heap.size w w' := by
  have hlv := fun {L : Lo} (w5 : World) (S5 : Sys w.heap.size w L w5) => refLevel_any (v := x.n) (hT.sys S5).bas
  obtain ⟨s, g, n⟩ := x
  unfold CTk.rspan
  simp only [ctkV, ctkC, rlV, basV, basC, spanV] at hlv ⊢
  refine enter Tryz.func63 rfl Tryz.ntmps63 rfl ?_; simp only [frame, Nat.zero_add, Nat.reduceAdd]
  cases s with
  | false =>
    repeat (first | (refine M0 ?_; first | refine SL ?_ | refine SB fun _ _ => ?_) | (refine M1 ?_; refine SC ?_) | (refine M2 ?_; refine SE ?_))
    refine XE.retg tok Tryz.results63 rfl (by simp only [and_self, and_true]) (fun w' S => ?_)
    exact ⟨rfl, S.toBelow⟩
  | true =>
    repeat (first | (refine M0 ?_; first | refine SL ?_ | refine SB fun _ _ => ?_ | refine Y4 (Ev.call (f := 91) (ck rfl) rfl (fun w5 S5 => hlv w5 S5)) ?_) | (refine M1 ?_; refine SC ?_) | (refine M2 ?_; refine SE ?_))
    refine XE.retg tok Tryz.results63 rfl (by simp only [and_self, and_true]) (fun w' S => ?_)
    exact ⟨rfl, S.toBelow⟩
theorem first5_any {k : Nat} (hT : CtAt w w.heap.size v t) (ho : CtOk t) (hk : k < t.m) :
    Calls Tryz.prog 82 #[ctkV v t, .int .i64 (k : Nat)] w fun e w' => e = .returned (.int .i64 (t.fstI k)) ∧ Below w.heap.size w w' := by
  have hfr := fun (w5 : World) (hB : Below w.heap.size w w5) => from5_any (hT.sys (Sys.ofBelow hB)) ho
  have hen := fun (w5 : World) (hB : Below w.heap.size w w5) => end5_any (hT.sys (Sys.ofBelow hB)) ho
  have hhi := fun (i : Nat) (hi : i < t.n) (w5 : World) (hB : Below w.heap.size w w5) => high5_any (k := k) (i := i) (hT.sys (Sys.ofBelow hB)) ho hk hi rfl
  have h1 := ho.frm
  have h3 := ho.n60
  simp only [ctkV, ctkC] at hfr hen hhi ⊢
  refine enter Tryz.func82 rfl Tryz.ntmps82 rfl ?_; simp only [frame, Nat.zero_add, Nat.reduceAdd]
  repeat (first | (refine M0 ?_; first | refine SL ?_ | refine SB fun _ _ => ?_ | refine Y4 (Ev.call (f := 37) (ck rfl) rfl (fun w5 S5 => hfr w5 S5.toBelow)) ?_) | (refine M1 ?_; refine SC ?_) | (refine M2 ?_; refine SE ?_))
  rename_i g2 hg2
  refine XC.loopk [1, 2] rfl (fun i : Nat => [(5, .int .i64 (t.from_ + (i : Nat)))]) (fun _ => [(g2, cel 29 (ctkC v t))]) (fun _ => w) (fun i => i ≤ t.n ∧ ∀ j, j < i → ¬ t.limit < t.v k j) (fun i => t.n - i) 0 ⟨Nat.zero_le _, fun j hj => absurd hj (by simp)⟩ ?_ (fun _ h => h) ?_
  · have e0 : t.from_ + ((0 : Nat) : Int) = t.from_ := by omega
    simp only [e0]
    exact ZZSUB
  rintro i ⟨hi, hno⟩
  simp only [ctkC]
  dsimp only [List.cons_append, List.nil_append]
  repeat (first | (refine M0 ?_; first | refine SL ?_ | refine SB fun _ _ => ?_ | refine Y4 (Ev.call (f := 36) (ck rfl) rfl (fun w5 S5 => hen w5 S5.toBelow)) ?_) | (refine M1 ?_; refine SC ?_) | (refine M2 ?_; refine SE ?_))
  refine XC.cond _ rfl (fun h2 => ?_) (fun h2 => ?_)
  rotate_left
  · have hin : i = t.n := by have := of_decide_eq_false h2; omega
    subst hin
    repeat (first | (refine M0 ?_; first | refine SL ?_ | refine SB fun _ _ => ?_) | (refine M1 ?_; refine SC ?_) | (refine M2 ?_; refine SE ?_))
    refine XE.retg tok Tryz.results82 rfl (by simp only [and_self, and_true]) (fun w' S => ?_)
    have e1 : t.fstI k = -1 := by
      unfold CTk.fstI CTk.fst
      rw [firstB_none.2 fun j hj => decide_eq_false (hno j hj)]
    rw [e1]
    exact ⟨rfl, S.toBelow⟩
  have hin : i < t.n := by have := of_decide_eq_true h2; omega
  have hhi := hhi i hin
  by_cases hh : t.limit < t.v k i
  · simp only [decide_eq_true hh] at hhi
    repeat (first | (refine M0 ?_; first | refine SL ?_ | refine SB fun _ _ => ?_ | refine Y4 (Ev.call (f := 98) (ck rfl) rfl (fun w5 S5 => hhi w5 S5.toBelow)) ?_) | (refine M1 ?_; refine SC ?_) | (refine M2 ?_; refine SE ?_))
    refine XE.retg tok Tryz.results82 rfl (by simp only [and_self, and_true]) (fun w' S => ?_)
    have e1 : t.fstI k = t.from_ + (i : Nat) := by
      unfold CTk.fstI CTk.fst
      rw [firstB_some.2 ⟨hin, decide_eq_true hh, fun j hj => decide_eq_false (hno j hj)⟩]
    rw [e1]
    exact ⟨rfl, S.toBelow⟩
  · simp only [decide_eq_false hh] at hhi
    repeat (first | (refine M0 ?_; first | refine SL ?_ | refine SB fun _ _ => ?_ | refine Y4 (Ev.call (f := 98) (ck rfl) rfl (fun w5 S5 => hhi w5 S5.toBelow)) ?_) | (refine M1 ?_; refine SC ?_) | (refine M2 ?_; refine SE ?_))
    refine XE.round (s := i) (i + 1) ⟨hin, fun j hj => ?_⟩ (by omega) ?_ (fun _ h => h)
    · rcases Nat.lt_or_ge j i with h5 | h5
      · exact hno j h5
      · have : j = i := by omega
        subst this; exact hh
    · rw [show t.from_ + ((i + 1 : Nat) : Int) = t.from_ + (i : Int) + 1 by omega]
      exact ZZSUB
end
end Go.Proofs.YtmpaiphakjogjaaGreat.X
/-
  The walk of the document's levels (closure).
-/
namespace Go.Proofs.YtmpaiphakjogjaaGreat.X
open Go Go.RowKit Go.Proofs.YtmpaiphakjogjaaGreat.Bs
set_option linter.unusedVariables false
def rlK5 : Kind RL := ⟨121, 3, fun x => [.bool x.shut, .bool x.great, .int .i64 x.n], fun _ => [], fun _ => rfl⟩
theorem rl5_el : elemOk Tryz.prog 118 rlK5.ty rlK5.m 16 = true := by kernel_rfl
def RlsV (t : CTk) (k : Nat) (p : CPl) (x : Value) (new : List Held) : Prop := ∃ q : SV, x = svV q ∧ new = [hList rlK5 q ((List.range t.n).map (t.rl k p))]
def StepMV5 (b : Bas) (s : Sta) (t : Tick) (v : Value) (new : List Held) : Prop := ∃ q r : SV, v = .tuple ⟨[staV q (outS b s t), floV r (outF b s t), .int .i64 (stepE b s t)]⟩ ∧ new = [hInts q (outS b s t).fil, hInts r (outF b s t).taken]
theorem refStep_made5 {p : BV} {b : Bas} {q : SV} {s : Sta} {t : Tick} {w : World} (hb : BasAt w w.heap.size p b) (hq : IntsAt w (Lt w.heap.size) q s.fil) (hc : chkE b = 0) (hs : StaOk b s) :
    Calls Tryz.prog 90 #[basV p b, staV q s, tickV t] w (Made w (StepMV5 b s t)) :=
  (refStepC_any (t := t) hb hq).mono fun e w' ⟨v, h1, ⟨q2, r2, h2, h3, h4, h5⟩⟩ => by
    obtain ⟨f1, f2, f3⟩ := full_0 (t := t) (staErr_ok hc hs)
    rw [f1, f2, f3] at h2
    rw [f2] at h3
    rw [f3] at h4
    exact ⟨v, _, h1, ⟨q2, r2, h2, rfl⟩, fun x hx => by
      rcases List.mem_cons.1 hx with rfl | hx
      · exact h3
      · rw [List.mem_singleton.1 hx]; exact h4, h5⟩
theorem intArg {w W : World} {b0 : Nat} {ks : List Nat} {rs : List RowX} {hs : List Held} {q : SV} {l : List Int} (hF : Fam W b0 ks rs hs) (hB : Below w.heap.size w W) (h : hInts q l ∈ hs ∨ IntsAt w (Lt w.heap.size) q l) : IntsAt W (Lt W.heap.size) q l := by
  rcases h with h | h
  · exact Held.lt (x := hInts q l) (hF.get h)
  · exact (h.below hB).mono fun j hj => Nat.lt_of_lt_of_le hj hB.size
theorem vol0_ok {t : CTk} {k i : Nat} (ho : CtOk t) (hk : k < t.m) (hin : i < t.n) : StaOk t.b ⟨t.vol0 k i, t.fil⟩ := rs_ok ho hk hin (j := 0) rfl
set_option maxHeartbeats 16000000 in
theorem levels5_made {v : CTV} {t : CTk} {k : Nat} {p : CPl} {w : World} (hT : CtAt w w.heap.size v t) (ho : CtOk t) (hk : k < t.m) (hp : t.strange p = false) :
    Calls Tryz.prog 62 #[ctkV v t, .int .i64 (k : Nat), plnV p] w (Made w (RlsV t k p)) := by
  have hfr := fun (w5 : World) (hB : Below w.heap.size w w5) => from5_any (hT.sys (Sys.ofBelow hB)) ho
  obtain ⟨vp, vf, vh, vr⟩ := v
  have hhn := hT.hn
  have h1n := ho.n1
  have h60 := ho.n60
  have hdl := ho.dly
  have hfm := ho.frm
  have hm8 := ho.m8
  obtain ⟨ah, ⟨Ak, nk, ck1⟩, e1, hlth, hck, hqk⟩ := hT.hisAt hk
  have hlk := hqk.len
  simp only at hlk e1 hhn
  have hlen : (t.h k).vals.length = t.n := ho.len k hk
  rw [hlen] at hlk
  subst hlk
  obtain ⟨ak, rfl, hltk, hvk⟩ := hqk.at_ (by omega)
  have dV : ∀ i, i < t.n → w.cell? (ak.add (i * 1)) = some (.int .i64 (t.v k i)) := fun i hi => hvk i (by rw [hlen]; exact hi)
  have hbas := hT.bas
  have hrows := hbas.n_eq
  obtain ⟨A1, n1, cb, Ab2, nb2, cb2⟩ := vp
  simp only at hrows hbas
  subst hrows
  have hr2 := ho.ok.n2
  obtain ⟨ab, rfl, hltb⟩ := hbas.rows.addr (by simp only; omega)
  have dlev : w.cell? ((ab.add (0 * 2)).add 0) = some (.int .i64 (t.b.row 0).level) := hbas.rowLevel (by omega)
  have hriv := hT.river
  have hrn := hriv.len
  obtain ⟨Ar, nr, cr⟩ := vr
  simp only at hrn hriv
  have hrl : t.river.length = t.n := ho.river
  rw [hrl] at hrn
  subst hrn
  obtain ⟨ar, rfl, hltr, hrv⟩ := hriv.at_ (by omega)
  have dR : ∀ i, i < t.n → w.cell? (ar.add (i * 1)) = some (.int .i64 (at0 t.river i)) := fun i hi => hrv i (by omega)
  obtain ⟨Ah, nh, ch⟩ := vh
  simp only at e1 hhn
  subst e1 hhn
  obtain ⟨Af, nf, cf⟩ := vf
  have hfil := hT.fil
  simp only at hfil
  obtain ⟨c, o⟩ := p
  have hls0 : t.ls k ⟨c, o⟩ 0 = (⟨0, []⟩, false) := by
    refine ls_0 ?_
    by_cases hn : (⟨c, o⟩ : CPl) = nev
    · exact .inl hn
    · right
      have := (strange_f hp hn).1
      unfold CTk.shutI
      simp only at this ⊢
      omega
  simp only [ctkV, ctkC, plnV] at hfr ⊢
  refine enter Tryz.func62 rfl Tryz.ntmps62 rfl ?_; simp only [frame, Nat.zero_add, Nat.reduceAdd]
  repeat (first | (refine M0 ?_; first | refine SL ?_ | refine SB fun _ _ => ?_ | refine Y4 (Ev.load_old_agg tok [.int .i64 (t.h k).from_, .slice (some ak) t.n ck1] rfl rfl rfl (add_lt hlth) hck) ?_) | (refine M1 ?_; refine SC ?_) | (refine M2 ?_; refine SE ?_))
  rename_i g3 hg3 g5 hg5 g7 hg7 g9 hg9
  refine XC.rebase (List.Sublist.refl _) (fun W0 S0 => ?_)
  have hF0 : Fam W0 w.heap.size [g9, g7, g5, g3] [⟨RL, rlK5, .slice none 0 0, []⟩] [] := Fam.nil rlK5 (Fam.start S0.size)
  have hks0 : ∀ x, x ∈ [g9, g7, g5, g3] → x < W0.heap.size := fun x hx => S0.keyLt x hx
  have hnd := S0.nd
  simp only [List.map_cons, List.map_nil, List.nodup_cons, List.mem_cons, List.not_mem_nil, or_false, not_or, not_false_eq_true, List.nodup_nil, and_true] at hnd
  obtain ⟨⟨n97, n95, n93⟩, ⟨n75, n73⟩, n53⟩ := hnd
  have hle : w.heap.size ≤ w.heap.size := Nat.le_refl _
  have dVt : ∀ i, i < t.n → (trunc w w.heap.size).cell? (ak.add (i * 1)) = some (.int .i64 (t.v k i)) := fun i hi => (trunc_cell (by rw [add_block]; exact hltk)).trans (dV i hi)
  have dRt : ∀ i, i < t.n → (trunc w w.heap.size).cell? (ar.add (i * 1)) = some (.int .i64 (at0 t.river i)) := fun i hi => (trunc_cell (by rw [add_block]; exact hltr)).trans (dR i hi)
  refine XC.loopk [3, 5, 7, 9] rfl (fun z : Nat × World × SV × SV => [(8, svV z.2.2.1), (10, .bool (t.ls k ⟨c, o⟩ z.1).2), (11, .int .i64 (z.1 : Nat))]) (fun z => [(g9, cel 153 [.int .i64 (t.ls k ⟨c, o⟩ z.1).1.vol, .slice z.2.2.2.A z.2.2.2.n z.2.2.2.c]), (g7, cel 133 [.int .i64 (t.h k).from_, .slice (some ak) t.n ck1]), (g5, cel 42 [.int .i64 c, .int .i64 o]), (g3, cel 29 (ctkC ⟨⟨some ab, t.b.rows.length, cb, Ab2, nb2, cb2⟩, ⟨Af, nf, cf⟩, ⟨some ah, t.m, ch⟩, ⟨some ar, t.n, cr⟩⟩ t))]) (fun z => z.2.1)
    (fun z => z.1 ≤ t.n ∧ Below w.heap.size w z.2.1 ∧ (∃ hs, Fam z.2.1 w.heap.size [g9, g7, g5, g3] [⟨RL, rlK5, svV z.2.2.1, (List.range z.1).map (t.rl k ⟨c, o⟩)⟩] hs ∧ (hInts z.2.2.2 (t.ls k ⟨c, o⟩ z.1).1.fil ∈ hs ∨ IntsAt w (Lt w.heap.size) z.2.2.2 (t.ls k ⟨c, o⟩ z.1).1.fil)) ∧ ∀ x, x ∈ [g9, g7, g5, g3] → x < z.2.1.heap.size) (fun z => t.n - z.1) (0, W0, ⟨none, 0, 0⟩, ⟨none, 0, 0⟩)
    ⟨Nat.zero_le _, S0.toBelow, ⟨[], hF0, .inr (by rw [hls0]; exact IntsAt.nil)⟩, hks0⟩ (by simp only [hls0]; exact ZZSUB) (fun _ h => by simp only [hls0]; exact h) ?_
  rintro ⟨i, W, ⟨rA, rn, rc⟩, qf⟩ ⟨hi, hBW, ⟨hs, hFW, hfi⟩, hks⟩
  simp only at hi hBW hFW hfi hks
  simp only [svV, ctkC]
  dsimp only [List.cons_append, List.nil_append]
  repeat (first | (refine M0 ?_; first | refine SL ?_ | refine SB fun _ _ => ?_) | (refine M1 ?_; refine SC ?_) | (refine M2 ?_; refine SE ?_))
  refine XC.cond _ rfl (fun h2 => ?_) (fun h2 => ?_)
  rotate_left
  · have hin : i = t.n := by have := of_decide_eq_false h2; omega
    subst hin
    repeat (first | (refine M0 ?_; first | refine SL ?_ | refine SB fun _ _ => ?_) | (refine M1 ?_; refine SC ?_) | (refine M2 ?_; refine SE ?_))
    refine XE.retg tok Tryz.results62 rfl (by simp only [and_self, and_true]) (fun w' S => ?_)
    exact ⟨_, _, rfl, ⟨⟨rA, rn, rc⟩, rfl, rfl⟩, fun x hx => by rw [List.mem_singleton.1 hx]; exact (hFW.sys S ZZHL).listOf (K := rlK5) (.head _), hBW.trans S.toBelow⟩
  have hin : i < t.n := by have := of_decide_eq_true h2; omega
  have dVW : W.cell? (ak.add (i * 1)) = some (.int .i64 (t.v k i)) := (below_cell5 hBW (add_lt hltk)).trans (dV i hin)
  have hrl1 : (List.range (i + 1)).map (t.rl k ⟨c, o⟩) = (List.range i).map (t.rl k ⟨c, o⟩) ++ [t.rl k ⟨c, o⟩ i] := by rw [List.range_succ, List.map_append]; rfl
  repeat (first | (refine M0 ?_; first | refine SL ?_ | refine SB fun _ _ => ?_) | (refine M1 ?_; refine SC ?_) | (refine M2 ?_; refine SE ?_))
  repeat (first | (refine M0 ?_; first | refine SL ?_ | refine SB fun _ _ => ?_ | refine Y4 (Ev.call (f := 37) (ck rfl) rfl (fun w5 S5 => hfr w5 (hBW.trans S5.toBelow))) ?_) | (refine M2 ?_; refine SE ?_) | (refine M3 ?_; first | refine SG ?_ | refine SF ?_ | refine YF (Ev.call (f := 37) (ck rfl) rfl (fun w5 S5 => hfr w5 (hBW.trans S5.toBelow))) ?_) | (refine M4 ?_; refine SR ?_) | (refine M5 ?_; first | exact M7 | refine YM ?_ | refine YN ?_ ?_))
  refine XC.seq ?_
  refine XC.cutn [3, 5, 7, 9, 10, 11, 12] rfl (fun z : World × SV => [(8, svV z.2)]) (fun z => [(g9, cel 153 [.int .i64 (t.ls k ⟨c, o⟩ i).1.vol, .slice qf.A qf.n qf.c]), (g7, cel 133 [.int .i64 (t.h k).from_, .slice (some ak) t.n ck1]), (g5, cel 42 [.int .i64 c, .int .i64 o]), (g3, cel 29 (ctkC ⟨⟨some ab, t.b.rows.length, cb, Ab2, nb2, cb2⟩, ⟨Af, nf, cf⟩, ⟨some ah, t.m, ch⟩, ⟨some ar, t.n, cr⟩⟩ t))]) (fun z => z.1) (fun z => Below w.heap.size w z.1 ∧ Fam z.1 w.heap.size [g9, g7, g5, g3] [⟨RL, rlK5, svV z.2, (List.range (i + 1)).map (t.rl k ⟨c, o⟩)⟩] hs ∧ ∀ x, x ∈ [g9, g7, g5, g3] → x < z.1.heap.size) ?_ ?_
  · skip
    by_cases hop : t.isOpen ⟨c, o⟩ i = true
    · have hrl := rl_open (k := k) hop
      by_cases hc1 : c = -1
      · repeat (first | (refine M0 ?_; first | refine SL ?_ | refine SB fun _ _ => ?_) | (refine M1 ?_; refine SC ?_) | (refine M2 ?_; refine SE ?_))
        rw [show decide (c = -1) = true from decide_eq_true hc1]
        repeat (first | (refine M0 ?_; first | refine SL ?_ | refine SB fun _ _ => ?_ | refine Y4 (Ev.load_old tok rfl rfl (add_lt hltk) dVW) ?_ | refine XL.buildSlice tok rfl rfl rfl rfl rfl rfl rfl rfl rfl (fun _ _ => ?_)) | (refine M1 ?_; refine SC ?_) | (refine M2 ?_; refine SE ?_))
        refine XL.push (K := rlK5) (a := ⟨false, false, t.v k i⟩) (wE := w) 0 rl5_el (by decide) rfl rfl rfl hFW rfl hks hBW (Nat.le_refl _) rfl (by rw [List.length_map, List.length_range]; omega) (by decide) (fun x hx => by cases hx) (fun w2 v2 hF2 hB2 hk2 => ?_)
        have hl : (List.range i).map (t.rl k ⟨c, o⟩) ++ [⟨false, false, t.v k i⟩] = (List.range (i + 1)).map (t.rl k ⟨c, o⟩) := by rw [hrl1, hrl]
        simp only [List.set_cons_zero, hl] at hF2
        obtain ⟨r', rfl, _⟩ := hF2.sv (K := rlK5) (l := (List.range (i + 1)).map (t.rl k ⟨c, o⟩)) (v := v2) (.head _)
        obtain ⟨sA, sn, sc⟩ := r'
        simp only [svV]
        repeat (first | (refine M0 ?_; first | refine SL ?_ | refine SB fun _ _ => ?_) | (refine M1 ?_; refine SC ?_) | (refine M2 ?_; refine SE ?_))
        exact XE.leafW (fun z9 S9 => ⟨(z9, ⟨sA, sn, sc⟩), ⟨hB2.trans S9.toBelow, (hF2.sys S9 ZZHL).add (fun x hx => .inl (List.mem_append_right _ hx)), fun x hx => Nat.lt_of_lt_of_le (hk2 x (List.mem_append_right _ hx)) S9.size⟩, ZZSUB, S9.rebase ZZSM⟩)
      · have hn : (⟨c, o⟩ : CPl) ≠ nev := fun h => hc1 (congrArg CPl.close h)
        obtain ⟨b1, b2⟩ := strange_f hp hn
        simp only at b1 b2
        have hlt1 : t.last ≤ 60 := by unfold CTk.last; omega
        repeat (first | (refine M0 ?_; first | refine SL ?_ | refine SB fun _ _ => ?_) | (refine M1 ?_; refine SC ?_) | (refine M2 ?_; refine SE ?_))
        rw [show decide (c = -1) = false from decide_eq_false hc1]
        repeat (first | (refine M0 ?_; first | refine SL ?_ | refine SB fun _ _ => ?_) | (refine M1 ?_; refine SC ?_) | (refine M2 ?_; refine SE ?_))
        by_cases hle1 : t.from_ + (i : Int) ≤ c + t.delay
        · rw [show decide (t.from_ + (i : Int) ≤ c + t.delay) = true from decide_eq_true hle1]
          repeat (first | (refine M0 ?_; first | refine SL ?_ | refine SB fun _ _ => ?_ | refine Y4 (Ev.load_old tok rfl rfl (add_lt hltk) dVW) ?_ | refine XL.buildSlice tok rfl rfl rfl rfl rfl rfl rfl rfl rfl (fun _ _ => ?_)) | (refine M1 ?_; refine SC ?_) | (refine M2 ?_; refine SE ?_))
          refine XL.push (K := rlK5) (a := ⟨false, false, t.v k i⟩) (wE := w) 0 rl5_el (by decide) rfl rfl rfl hFW rfl hks hBW (Nat.le_refl _) rfl (by rw [List.length_map, List.length_range]; omega) (by decide) (fun x hx => by cases hx) (fun w2 v2 hF2 hB2 hk2 => ?_)
          have hl : (List.range i).map (t.rl k ⟨c, o⟩) ++ [⟨false, false, t.v k i⟩] = (List.range (i + 1)).map (t.rl k ⟨c, o⟩) := by rw [hrl1, hrl]
          simp only [List.set_cons_zero, hl] at hF2
          obtain ⟨r', rfl, _⟩ := hF2.sv (K := rlK5) (l := (List.range (i + 1)).map (t.rl k ⟨c, o⟩)) (v := v2) (.head _)
          obtain ⟨sA, sn, sc⟩ := r'
          simp only [svV]
          repeat (first | (refine M0 ?_; first | refine SL ?_ | refine SB fun _ _ => ?_) | (refine M1 ?_; refine SC ?_) | (refine M2 ?_; refine SE ?_))
          exact XE.leafW (fun z9 S9 => ⟨(z9, ⟨sA, sn, sc⟩), ⟨hB2.trans S9.toBelow, (hF2.sys S9 ZZHL).add (fun x hx => .inl (List.mem_append_right _ hx)), fun x hx => Nat.lt_of_lt_of_le (hk2 x (List.mem_append_right _ hx)) S9.size⟩, ZZSUB, S9.rebase ZZSM⟩)
        · rw [show decide (t.from_ + (i : Int) ≤ c + t.delay) = false from decide_eq_false hle1]
          repeat (first | (refine M0 ?_; first | refine SL ?_ | refine SB fun _ _ => ?_) | (refine M1 ?_; refine SC ?_) | (refine M2 ?_; refine SE ?_))
          have hge : o ≤ t.from_ + (i : Int) := by
            unfold CTk.isOpen CTk.shutI at hop
            simp only [Bool.or_eq_true, decide_eq_true_eq] at hop
            rcases hop with hop | hop | hop
            · exact absurd hop hn
            · omega
            · omega
          rw [show decide (o ≤ t.from_ + (i : Int)) = true from decide_eq_true hge]
          repeat (first | (refine M0 ?_; first | refine SL ?_ | refine SB fun _ _ => ?_ | refine Y4 (Ev.load_old tok rfl rfl (add_lt hltk) dVW) ?_ | refine XL.buildSlice tok rfl rfl rfl rfl rfl rfl rfl rfl rfl (fun _ _ => ?_)) | (refine M1 ?_; refine SC ?_) | (refine M2 ?_; refine SE ?_))
          refine XL.push (K := rlK5) (a := ⟨false, false, t.v k i⟩) (wE := w) 0 rl5_el (by decide) rfl rfl rfl hFW rfl hks hBW (Nat.le_refl _) rfl (by rw [List.length_map, List.length_range]; omega) (by decide) (fun x hx => by cases hx) (fun w2 v2 hF2 hB2 hk2 => ?_)
          have hl : (List.range i).map (t.rl k ⟨c, o⟩) ++ [⟨false, false, t.v k i⟩] = (List.range (i + 1)).map (t.rl k ⟨c, o⟩) := by rw [hrl1, hrl]
          simp only [List.set_cons_zero, hl] at hF2
          obtain ⟨r', rfl, _⟩ := hF2.sv (K := rlK5) (l := (List.range (i + 1)).map (t.rl k ⟨c, o⟩)) (v := v2) (.head _)
          obtain ⟨sA, sn, sc⟩ := r'
          simp only [svV]
          repeat (first | (refine M0 ?_; first | refine SL ?_ | refine SB fun _ _ => ?_) | (refine M1 ?_; refine SC ?_) | (refine M2 ?_; refine SE ?_))
          exact XE.leafW (fun z9 S9 => ⟨(z9, ⟨sA, sn, sc⟩), ⟨hB2.trans S9.toBelow, (hF2.sys S9 ZZHL).add (fun x hx => .inl (List.mem_append_right _ hx)), fun x hx => Nat.lt_of_lt_of_le (hk2 x (List.mem_append_right _ hx)) S9.size⟩, ZZSUB, S9.rebase ZZSM⟩)
    · have hopf : t.isOpen ⟨c, o⟩ i = false := by simpa using hop
      have hrl := rl_shut (k := k) ho hp hopf
      have hop2 := hopf
      unfold CTk.isOpen CTk.shutI at hop2
      simp only [Bool.or_eq_false_iff, decide_eq_false_iff_not] at hop2
      have hn : (⟨c, o⟩ : CPl) ≠ nev := hop2.1
      obtain ⟨b1, b2⟩ := strange_f hp hn
      simp only at b1 b2
      have hlt1 : t.last ≤ 60 := by unfold CTk.last; omega
      repeat (first | (refine M0 ?_; first | refine SL ?_ | refine SB fun _ _ => ?_) | (refine M1 ?_; refine SC ?_) | (refine M2 ?_; refine SE ?_))
      rw [show decide (c = -1) = false from decide_eq_false (by omega)]
      repeat (first | (refine M0 ?_; first | refine SL ?_ | refine SB fun _ _ => ?_) | (refine M1 ?_; refine SC ?_) | (refine M2 ?_; refine SE ?_))
      rw [show decide (t.from_ + (i : Int) ≤ c + t.delay) = false from decide_eq_false (by have := hop2.2.1; omega)]
      repeat (first | (refine M0 ?_; first | refine SL ?_ | refine SB fun _ _ => ?_) | (refine M1 ?_; refine SC ?_) | (refine M2 ?_; refine SE ?_))
      rw [show decide (o ≤ t.from_ + (i : Int)) = false from decide_eq_false (by have := hop2.2.2; omega)]
      repeat (first | (refine M0 ?_; first | refine SL ?_ | refine SB fun _ _ => ?_ | refine Y4 (Ev.load_old tok rfl rfl (add_lt hltk) dVW) ?_ | refine XL.buildSlice tok rfl rfl rfl rfl rfl rfl rfl rfl rfl (fun _ _ => ?_)) | (refine M1 ?_; refine SC ?_) | (refine M2 ?_; refine SE ?_))
      refine XL.push (K := rlK5) (a := ⟨true, (t.ls k ⟨c, o⟩ i).2, (t.ls k ⟨c, o⟩ i).1.vol⟩) (wE := w) 0 rl5_el (by decide) rfl rfl rfl hFW rfl hks hBW (Nat.le_refl _) rfl (by rw [List.length_map, List.length_range]; omega) (by decide) (fun x hx => by cases hx) (fun w2 v2 hF2 hB2 hk2 => ?_)
      have hl : (List.range i).map (t.rl k ⟨c, o⟩) ++ [⟨true, (t.ls k ⟨c, o⟩ i).2, (t.ls k ⟨c, o⟩ i).1.vol⟩] = (List.range (i + 1)).map (t.rl k ⟨c, o⟩) := by rw [hrl1, hrl]
      simp only [List.set_cons_zero, hl] at hF2
      obtain ⟨r', rfl, _⟩ := hF2.sv (K := rlK5) (l := (List.range (i + 1)).map (t.rl k ⟨c, o⟩)) (v := v2) (.head _)
      obtain ⟨sA, sn, sc⟩ := r'
      simp only [svV]
      repeat (first | (refine M0 ?_; first | refine SL ?_ | refine SB fun _ _ => ?_) | (refine M1 ?_; refine SC ?_) | (refine M2 ?_; refine SE ?_))
      exact XE.leafW (fun z9 S9 => ⟨(z9, ⟨sA, sn, sc⟩), ⟨hB2.trans S9.toBelow, (hF2.sys S9 ZZHL).add (fun x hx => .inl (List.mem_append_right _ hx)), fun x hx => Nat.lt_of_lt_of_le (hk2 x (List.mem_append_right _ hx)) S9.size⟩, ZZSUB, S9.rebase ZZSM⟩)
  rintro ⟨z, ⟨rA2, rn2, rc2⟩⟩ ⟨hBz, hFz, hkz⟩
  simp only [svV, ctkC]
  dsimp only [List.cons_append, List.nil_append]
  by_cases hn : (⟨c, o⟩ : CPl) = nev
  · have hc1 : c = -1 := congrArg CPl.close hn
    have hl1 : t.ls k ⟨c, o⟩ (i + 1) = t.ls k ⟨c, o⟩ i := by rw [ls_0 (.inl hn), ls_0 (.inl hn)]
    repeat (first | (refine M0 ?_; first | refine SL ?_ | refine SB fun _ _ => ?_) | (refine M1 ?_; refine SC ?_) | (refine M2 ?_; refine SE ?_))
    rw [show decide (c = -1) = true from decide_eq_true hc1]
    repeat (first | (refine M0 ?_; first | refine SL ?_ | refine SB fun _ _ => ?_) | (refine M1 ?_; refine SC ?_) | (refine M2 ?_; refine SE ?_))
    refine XE.roundW (s := (i, W, ⟨rA, rn, rc⟩, qf)) (fun w9 S9 => ⟨(i + 1, w9, ⟨rA2, rn2, rc2⟩, qf), ⟨hin, hBz.trans S9.toBelow, ⟨hs, hFz.sys S9 ZZHL, by rw [hl1]; exact hfi⟩, fun x hx => Nat.lt_of_lt_of_le (hkz x hx) S9.size⟩, by simp only; omega, by simp only [hl1]; exact ZZSUB, by simp only [hl1]; exact S9.rebase ZZSM⟩)
  obtain ⟨b1, b2⟩ := strange_f hp hn
  simp only at b1 b2
  have hlt1 : t.last ≤ 60 := by unfold CTk.last; omega
  have hsh : t.shutI ⟨c, o⟩ = c - t.from_ + t.delay := rfl
  repeat (first | (refine M0 ?_; first | refine SL ?_ | refine SB fun _ _ => ?_) | (refine M1 ?_; refine SC ?_) | (refine M2 ?_; refine SE ?_))
  rw [show decide (c = -1) = false from decide_eq_false (by omega)]
  repeat (first | (refine M0 ?_; first | refine SL ?_ | refine SB fun _ _ => ?_) | (refine M1 ?_; refine SC ?_) | (refine M2 ?_; refine SE ?_))
  have dVz : z.cell? (ak.add (i * 1)) = some (.int .i64 (t.v k i)) := (below_cell5 hBz (add_lt hltk)).trans (dV i hin)
  have dRz : z.cell? (ar.add (i * 1)) = some (.int .i64 (at0 t.river i)) := (below_cell5 hBz (add_lt hltr)).trans (dR i hin)
  have dlz : z.cell? ((ab.add (0 * 2)).add 0) = some (.int .i64 (t.b.row 0).level) := (below_cell5 hBz (add_lt2 hltb)).trans dlev
  by_cases heq : t.from_ + (i : Int) = c + t.delay
  · rw [show decide (t.from_ + (i : Int) = c + t.delay) = true from decide_eq_true heq]
    have hl0 : t.ls k ⟨c, o⟩ i = (⟨0, []⟩, false) := ls_0 (.inr (by rw [hsh]; omega))
    have hl1 := ls_at (k := k) hn (show (i : Int) = t.shutI ⟨c, o⟩ by rw [hsh]; omega)
    simp only [hl0]
    repeat (first | (refine M0 ?_; first | refine SL ?_ | refine SB fun _ _ => ?_) | (refine M1 ?_; refine SC ?_) | (refine M2 ?_; refine SE ?_))
    refine XC.drawT mixed rfl rfl (by kernel_rfl) ?_
    repeat (first | (refine M0 ?_; first | refine SL ?_ | refine SB fun _ _ => ?_ | refine Y4 (Ev.load_old tok rfl rfl (add_lt hltk) dVz) ?_ | refine Y4 (Ev.load_old tok rfl rfl (add_lt2 hltb) dlz) ?_) | (refine M2 ?_; refine SE ?_) | (refine M3 ?_; first | refine SG ?_ | refine SF ?_ | refine YF (Ev.load_old tok rfl rfl (add_lt hltk) dVz) ?_ | refine YF (Ev.load_old tok rfl rfl (add_lt2 hltb) dlz) ?_) | (refine M4 ?_; refine SR ?_) | (refine M5 ?_; first | exact M7 | refine YM ?_ | refine YN ?_ ?_))
    have hvol := fun (w5 : World) (hB5 : Below w.heap.size w w5) => refVolume_any (p := ⟨some ab, t.b.rows.length, cb, Ab2, nb2, cb2⟩) (b := t.b) (l := max (t.v k i) (t.b.row 0).level) (w := w5) ((hbas.below hB5).more hB5.size)
    have hv0 : volN t.b (max (t.v k i) (t.b.row 0).level) = t.vol0 k i := (vol_0 ho.chk (outB_f.2 (by have := ho.val k i hk hin; have := ho.lim; omega))).2
    rw [hv0] at hvol
    simp only [basV, basC] at hvol
    repeat (first | (refine M0 ?_; first | refine SL ?_ | refine SB fun _ _ => ?_ | refine Y4 (Ev.call (f := 89) (ck rfl) rfl (fun w5 S5 => hvol w5 (hBz.trans S5.toBelow))) ?_) | (refine M1 ?_; refine SC ?_) | (refine M2 ?_; refine SE ?_))
    rw [show decide (c + t.delay ≤ t.from_ + (i : Int)) = true from decide_eq_true (by omega)]
    repeat (first | (refine M0 ?_; first | refine SL ?_ | refine SB fun _ _ => ?_) | (refine M1 ?_; refine SC ?_) | (refine M2 ?_; refine SE ?_))
    have hso : StaOk t.b ⟨t.vol0 k i, t.fil⟩ := vol0_ok ho hk hin
    refine XC.drawRS (trunc w w.heap.size) [(g9, cel 153 [.int .i64 (t.vol0 k i), .slice Af nf cf]), (g7, cel 133 [.int .i64 (t.h k).from_, .slice (some ak) t.n ck1]), (g5, cel 42 [.int .i64 c, .int .i64 o]), (g3, cel 29 (ctkC ⟨⟨some ab, t.b.rows.length, cb, Ab2, nb2, cb2⟩, ⟨Af, nf, cf⟩, ⟨some ah, t.m, ch⟩, ⟨some ar, t.n, cr⟩⟩ t))] [0, 1, 2, 3, 4, 5, 6, 7, 8, 9, 10, 11, 12, 13, 14, 15] [16, 17, 18, 19, 20, 21, 22, 23, 24, 25] mixed (fun _ h => Sys.anchorT hBz h (by intro e he; repeat (first | (cases he; done) | (rcases List.mem_cons.1 he with rfl | he; · repeat (first | exact List.mem_cons_self | apply List.mem_cons_of_mem)))) (by simp [n97, n95, n93, n75, n73, n53]) hle) rfl (by kernel_rfl) ?_
    simp only [ctkC]
    repeat (any_goals (first | (refine M0 ?_; first | refine SL ?_ | refine SB fun _ _ => ?_ | refine Y4 (Ev.load_loc_agg tok 3 (g := g3) (o := 0) rfl rfl rfl rfl) ?_ | refine Y4 (Ev.load_old tok rfl rfl (add_lt hltk) (dVt i hin)) ?_ | refine Y4 (Ev.load_old tok rfl rfl (add_lt hltr) (dRt i hin)) ?_ | (refine XL.at_call 90 ?_; refine XL.callF (wE := w) (StepMV5 t.b ⟨t.vol0 k i, t.fil⟩ (t.tick k i)) (ck rfl) rfl rfl hFz hkz hBz (fun w5 S5 hF5 hB5 => refStep_made5 (p := ⟨some ab, t.b.rows.length, cb, Ab2, nb2, cb2⟩) (q := ⟨Af, nf, cf⟩) ((hbas.below hB5).more hB5.size) (intArg hF5 hB5 (.inr hfil)) ho.chk hso) (fun w3 x new hR hF3 hB3 hk3 => ?_) ZZHL; obtain ⟨⟨x1, x2, x3⟩, ⟨y1, y2, y3⟩, rfl, rfl⟩ := hR; simp only [staV, staC, floV, floC])) | (refine M1 ?_; refine SC ?_) | (refine M2 ?_; first | refine SE ?_ | ((with_reducible refine atHeld ?_); refine z7 ?_)) | (refine M3 ?_; first | refine SG ?_ | refine SF ?_ | refine YF (Ev.load_loc_agg tok 3 (g := g3) (o := 0) rfl rfl rfl rfl) ?_ | refine YF (Ev.load_old tok rfl rfl (add_lt hltk) (dVt i hin)) ?_ | refine YF (Ev.load_old tok rfl rfl (add_lt hltr) (dRt i hin)) ?_) | (refine M4 ?_; refine SR ?_) | (refine M5 ?_; first | exact M7 | refine YM ?_ | refine YN ?_ ?_)))
    any_goals (repeat (first | exact AnyR.nil | refine AnyR.skip rfl ?_))
    all_goals refine XE.roundW (s := (i, W, ⟨rA, rn, rc⟩, qf)) (fun w9 S9 => ⟨(i + 1, w9, ⟨rA2, rn2, rc2⟩, ⟨x1, x2, x3⟩), ⟨hin, hB3.trans S9.toBelow, ⟨_, (hF3.sys S9 ZZHL).add (fun x hx => .inl (List.mem_append_right _ hx)), .inl (by rw [hl1]; exact .head _)⟩, fun x hx => Nat.lt_of_lt_of_le (hk3 x (List.mem_append_right _ hx)) S9.size⟩, by simp only; omega, by simp only [hl1]; exact ZZSUB, by simp only [hl1]; exact S9.rebase ZZSM⟩)
  rw [show decide (t.from_ + (i : Int) = c + t.delay) = false from decide_eq_false heq]
  repeat (first | (refine M0 ?_; first | refine SL ?_ | refine SB fun _ _ => ?_) | (refine M1 ?_; refine SC ?_) | (refine M2 ?_; refine SE ?_))
  by_cases hge : c + t.delay ≤ t.from_ + (i : Int)
  rotate_left
  · rw [show decide (c + t.delay ≤ t.from_ + (i : Int)) = false from decide_eq_false hge]
    have hl1 : t.ls k ⟨c, o⟩ (i + 1) = t.ls k ⟨c, o⟩ i := by rw [ls_0 (.inr (by rw [hsh]; omega)), ls_0 (.inr (by rw [hsh]; omega))]
    repeat (first | (refine M0 ?_; first | refine SL ?_ | refine SB fun _ _ => ?_) | (refine M1 ?_; refine SC ?_) | (refine M2 ?_; refine SE ?_))
    refine XE.roundW (s := (i, W, ⟨rA, rn, rc⟩, qf)) (fun w9 S9 => ⟨(i + 1, w9, ⟨rA2, rn2, rc2⟩, qf), ⟨hin, hBz.trans S9.toBelow, ⟨hs, hFz.sys S9 ZZHL, by rw [hl1]; exact hfi⟩, fun x hx => Nat.lt_of_lt_of_le (hkz x hx) S9.size⟩, by simp only; omega, by simp only [hl1]; exact ZZSUB, by simp only [hl1]; exact S9.rebase ZZSM⟩)
  rw [show decide (c + t.delay ≤ t.from_ + (i : Int)) = true from decide_eq_true hge]
  have hl2 := ls_step (t := t) (k := k) (p := ⟨c, o⟩) (i := i) (by rw [hsh]; omega) hn (by rw [hsh]; omega)
  cases hgr : (t.ls k ⟨c, o⟩ i).2 with
  | true =>
    have hl1 : t.ls k ⟨c, o⟩ (i + 1) = t.ls k ⟨c, o⟩ i := by rw [hl2, if_pos hgr]
    repeat (first | (refine M0 ?_; first | refine SL ?_ | refine SB fun _ _ => ?_) | (refine M1 ?_; refine SC ?_) | (refine M2 ?_; refine SE ?_))
    refine XE.roundW (s := (i, W, ⟨rA, rn, rc⟩, qf)) (fun w9 S9 => ⟨(i + 1, w9, ⟨rA2, rn2, rc2⟩, qf), ⟨hin, hBz.trans S9.toBelow, ⟨hs, hFz.sys S9 ZZHL, by rw [hl1]; exact hfi⟩, fun x hx => Nat.lt_of_lt_of_le (hkz x hx) S9.size⟩, by simp only; omega, by simp only [hl1, hgr]; exact ZZSUB, by simp only [hl1]; exact S9.rebase ZZSM⟩)
  | false =>
    rw [if_neg (by rw [hgr]; simp)] at hl2
    have hso := ls_ok ho hk hp hn (show t.shutI ⟨c, o⟩ < (i : Int) by rw [hsh]; omega) (by omega) hgr
    repeat (first | (refine M0 ?_; first | refine SL ?_ | refine SB fun _ _ => ?_) | (refine M1 ?_; refine SC ?_) | (refine M2 ?_; refine SE ?_))
    refine XC.drawRS (trunc w w.heap.size) [(g9, cel 153 [.int .i64 (t.ls k ⟨c, o⟩ i).1.vol, .slice qf.A qf.n qf.c]), (g7, cel 133 [.int .i64 (t.h k).from_, .slice (some ak) t.n ck1]), (g5, cel 42 [.int .i64 c, .int .i64 o]), (g3, cel 29 (ctkC ⟨⟨some ab, t.b.rows.length, cb, Ab2, nb2, cb2⟩, ⟨Af, nf, cf⟩, ⟨some ah, t.m, ch⟩, ⟨some ar, t.n, cr⟩⟩ t))] [0, 1, 2, 3, 4, 5, 6, 7, 8, 9, 10, 11, 12, 13, 14, 15] [16, 17, 18, 19, 20, 21, 22, 23, 24, 25] mixed (fun _ h => Sys.anchorT hBz h (by intro e he; repeat (first | (cases he; done) | (rcases List.mem_cons.1 he with rfl | he; · repeat (first | exact List.mem_cons_self | apply List.mem_cons_of_mem)))) (by simp [n97, n95, n93, n75, n73, n53]) hle) rfl (by kernel_rfl) ?_
    simp only [ctkC]
    repeat (any_goals (first | (refine M0 ?_; first | refine SL ?_ | refine SB fun _ _ => ?_ | refine Y4 (Ev.load_loc_agg tok 3 (g := g3) (o := 0) rfl rfl rfl rfl) ?_ | refine Y4 (Ev.load_old tok rfl rfl (add_lt hltk) (dVt i hin)) ?_ | refine Y4 (Ev.load_old tok rfl rfl (add_lt hltr) (dRt i hin)) ?_ | (refine XL.at_call 90 ?_; refine XL.callF (wE := w) (StepMV5 t.b (t.ls k ⟨c, o⟩ i).1 (t.tick k i)) (ck rfl) rfl rfl hFz hkz hBz (fun w5 S5 hF5 hB5 => refStep_made5 (p := ⟨some ab, t.b.rows.length, cb, Ab2, nb2, cb2⟩) (q := qf) ((hbas.below hB5).more hB5.size) (intArg hF5 hB5 hfi) ho.chk hso) (fun w3 x new hR hF3 hB3 hk3 => ?_) ZZHL; obtain ⟨⟨x1, x2, x3⟩, ⟨y1, y2, y3⟩, rfl, rfl⟩ := hR; simp only [staV, staC, floV, floC])) | (refine M1 ?_; refine SC ?_) | (refine M2 ?_; first | refine SE ?_ | ((with_reducible refine atHeld ?_); refine z7 ?_)) | (refine M3 ?_; first | refine SG ?_ | refine SF ?_ | refine YF (Ev.load_loc_agg tok 3 (g := g3) (o := 0) rfl rfl rfl rfl) ?_ | refine YF (Ev.load_old tok rfl rfl (add_lt hltk) (dVt i hin)) ?_ | refine YF (Ev.load_old tok rfl rfl (add_lt hltr) (dRt i hin)) ?_) | (refine M4 ?_; refine SR ?_) | (refine M5 ?_; first | exact M7 | refine YM ?_ | refine YN ?_ ?_)))
    any_goals (repeat (first | exact AnyR.nil | refine AnyR.skip rfl ?_))
    all_goals refine XE.roundW (s := (i, W, ⟨rA, rn, rc⟩, qf)) (fun w9 S9 => ⟨(i + 1, w9, ⟨rA2, rn2, rc2⟩, ⟨x1, x2, x3⟩), ⟨hin, hB3.trans S9.toBelow, ⟨_, (hF3.sys S9 ZZHL).add (fun x hx => .inl (List.mem_append_right _ hx)), .inl (by rw [hl2]; exact .head _)⟩, fun x hx => Nat.lt_of_lt_of_le (hk3 x (List.mem_append_right _ hx)) S9.size⟩, by simp only; omega, by simp only [hl2]; exact ZZSUB, by simp only [hl2]; exact S9.rebase ZZSM⟩)
end Go.Proofs.YtmpaiphakjogjaaGreat.X
/-
  The walk of the document's holds (closure).
-/
namespace Go.Proofs.YtmpaiphakjogjaaGreat.X
open Go Go.RowKit Go.Proofs.YtmpaiphakjogjaaGreat.Bs
set_option linter.unusedVariables false
section
variable {v : CTV} {t : CTk} {w : World}
set_option maxHeartbeats 8000000 in
theorem rholds5_any {k : Nat} {p : CPl} (hT : CtAt w w.heap.size v t) (ho : CtOk t) (hk : k < t.m) (hp : t.strange p = false) :
    Calls Tryz.prog 38 #[ctkV v t, .int .i64 (k : Nat), plnV p] w fun e w' => e = .returned (.bool (t.holds k p)) ∧ Below w.heap.size w w' := by
  have hlv := fun (w5 : World) (hB : Below w.heap.size w w5) => levels5_made (k := k) (p := p) (hT.sys (Sys.ofBelow hB)) ho hk hp
  have hft := fun (i : Nat) (w5 : World) (hB : Below w.heap.size w w5) => fits5_any (x := t.rl k p i) (l := t.limit) (hT.sys (Sys.ofBelow hB))
  have h60 := ho.n60
  rw [holds_firstB]
  obtain ⟨c, o⟩ := p
  simp only [ctkV, ctkC, plnV, rlV] at hlv hft ⊢
  refine enter Tryz.func38 rfl Tryz.ntmps38 rfl ?_; simp only [frame, Nat.zero_add, Nat.reduceAdd]
  repeat (first | (refine M0 ?_; first | refine SL ?_ | refine SB fun _ _ => ?_) | (refine M1 ?_; refine SC ?_) | (refine M2 ?_; refine SE ?_))
  rename_i g3 hg3 g5 hg5
  refine XL.callF (ks := []) (rs := []) (hs := []) (b0 := w.heap.size) (wE := w) (RlsV t k ⟨c, o⟩) (ck rfl) rfl rfl (Fam.start (Nat.le_refl w.heap.size)) (fun _ h => by cases h) (Below.refl w.heap.size w) (fun w1 S1 _ hB1 => hlv w1 hB1) (fun w1 x new hR hF1 hB1 hk1 => ?_) ZZHL
  obtain ⟨⟨qA, qn, qc⟩, rfl, rfl⟩ := hR
  have hLF : ListAt rlK5 w1 (Free w1 w.heap.size _ []) ⟨qA, qn, qc⟩ ((List.range t.n).map (t.rl k ⟨c, o⟩)) := hF1.held (hList rlK5 ⟨qA, qn, qc⟩ ((List.range t.n).map (t.rl k ⟨c, o⟩))) (.head _)
  have hqn := hLF.len (by decide)
  simp only [List.length_map, List.length_range] at hqn
  subst hqn
  simp only [svV]
  repeat (first | (refine M0 ?_; first | refine SL ?_ | refine SB fun _ _ => ?_) | (refine M1 ?_; refine SC ?_) | (refine M2 ?_; refine SE ?_))
  refine XC.loopk [3, 7] rfl (fun i : Nat => [(8, .int .i64 (i : Nat))]) (fun _ => [(g5, cel 42 [.int .i64 c, .int .i64 o]), (g3, cel 29 (ctkC v t))]) (fun _ => w1) (fun i => i ≤ t.n ∧ ∀ j, j < i → t.fits (t.rl k ⟨c, o⟩ j) t.limit = true) (fun i => t.n - i) 0 ⟨Nat.zero_le _, fun j h => by omega⟩ ZZSUB (fun _ h => h) ?_
  rintro i ⟨hi, hall⟩
  simp only [ctkC]
  dsimp only [List.cons_append, List.nil_append]
  repeat (first | (refine M0 ?_; first | refine SL ?_ | refine SB fun _ _ => ?_) | (refine M1 ?_; refine SC ?_) | (refine M2 ?_; refine SE ?_))
  refine XC.cond _ rfl (fun h2 => ?_) (fun h2 => ?_)
  rotate_left
  · have hin : i = t.n := by have := of_decide_eq_false h2; omega
    subst hin
    rw [firstB_none.2 (fun j hj => by rw [hall j hj]; rfl)]
    repeat (first | (refine M0 ?_; first | refine SL ?_ | refine SB fun _ _ => ?_) | (refine M1 ?_; refine SC ?_) | (refine M2 ?_; refine SE ?_))
    refine XE.retg tok Tryz.results38 rfl (by simp only [and_self, and_true]) (fun w' S => ?_)
    exact ⟨rfl, hB1.trans S.toBelow⟩
  have hin : i < t.n := by have := of_decide_eq_true h2; omega
  have hft := hft i
  obtain ⟨ad, rfl, hf⟩ := hLF.addr (by decide) (by rw [List.length_map, List.length_range]; omega)
  have ca := hLF.elem (show ((List.range t.n).map (t.rl k ⟨c, o⟩))[i]? = some (t.rl k ⟨c, o⟩ i) from by rw [List.getElem?_map, List.getElem?_range hin]; rfl)
  have la : (ad.add (i * 3)).block < w1.heap.size := by rw [add_block]; exact hf.2.1
  cases hfx : t.fits (t.rl k ⟨c, o⟩ i) t.limit with
  | true =>
    simp only [hfx] at hft
    repeat (first | (refine M0 ?_; first | refine SL ?_ | refine SB fun _ _ => ?_) | (refine M1 ?_; refine SC ?_) | (refine M2 ?_; refine SE ?_))
    refine XC.drawT mixed rfl rfl (by kernel_rfl) ?_
    repeat (first | (refine M0 ?_; first | refine SL ?_ | refine SB fun _ _ => ?_ | refine Y4 (Ev.load_far_agg tok (rlK5.c (t.rl k ⟨c, o⟩ i)) rfl rfl rfl la (hf.far ZZHL) ca) ?_ | refine Y4 (Ev.call (f := 79) (ck rfl) rfl (fun w5 S5 => hft w5 (hB1.trans S5.toBelow))) ?_) | (refine M2 ?_; refine SE ?_) | (refine M3 ?_; first | refine SG ?_ | refine SF ?_ | refine YF (Ev.load_far_agg tok (rlK5.c (t.rl k ⟨c, o⟩ i)) rfl rfl rfl la (hf.far ZZHL) ca) ?_ | refine YF (Ev.call (f := 79) (ck rfl) rfl (fun w5 S5 => hft w5 (hB1.trans S5.toBelow))) ?_) | (refine M4 ?_; refine SR ?_) | (refine M5 ?_; first | exact M7 | refine YM ?_ | refine YN ?_ ?_))
    repeat (first | (refine M0 ?_; first | refine SL ?_ | refine SB fun _ _ => ?_) | (refine M1 ?_; refine SC ?_) | (refine M2 ?_; refine SE ?_))
    exact XE.round (s := i) (i + 1) ⟨hin, fun j hj => by rcases Nat.lt_succ_iff_lt_or_eq.1 hj with h | rfl; exact hall j h; exact hfx⟩ (by omega) ZZSUB (fun _ h => h)
  | false =>
    simp only [hfx] at hft
    rw [firstB_some.2 ⟨hin, by rw [hfx]; rfl, fun j hj => by rw [hall j hj]; rfl⟩]
    repeat (first | (refine M0 ?_; first | refine SL ?_ | refine SB fun _ _ => ?_) | (refine M1 ?_; refine SC ?_) | (refine M2 ?_; refine SE ?_))
    refine XC.drawT mixed rfl rfl (by kernel_rfl) ?_
    repeat (first | (refine M0 ?_; first | refine SL ?_ | refine SB fun _ _ => ?_ | refine Y4 (Ev.load_far_agg tok (rlK5.c (t.rl k ⟨c, o⟩ i)) rfl rfl rfl la (hf.far ZZHL) ca) ?_ | refine Y4 (Ev.call (f := 79) (ck rfl) rfl (fun w5 S5 => hft w5 (hB1.trans S5.toBelow))) ?_) | (refine M2 ?_; refine SE ?_) | (refine M3 ?_; first | refine SG ?_ | refine SF ?_ | refine YF (Ev.load_far_agg tok (rlK5.c (t.rl k ⟨c, o⟩ i)) rfl rfl rfl la (hf.far ZZHL) ca) ?_ | refine YF (Ev.call (f := 79) (ck rfl) rfl (fun w5 S5 => hft w5 (hB1.trans S5.toBelow))) ?_) | (refine M4 ?_; refine SR ?_) | (refine M5 ?_; first | exact M7 | refine YM ?_ | refine YN ?_ ?_))
    repeat (first | (refine M0 ?_; first | refine SL ?_ | refine SB fun _ _ => ?_) | (refine M1 ?_; refine SC ?_) | (refine M2 ?_; refine SE ?_))
    refine XE.retg tok Tryz.results38 rfl (by simp only [and_self, and_true]) (fun w' S => ?_)
    exact ⟨rfl, hB1.trans S.toBelow⟩
end
end Go.Proofs.YtmpaiphakjogjaaGreat.X
/-
  The walks of the document's flooded, called, allowed and Allowed (closure).
-/
namespace Go.Proofs.YtmpaiphakjogjaaGreat.Bs
open Go Go.Proofs.YtmpaiphakjogjaaGreat.X
set_option linter.unusedVariables false
/-- the least first tick of the first i of the histories that are high. -/
def CTk.lsF (t : CTk) (i : Nat) : Int := (t.fld.take i).foldl (fun a j => min a (t.fstI j)) (t.from_ + t.n)
theorem fld_ls (t : CTk) : ∀ k, (t.fldTo k).foldl (fun a j => min a (t.fstI j)) (t.from_ + t.n) = t.from_ + (t.lstTo k : Nat) := by
  intro k
  induction k with
  | zero => rfl
  | succ k ih =>
    rw [fldTo_succ, List.foldl_append, ih]
    show _ = t.from_ + ((match t.fst k with | none => t.lstTo k | some i => min (t.lstTo k) i : Nat) : Int)
    cases h : t.fst k with
    | none => rw [if_neg (by simp)]; rfl
    | some i =>
      rw [if_pos (show (some i).isSome = true from rfl)]
      simp only [List.foldl_cons, List.foldl_nil]
      unfold CTk.fstI
      rw [h]
      simp only
      omega
theorem lsF_all {t : CTk} : t.lsF t.fld.length = t.from_ + (t.lst : Nat) := by
  unfold CTk.lsF
  rw [List.take_length]
  exact fld_ls t t.m
theorem lsF_step {t : CTk} {i : Nat} (hi : i < t.fld.length) : t.fld[i] < t.m ∧ t.lsF (i + 1) = min (t.lsF i) (t.fstI t.fld[i]) ∧ True := by
  refine ⟨?_, ?_, trivial⟩
  · have := List.getElem_mem hi
    unfold CTk.fld CTk.fldTo at this
    exact List.mem_range.1 (List.mem_filter.1 this).1
  · unfold CTk.lsF
    rw [List.take_succ_eq_append_getElem hi, List.foldl_append]
    rfl
/-- the rules, as the document says them. -/
theorem allowed_doc {t : CTk} {r : CRu} (ho : CtOk t) (hq : RuOk r) {tick : Int} : t.allowed r tick = (!outB tick t.from_ (t.from_ + t.last) && (t.called r && decide (t.from_ + (t.lst : Nat) - r.early ≤ tick))) := by
  have hd := ho.dly
  unfold CTk.allowed CTk.may CTk.frmI
  cases hb : outB tick t.from_ (t.from_ + t.last) with
  | true =>
    cases h1 : outB tick t.from_ (t.from_ + t.n - 1) with
    | true => rfl
    | false =>
      have h2 := outB_f.1 h1
      have h3 : outB (tick - t.from_) (max 0 ((t.lst : Int) - r.early)) t.last = true := by
        cases h4 : outB (tick - t.from_) (max 0 ((t.lst : Int) - r.early)) t.last with
        | true => rfl
        | false =>
          have h5 := outB_f.1 h4
          have h6 : outB tick t.from_ (t.from_ + t.last) = false := outB_f.2 ⟨by omega, by omega⟩
          rw [hb] at h6; cases h6
      rw [h3]; simp
  | false =>
    have h2 := outB_f.1 hb
    have h1 : outB tick t.from_ (t.from_ + t.n - 1) = false := outB_f.2 ⟨by omega, by unfold CTk.last at h2; omega⟩
    rw [h1]
    by_cases h3 : t.from_ + (t.lst : Nat) - r.early ≤ tick
    · rw [decide_eq_true h3, outB_f.2 (show max 0 ((t.lst : Int) - r.early) ≤ tick - t.from_ ∧ tick - t.from_ ≤ t.last by omega)]
      rfl
    · have h5 : outB (tick - t.from_) (max 0 ((t.lst : Int) - r.early)) t.last = true := by
        cases h4 : outB (tick - t.from_) (max 0 ((t.lst : Int) - r.early)) t.last with
        | true => rfl
        | false => have h5 := outB_f.1 h4; omega
      rw [decide_eq_false h3, h5]
      rfl
end Go.Proofs.YtmpaiphakjogjaaGreat.Bs
namespace Go.Proofs.YtmpaiphakjogjaaGreat.X
open Go Go.RowKit Go.Proofs.YtmpaiphakjogjaaGreat.Bs
set_option linter.unusedVariables false
section
variable {v : CTV} {t : CTk} {w : World}
def FldX (t : CTk) (x : Value) (new : List Held) : Prop := ∃ q : SV, x = svV q ∧ new = [hList intK5 q (t.fld.map fun k => ((k : Nat) : Int))]
set_option maxHeartbeats 8000000 in
theorem flooded5_made (hT : CtAt w w.heap.size v t) (ho : CtOk t) :
    Calls Tryz.prog 55 #[ctkV v t] w (Made w (FldX t)) := by
  have hfs := fun (k : Nat) (hk : k < t.m) (w5 : World) (hB : Below w.heap.size w w5) => first5_any (k := k) (hT.sys (Sys.ofBelow hB)) ho hk
  have hhn := hT.hn
  have hm8 := ho.m8
  have hfr := ho.frm
  obtain ⟨vp, vf, ⟨Ah, nh, ch⟩, vr⟩ := v
  simp only at hhn
  subst hhn
  simp only [ctkV, ctkC] at hfs ⊢
  refine enter Tryz.func55 rfl Tryz.ntmps55 rfl ?_; simp only [frame, Nat.zero_add, Nat.reduceAdd]
  repeat (first | (refine M0 ?_; first | refine SL ?_ | refine SB fun _ _ => ?_) | (refine M1 ?_; refine SC ?_) | (refine M2 ?_; refine SE ?_))
  rename_i g1 hg1
  refine XC.rebase (List.Sublist.refl _) (fun W0 S0 => ?_)
  have hR0 : Fam W0 w.heap.size [g1] [⟨Int, intK5, .slice none 0 0, (t.fldTo 0).map fun k => ((k : Nat) : Int)⟩] [] := Fam.nil intK5 (Fam.start S0.size)
  refine XC.loopk [1] rfl (fun z : Nat × World × SV => [(3, svV z.2.2), (4, .int .i64 (z.1 : Nat))]) (fun z => [(g1, cel 29 (ctkC ⟨vp, vf, ⟨Ah, t.m, ch⟩, vr⟩ t))]) (fun z => z.2.1)
    (fun z => z.1 ≤ t.m ∧ Below w.heap.size w z.2.1 ∧ Fam z.2.1 w.heap.size [g1] [⟨Int, intK5, svV z.2.2, (t.fldTo z.1).map fun k => ((k : Nat) : Int)⟩] [] ∧ g1 < z.2.1.heap.size) (fun z => t.m - z.1) (0, W0, ⟨none, 0, 0⟩) ⟨Nat.zero_le _, S0.toBelow, hR0, S0.lt (.head _)⟩ ZZSUB (fun _ h => h) ?_
  rintro ⟨k, W, q⟩ ⟨hk, hB, hF, hgl⟩
  simp only at hk hB hF hgl
  simp only [svV, ctkC]
  dsimp only [List.cons_append, List.nil_append]
  repeat (first | (refine M0 ?_; first | refine SL ?_ | refine SB fun _ _ => ?_) | (refine M1 ?_; refine SC ?_) | (refine M2 ?_; refine SE ?_))
  refine XC.cond _ rfl (fun h1 => ?_) (fun h1 => ?_)
  rotate_left
  · have hkm : k = t.m := by have := of_decide_eq_false h1; omega
    subst hkm
    repeat (first | (refine M0 ?_; first | refine SL ?_ | refine SB fun _ _ => ?_) | (refine M1 ?_; refine SC ?_) | (refine M2 ?_; refine SE ?_))
    refine XE.retg tok Tryz.results55 rfl (by simp only [and_self, and_true]) (fun w' S => ?_)
    have hF9 := hF.sys S ZZHL
    obtain ⟨qA, qn, qc⟩ := q
    exact ⟨_, _, rfl, ⟨⟨qA, qn, qc⟩, rfl, rfl⟩, fun x hx => by rw [List.mem_singleton.1 hx]; exact hF9.listOf (K := intK5) (.head _), hB.trans S.toBelow⟩
  have hkm : k < t.m := by have := of_decide_eq_true h1; omega
  have hfs := hfs k hkm
  have hsu := fldTo_succ t k
  have hfl := fldTo_len t k
  cases hfi : t.fst k with
  | none =>
    have e0 : t.fstI k = -1 := by unfold CTk.fstI; rw [hfi]
    simp only [e0] at hfs
    have e1 : t.fldTo (k + 1) = t.fldTo k := by rw [hsu, hfi, if_neg (by simp)]; simp
    repeat (first | (refine M0 ?_; first | refine SL ?_ | refine SB fun _ _ => ?_ | refine Y4 (Ev.call (f := 82) (ck rfl) rfl (fun w5 S5 => hfs w5 (hB.trans S5.toBelow))) ?_) | (refine M1 ?_; refine SC ?_) | (refine M2 ?_; refine SE ?_))
    refine XE.roundW (s := (k, W, q)) (fun w9 S9 => ⟨(k + 1, w9, q), ⟨hkm, hB.trans S9.toBelow, ?_, Nat.lt_of_lt_of_le hgl S9.size⟩, by simp only; omega, ZZSUB, S9.rebase ZZSM⟩)
    simp only [e1]
    exact hF.sys S9 ZZHL
  | some i =>
    have e0 : t.fstI k = t.from_ + (i : Nat) := by unfold CTk.fstI; rw [hfi]
    simp only [e0] at hfs
    have e1 : t.fldTo (k + 1) = t.fldTo k ++ [k] := by rw [hsu, hfi]; rfl
    repeat (first | (refine M0 ?_; first | refine SL ?_ | refine SB fun _ _ => ?_ | refine Y4 (Ev.call (f := 82) (ck rfl) rfl (fun w5 S5 => hfs w5 (hB.trans S5.toBelow))) ?_) | (refine M1 ?_; refine SC ?_) | (refine M2 ?_; refine SE ?_))
    rw [show decide (0 ≤ t.from_ + (i : Int)) = true from decide_eq_true (by omega)]
    repeat (first | (refine M0 ?_; first | refine SL ?_ | refine SB fun _ _ => ?_ | refine XL.buildSlice tok rfl rfl rfl rfl rfl rfl rfl rfl rfl (fun _ _ => ?_)) | (refine M1 ?_; refine SC ?_) | (refine M2 ?_; refine SE ?_))
    refine XL.push (K := intK5) (a := (k : Nat)) (wE := w) 0 int5_el (by decide) rfl rfl rfl hF rfl (fun j hj => by rw [List.mem_singleton.1 hj]; exact hgl) hB (Nat.le_refl _) rfl (by rw [List.length_map]; omega) (by decide) (fun x hx => by cases hx) (fun w2 v2 hF2 hB2 hk2 => ?_)
    have hl : (t.fldTo k).map (fun k => ((k : Nat) : Int)) ++ [((k : Nat) : Int)] = (t.fldTo (k + 1)).map fun k => ((k : Nat) : Int) := by rw [e1, List.map_append]; rfl
    simp only [List.set_cons_zero, hl] at hF2
    obtain ⟨r', rfl, _⟩ := hF2.sv (K := intK5) (l := (t.fldTo (k + 1)).map fun k => ((k : Nat) : Int)) (v := v2) (.head _)
    obtain ⟨rA, rn, rc⟩ := r'
    simp only [svV]
    repeat (first | (refine M0 ?_; first | refine SL ?_ | refine SB fun _ _ => ?_) | (refine M1 ?_; refine SC ?_) | (refine M2 ?_; refine SE ?_))
    refine XE.roundW (s := (k, W, q)) (fun w9 S9 => ⟨(k + 1, w9, ⟨rA, rn, rc⟩), ⟨hkm, hB2.trans S9.toBelow, ?_, Nat.lt_of_lt_of_le (hk2 g1 (by simp)) S9.size⟩, by simp only; omega, ZZSUB, S9.rebase ZZSM⟩)
    exact (hF2.sys S9 ZZHL).add fun x hx => .inl (by rw [List.mem_singleton.1 hx]; simp)
theorem rcalled5_any {r : CRu} (hT : CtAt w w.heap.size v t) (ho : CtOk t) :
    Calls Tryz.prog 50 #[ctkV v t, ruV r] w fun e w' => e = .returned (.bool (t.called r)) ∧ Below w.heap.size w w' := by
  simp only [ctkV, ctkC, ruV]
  refine enter Tryz.func50 rfl Tryz.ntmps50 rfl ?_; simp only [frame, Nat.zero_add, Nat.reduceAdd]
  repeat (first | (refine M0 ?_; first | refine SL ?_ | refine SB fun _ _ => ?_) | (refine M1 ?_; refine SC ?_) | (refine M2 ?_; refine SE ?_))
  rename_i g2 hg2 g3 hg3
  refine XC.rebase (List.Sublist.refl _) (fun W0 S0 => ?_)
  have hBw : Below w.heap.size w W0 := S0.toBelow
  have hne : g3 ≠ g2 := by
    have := S0.nd
    simp only [List.map_cons, List.map_nil, List.nodup_cons, List.mem_cons, List.not_mem_nil, or_false] at this
    exact this.1
  have hle : w.heap.size ≤ w.heap.size := Nat.le_refl _
  have hfl := fun (w5 : World) (hB : Below w.heap.size w w5) => flooded5_made (v := v) (t := t) (hT.sys (Sys.ofBelow hB)) ho
  simp only [ctkV, ctkC] at hfl
  refine XC.drawRS (trunc w w.heap.size) [(g3, cel 31 [.int .i64 r.count, .int .i64 r.early]), (g2, cel 29 (ctkC v t))] [0, 3, 4] [1, 2, 5, 6] mixed (fun _ h => Sys.anchorT hBw h (by intro e he; repeat (first | (cases he; done) | (rcases List.mem_cons.1 he with rfl | he; · repeat (first | exact List.mem_cons_self | apply List.mem_cons_of_mem)))) (by simp [hne]) hle) rfl (by kernel_rfl) ?_
  simp only [ctkC]
  repeat (first | (refine M0 ?_; first | refine SL ?_ | refine SB fun _ _ => ?_) | (refine M2 ?_; refine SE ?_) | (refine M3 ?_; first | refine SG ?_ | refine SF ?_) | (refine M4 ?_; refine SR ?_) | (refine M5 ?_; first | exact M7 | refine YM ?_ | refine YN ?_ ?_))
  refine XL.callF (ks := [g3, g2]) (rs := []) (hs := []) (b0 := w.heap.size) (wE := w) (FldX t) (ck rfl) rfl rfl (Fam.start hBw.size) (fun k hk => by
    simp only [List.mem_cons, List.not_mem_nil, or_false] at hk
    rcases hk with rfl | rfl
    · exact S0.lt (.head _)
    · exact S0.lt (.tail _ (.head _))) hBw (fun w1 S1 _ hB1 => hfl w1 hB1) (fun w1 x new hR hF1 hB1 hk1 => ?_) ZZHL
  obtain ⟨⟨qA, qn, qc⟩, rfl, rfl⟩ := hR
  have hqn : qn = (t.fld.map fun k => ((k : Nat) : Int)).length := (hF1.held (hList intK5 ⟨qA, qn, qc⟩ (t.fld.map fun k => ((k : Nat) : Int))) (.head _)).len (by decide)
  rw [List.length_map] at hqn
  subst hqn
  simp only [svV]
  repeat (first | (refine M0 ?_; first | refine SL ?_ | refine SB fun _ _ => ?_) | (refine M2 ?_; refine SE ?_) | (refine M3 ?_; first | refine SG ?_ | refine SF ?_) | (refine M4 ?_; refine SR ?_) | (refine M5 ?_; first | exact M7 | refine YM ?_ | refine YN ?_ ?_))
  refine z7 ?_
  repeat (first | (refine M0 ?_; first | refine SL ?_ | refine SB fun _ _ => ?_) | (refine M2 ?_; refine SE ?_) | (refine M3 ?_; first | refine SG ?_ | refine SF ?_) | (refine M4 ?_; refine SR ?_) | (refine M5 ?_; first | exact M7 | refine YM ?_ | refine YN ?_ ?_))
  refine z7 ?_
  repeat (first | (refine M0 ?_; first | refine SL ?_ | refine SB fun _ _ => ?_) | (refine M2 ?_; refine SE ?_) | (refine M3 ?_; first | refine SG ?_ | refine SF ?_) | (refine M4 ?_; refine SR ?_) | (refine M5 ?_; first | exact M7 | refine YM ?_ | refine YN ?_ ?_))
  refine z7 ?_
  repeat (first | (refine M0 ?_; first | refine SL ?_ | refine SB fun _ _ => ?_) | (refine M2 ?_; refine SE ?_) | (refine M3 ?_; first | refine SG ?_ | refine SF ?_) | (refine M4 ?_; refine SR ?_) | (refine M5 ?_; first | exact M7 | refine YM ?_ | refine YN ?_ ?_))
  · repeat (first | (refine M0 ?_; first | refine SL ?_ | refine SB fun _ _ => ?_) | (refine M1 ?_; refine SC ?_) | (refine M2 ?_; refine SE ?_))
    refine XE.retg tok Tryz.results50 rfl (by simp only [and_self, and_true]) (fun w' S => ?_)
    exact ⟨rfl, hB1.trans S.toBelow⟩
  any_goals (repeat (first | exact AnyR.nil | refine AnyR.skip rfl ?_))
set_option maxHeartbeats 8000000 in
theorem rallowed5_any {r : CRu} {tick : Int} (hT : CtAt w w.heap.size v t) (ho : CtOk t) (hq : RuOk r) :
    Calls Tryz.prog 44 #[ctkV v t, ruV r, .int .i64 tick] w fun e w' => e = .returned (.bool (t.allowed r tick)) ∧ Below w.heap.size w w' := by
  have hca := fun (w5 : World) (hB : Below w.heap.size w w5) => can5_any (i := tick) (hT.sys (Sys.ofBelow hB)) ho
  have hen := fun (w5 : World) (hB : Below w.heap.size w w5) => end5_any (hT.sys (Sys.ofBelow hB)) ho
  have hcl := fun (w5 : World) (hB : Below w.heap.size w w5) => rcalled5_any (r := r) (hT.sys (Sys.ofBelow hB)) ho
  have hfs := fun (k : Nat) (hk : k < t.m) (w5 : World) (hB : Below w.heap.size w w5) => first5_any (k := k) (hT.sys (Sys.ofBelow hB)) ho hk
  have hfl := fun (w5 : World) (hB : Below w.heap.size w w5) => flooded5_made (v := v) (t := t) (hT.sys (Sys.ofBelow hB)) ho
  have h1 := ho.frm
  have h3 := ho.n60
  have hdl := ho.dly
  have hqe := hq.early
  have hll : t.lst ≤ t.n := lstTo_le t t.m
  have hfn : t.fld.length ≤ t.m := fldTo_len t t.m
  have hm8 := ho.m8
  simp only [ctkV, ctkC, ruV] at hca hen hcl hfs hfl ⊢
  rw [allowed_doc ho hq]
  refine enter Tryz.func44 rfl Tryz.ntmps44 rfl ?_; simp only [frame, Nat.zero_add, Nat.reduceAdd]
  repeat (first | (refine M0 ?_; first | refine SL ?_ | refine SB fun _ _ => ?_ | refine Y4 (Ev.call (f := 81) (ck rfl) rfl (fun w5 S5 => hca w5 S5.toBelow)) ?_) | (refine M1 ?_; refine SC ?_) | (refine M2 ?_; refine SE ?_))
  cases hb : outB tick t.from_ (t.from_ + t.last) with
  | true =>
    repeat (first | (refine M0 ?_; first | refine SL ?_ | refine SB fun _ _ => ?_) | (refine M1 ?_; refine SC ?_) | (refine M2 ?_; refine SE ?_))
    refine XE.retg tok Tryz.results44 rfl (by simp only [and_self, and_true]) (fun w' S => ?_)
    exact ⟨rfl, S.toBelow⟩
  | false =>
  repeat (first | (refine M0 ?_; first | refine SL ?_ | refine SB fun _ _ => ?_ | refine Y4 (Ev.call (f := 50) (ck rfl) rfl (fun w5 S5 => hcl w5 S5.toBelow)) ?_) | (refine M1 ?_; refine SC ?_) | (refine M2 ?_; refine SE ?_))
  cases hc : t.called r with
  | false =>
    repeat (first | (refine M0 ?_; first | refine SL ?_ | refine SB fun _ _ => ?_) | (refine M1 ?_; refine SC ?_) | (refine M2 ?_; refine SE ?_))
    refine XE.retg tok Tryz.results44 rfl (by simp only [and_self, and_true]) (fun w' S => ?_)
    exact ⟨rfl, S.toBelow⟩
  | true =>
  have hb1 := outB_f.1 hb
  repeat (first | (refine M0 ?_; first | refine SL ?_ | refine SB fun _ _ => ?_) | (refine M1 ?_; refine SC ?_) | (refine M2 ?_; refine SE ?_))
  rename_i g3 hg3 g4 hg4
  refine XL.callF (ks := []) (rs := []) (hs := []) (b0 := w.heap.size) (wE := w) (FldX t) (ck rfl) rfl rfl (Fam.start (Nat.le_refl w.heap.size)) (fun _ h => by cases h) (Below.refl w.heap.size w) (fun w1 S1 _ hB1 => hfl w1 hB1) (fun w1 x new hR hF1 hB1 hk1 => ?_) ZZHL
  obtain ⟨⟨qA, qn, qc⟩, rfl, rfl⟩ := hR
  have hLF : ListAt intK5 w1 (Free w1 w.heap.size _ []) ⟨qA, qn, qc⟩ (t.fld.map fun k => ((k : Nat) : Int)) := hF1.held (hList intK5 ⟨qA, qn, qc⟩ (t.fld.map fun k => ((k : Nat) : Int))) (.head _)
  have hqn := hLF.len (by decide)
  simp only [List.length_map] at hqn
  subst hqn
  simp only [svV]
  repeat (first | (refine M0 ?_; first | refine SL ?_ | refine SB fun _ _ => ?_ | refine Y4 (Ev.call (f := 36) (ck rfl) rfl (fun w5 S5 => hen w5 (hB1.trans S5.toBelow))) ?_) | (refine M1 ?_; refine SC ?_) | (refine M2 ?_; refine SE ?_))
  refine XC.loopk [2, 3, 4, 7] rfl (fun i : Nat => [(8, .int .i64 (t.lsF i)), (9, .int .i64 (i : Nat))]) (fun _ => [(g4, cel 31 [.int .i64 r.count, .int .i64 r.early]), (g3, cel 29 (ctkC v t))]) (fun _ => w1) (fun i => i ≤ t.fld.length) (fun i => t.fld.length - i) 0 (Nat.zero_le _) ZZSUB (fun _ h => h) ?_
  intro i hi
  simp only [ctkC]
  dsimp only [List.cons_append, List.nil_append]
  repeat (first | (refine M0 ?_; first | refine SL ?_ | refine SB fun _ _ => ?_) | (refine M1 ?_; refine SC ?_) | (refine M2 ?_; refine SE ?_))
  refine XC.cond _ rfl (fun h2 => ?_) (fun h2 => ?_)
  rotate_left
  · have hin : i = t.fld.length := by have := of_decide_eq_false h2; omega
    subst hin
    rw [lsF_all]
    repeat (first | (refine M0 ?_; first | refine SL ?_ | refine SB fun _ _ => ?_) | (refine M1 ?_; refine SC ?_) | (refine M2 ?_; refine SE ?_))
    refine XE.retg tok Tryz.results44 rfl (by simp only [and_self, and_true]) (fun w' S => ?_)
    exact ⟨rfl, hB1.trans S.toBelow⟩
  have hin : i < t.fld.length := by have := of_decide_eq_true h2; omega
  obtain ⟨e1, e2, e3⟩ := lsF_step hin
  have hfs := hfs _ e1
  obtain ⟨ad, rfl, hf⟩ := hLF.addr (by decide) (by rw [List.length_map]; omega)
  have ca := hLF.elem (show (t.fld.map fun k => ((k : Nat) : Int))[i]? = some ((t.fld[i] : Nat) : Int) from by rw [List.getElem?_map, List.getElem?_eq_getElem hin]; rfl) 0 (.int .i64 ((t.fld[i] : Nat) : Int)) rfl
  rw [add_add, Nat.add_zero] at ca
  have ca : w1.cell? (ad.add (i * 1)) = some (.int .i64 ((t.fld[i] : Nat) : Int)) := ca
  have la : (ad.add (i * 1)).block < w1.heap.size := by rw [add_block]; exact hf.2.1
  repeat (first | (refine M0 ?_; first | refine SL ?_ | refine SB fun _ _ => ?_) | (refine M1 ?_; refine SC ?_) | (refine M2 ?_; refine SE ?_))
  refine XC.drawT mixed rfl rfl (by kernel_rfl) ?_
  repeat (first | (refine M0 ?_; first | refine SL ?_ | refine SB fun _ _ => ?_ | refine Y4 (Ev.load_far tok rfl rfl la (hf.far ZZHL) ca) ?_ | refine Y4 (Ev.call (f := 82) (ck rfl) rfl (fun w5 S5 => hfs w5 (hB1.trans S5.toBelow))) ?_) | (refine M2 ?_; refine SE ?_) | (refine M3 ?_; first | refine SG ?_ | refine SF ?_ | refine YF (Ev.load_far tok rfl rfl la (hf.far ZZHL) ca) ?_ | refine YF (Ev.call (f := 82) (ck rfl) rfl (fun w5 S5 => hfs w5 (hB1.trans S5.toBelow))) ?_) | (refine M4 ?_; refine SR ?_) | (refine M5 ?_; first | exact M7 | refine YM ?_ | refine YN ?_ ?_))
  repeat (first | (refine M0 ?_; first | refine SL ?_ | refine SB fun _ _ => ?_) | (refine M1 ?_; refine SC ?_) | (refine M2 ?_; refine SE ?_))
  rw [← e2]
  exact XE.round (s := i) (i + 1) (by omega) (by omega) ZZSUB (fun _ h => h)
end
end Go.Proofs.YtmpaiphakjogjaaGreat.X
/-
  The walks of the document's all, Holds and Inner (closure).
-/
namespace Go.Proofs.YtmpaiphakjogjaaGreat.Bs
open Go Go.Proofs.YtmpaiphakjogjaaGreat.X
set_option linter.unusedVariables false
theorem rspan_ins {t : CTk} {k : Nat} {p : CPl} {i : Nat} : t.rspan (t.rl k p i) = (t.lo (lvD (t.ins k p i)), t.hi (lvD (t.ins k p i))) := by
  obtain ⟨_, h2, h3⟩ := rl_ins (t := t) (k := k) (p := p) (i := i)
  unfold CTk.rspan CTk.lo CTk.hi
  rw [h2, h3]
  split <;> rfl
end Go.Proofs.YtmpaiphakjogjaaGreat.Bs
namespace Go.Proofs.YtmpaiphakjogjaaGreat.X
open Go Go.RowKit Go.Proofs.YtmpaiphakjogjaaGreat.Bs
set_option linter.unusedVariables false
section
variable {v : CTV} {t : CTk} {w : World}
def AllV (t : CTk) (p : CPl) (x : Value) (new : List Held) : Prop := ∃ q : SV, x = svV q ∧ new = [hList boolK5 q (t.holdL p)]
set_option maxHeartbeats 8000000 in
theorem all5_made {p : CPl} (hT : CtAt w w.heap.size v t) (ho : CtOk t) (hp : t.strange p = false) :
    Calls Tryz.prog 56 #[ctkV v t, plnV p] w (Made w (AllV t p)) := by
  have hho := fun (k : Nat) (hk : k < t.m) (w5 : World) (hB : Below w.heap.size w w5) => rholds5_any (k := k) (p := p) (hT.sys (Sys.ofBelow hB)) ho hk hp
  have hhn := hT.hn
  have hm8 := ho.m8
  obtain ⟨vp, vf, ⟨Ah, nh, ch⟩, vr⟩ := v
  simp only at hhn
  subst hhn
  obtain ⟨c, o⟩ := p
  simp only [ctkV, ctkC, plnV] at hho ⊢
  refine enter Tryz.func56 rfl Tryz.ntmps56 rfl ?_; simp only [frame, Nat.zero_add, Nat.reduceAdd]
  repeat (first | (refine M0 ?_; first | refine SL ?_ | refine SB fun _ _ => ?_) | (refine M1 ?_; refine SC ?_) | (refine M2 ?_; refine SE ?_))
  rename_i g2 hg2 g3 hg3
  refine XC.rebase (List.Sublist.refl _) (fun W0 S0 => ?_)
  have hR0 : Fam W0 w.heap.size [g3, g2] [⟨Bool, boolK5, .slice none 0 0, (List.range 0).map fun k => t.holds k ⟨c, o⟩⟩] [] := Fam.nil boolK5 (Fam.start S0.size)
  have hks0 : ∀ x, x ∈ [g3, g2] → x < W0.heap.size := fun x hx => S0.keyLt x hx
  refine XC.loopk [2, 3] rfl (fun z : Nat × World × SV => [(5, svV z.2.2), (6, .int .i64 (z.1 : Nat))]) (fun z => [(g3, cel 42 [.int .i64 c, .int .i64 o]), (g2, cel 29 (ctkC ⟨vp, vf, ⟨Ah, t.m, ch⟩, vr⟩ t))]) (fun z => z.2.1)
    (fun z => z.1 ≤ t.m ∧ Below w.heap.size w z.2.1 ∧ Fam z.2.1 w.heap.size [g3, g2] [⟨Bool, boolK5, svV z.2.2, (List.range z.1).map fun k => t.holds k ⟨c, o⟩⟩] [] ∧ ∀ x, x ∈ [g3, g2] → x < z.2.1.heap.size) (fun z => t.m - z.1) (0, W0, ⟨none, 0, 0⟩) ⟨Nat.zero_le _, S0.toBelow, hR0, hks0⟩ ZZSUB (fun _ h => h) ?_
  rintro ⟨k, W, q⟩ ⟨hk, hB, hF, hks⟩
  simp only at hk hB hF hks
  simp only [svV, ctkC]
  dsimp only [List.cons_append, List.nil_append]
  repeat (first | (refine M0 ?_; first | refine SL ?_ | refine SB fun _ _ => ?_) | (refine M1 ?_; refine SC ?_) | (refine M2 ?_; refine SE ?_))
  refine XC.cond _ rfl (fun h1 => ?_) (fun h1 => ?_)
  rotate_left
  · have hkm : k = t.m := by have := of_decide_eq_false h1; omega
    subst hkm
    repeat (first | (refine M0 ?_; first | refine SL ?_ | refine SB fun _ _ => ?_) | (refine M1 ?_; refine SC ?_) | (refine M2 ?_; refine SE ?_))
    refine XE.retg tok Tryz.results56 rfl (by simp only [and_self, and_true]) (fun w' S => ?_)
    have hF9 := hF.sys S ZZHL
    obtain ⟨qA, qn, qc⟩ := q
    exact ⟨_, _, rfl, ⟨⟨qA, qn, qc⟩, rfl, rfl⟩, fun x hx => by rw [List.mem_singleton.1 hx]; exact hF9.listOf (K := boolK5) (.head _), hB.trans S.toBelow⟩
  have hkm : k < t.m := by have := of_decide_eq_true h1; omega
  have hho := hho k hkm
  repeat (first | (refine M0 ?_; first | refine SL ?_ | refine SB fun _ _ => ?_ | refine Y4 (Ev.call (f := 38) (ck rfl) rfl (fun w5 S5 => hho w5 (hB.trans S5.toBelow))) ?_ | refine XL.buildSlice tok rfl rfl rfl rfl rfl rfl rfl rfl rfl (fun _ _ => ?_)) | (refine M1 ?_; refine SC ?_) | (refine M2 ?_; refine SE ?_))
  refine XL.push (K := boolK5) (a := t.holds k ⟨c, o⟩) (wE := w) 0 bool5_el (by decide) rfl rfl rfl hF rfl hks hB (Nat.le_refl _) rfl (by rw [List.length_map, List.length_range]; omega) (by decide) (fun x hx => by cases hx) (fun w2 v2 hF2 hB2 hk2 => ?_)
  have hl : ((List.range k).map fun k => t.holds k ⟨c, o⟩) ++ [t.holds k ⟨c, o⟩] = (List.range (k + 1)).map fun k => t.holds k ⟨c, o⟩ := by rw [List.range_succ, List.map_append]; rfl
  simp only [List.set_cons_zero, hl] at hF2
  obtain ⟨r', rfl, _⟩ := hF2.sv (K := boolK5) (l := (List.range (k + 1)).map fun k => t.holds k ⟨c, o⟩) (v := v2) (.head _)
  obtain ⟨rA, rn, rc⟩ := r'
  simp only [svV]
  repeat (first | (refine M0 ?_; first | refine SL ?_ | refine SB fun _ _ => ?_) | (refine M1 ?_; refine SC ?_) | (refine M2 ?_; refine SE ?_))
  exact XE.roundW (s := (k, W, q)) (fun w9 S9 => ⟨(k + 1, w9, ⟨rA, rn, rc⟩), ⟨hkm, hB2.trans S9.toBelow, (hF2.sys S9 ZZHL).add (fun x hx => .inl (List.mem_append_right _ hx)), fun x hx => Nat.lt_of_lt_of_le (hk2 x (List.mem_append_right _ hx)) S9.size⟩, by simp only; omega, ZZSUB, S9.rebase ZZSM⟩)
end
end Go.Proofs.YtmpaiphakjogjaaGreat.X
/-
  Plain facts for the document's Accept, Decide and Best (closure).
-/
namespace Go.Proofs.YtmpaiphakjogjaaGreat.Bs
open Go Go.Proofs.YtmpaiphakjogjaaGreat.X
set_option linter.unusedVariables false
/-- how many are true. -/
def cntB (l : List Bool) : Nat := l.countP id
theorem cntB_succ {l : List Bool} {i : Nat} {b : Bool} (h : l[i]? = some b) : cntB (l.take (i + 1)) = cntB (l.take i) + (if b = true then 1 else 0) := by
  unfold cntB
  rw [List.take_add_one, List.countP_append, h]
  cases b <;> rfl
theorem cntB_le (l : List Bool) : cntB l ≤ l.length := List.countP_le_length
theorem cntB_0 (l : List Bool) : cntB (l.take 0) = 0 := by rw [List.take_zero]; rfl
theorem holdL_cnt {t : CTk} {i : Int} : cntB (t.holdL (t.plan i)) + (t.notL i).length = t.m := by
  have h := List.length_eq_countP_add_countP (fun k => (t.fails k (t.plan i)).isSome) (l := List.range t.m)
  rw [List.length_range] at h
  unfold cntB CTk.holdL CTk.notL
  rw [List.countP_map, ← List.countP_eq_length_filter]
  have e : List.countP (id ∘ fun k => t.holds k (t.plan i)) (List.range t.m) = List.countP (fun a => decide (¬(t.fails a (t.plan i)).isSome = true)) (List.range t.m) := by
    congr 1
    funext k
    show t.holds k (t.plan i) = _
    unfold CTk.holds
    cases t.fails k (t.plan i) <;> rfl
  omega
/-- the witnesses of the last d ticks. -/
noncomputable def CTk.laN (t : CTk) (d : Nat) : List II := (List.range d).map fun j => t.witC ((t.beg - d + j : Nat) : Int)
theorem laN_len (t : CTk) (d : Nat) : (t.laN d).length = d := by unfold CTk.laN; rw [List.length_map, List.length_range]
theorem laN_cons {t : CTk} {d : Nat} (hd : d < t.beg) : t.witC ((t.beg - 1 - d : Nat) : Int) :: t.laN d = t.laN (d + 1) := by
  unfold CTk.laN
  rw [List.range_succ_eq_map, List.map_cons, List.map_map, show t.beg - (d + 1) + 0 = t.beg - 1 - d by omega]
  congr 1
  refine List.map_congr_left fun j _ => ?_
  show _ = t.witC ((t.beg - (d + 1) + (j + 1) : Nat) : Int)
  rw [show t.beg - (d + 1) + (j + 1) = t.beg - d + j by omega]
theorem laN_later {t : CTk} {i : Nat} (hi : i < t.beg) : t.laN (t.beg - 1 - i) = t.laterL i := by
  unfold CTk.laN CTk.laterL
  rw [show t.beg - 1 - i = t.beg - (i + 1) by omega]
  refine List.map_congr_left fun j _ => ?_
  rw [show t.beg - (t.beg - (i + 1)) + j = i + 1 + j by omega]
end Go.Proofs.YtmpaiphakjogjaaGreat.Bs
