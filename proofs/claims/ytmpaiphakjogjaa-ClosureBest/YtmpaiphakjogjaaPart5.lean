/-
  The walk of Best (closure). DRAFT: stands where the range over begins starts.
-/
import Derived.Test.YtmpaiphakjogjaaPart4
import Derived.Test.YtmpaiphakjogjaaPart3
set_option linter.unusedVariables false
set_option linter.unusedSimpArgs false
namespace Go.Proofs.Ytmpaiphakjogjaa.Bs
open Go Go.Proofs.Ytmpaiphakjogjaa.X
theorem bst_ru {t : CTk} {r : CRu} (h : ruE t r ≠ 0) : t.bstE r = ruE t r ∧ t.bstP r = ⟨0, 0⟩ ∧ t.bstN r = [] := by
  unfold CTk.bstE CTk.bstP CTk.bstN
  rw [if_pos h, if_pos h, if_pos h]
  exact ⟨rfl, rfl, rfl⟩
theorem bst_0 {t : CTk} {r : CRu} (h : ruE t r = 0) (hc : t.called r = false) : t.bstE r = 0 ∧ t.bstP r = nev ∧ t.bstN r = t.fld.map fun k => ((k : Nat) : Int) := by
  unfold CTk.bstE CTk.bstP CTk.bstN
  rw [if_neg (by simp [h]), if_pos hc, if_neg (by simp [h]), if_pos hc, if_neg (by simp [h]), if_pos hc]
  exact ⟨rfl, rfl, rfl⟩
/-- those of the first k histories for which the plan from i does not hold. -/
noncomputable def CTk.notTo (t : CTk) (i k : Nat) : List Int := ((List.range k).filter fun k => (t.fails k (t.plan (i : Nat))).isSome).map fun k => ((k : Nat) : Int)
theorem notTo_keep {t : CTk} {i k : Nat} (h : t.fails k (t.plan (i : Nat)) = none) : t.notTo i (k + 1) = t.notTo i k := by
  unfold CTk.notTo
  rw [List.range_succ, List.filter_append]
  simp [h]
theorem notTo_push {t : CTk} {i k a : Nat} (h : t.fails k (t.plan (i : Nat)) = some a) : t.notTo i (k + 1) = t.notTo i k ++ [((k : Nat) : Int)] := by
  unfold CTk.notTo
  rw [List.range_succ, List.filter_append]
  simp [h]
theorem notTo_len (t : CTk) (i k : Nat) : (t.notTo i k).length ≤ k := by
  unfold CTk.notTo
  rw [List.length_map]
  exact Nat.le_trans (List.length_filter_le _ _) (by simp)
theorem notTo_all (t : CTk) (i : Nat) : t.notTo i t.m = (t.notL (i : Nat)).map fun k => ((k : Nat) : Int) := rfl
end Go.Proofs.Ytmpaiphakjogjaa.Bs
namespace Go.Proofs.Ytmpaiphakjogjaa.X
open Go Go.RowKit Go.Proofs.Ytmpaiphakjogjaa.Bs
set_option linter.unusedVariables false
theorem XE.blk_exit {N B : Nat} {w0 : World} {ds : List Deferred} {Q : Exit → Act → World → Prop} {F : Fr} {L : Lo} {id : Nat} (h : XE N B w0 ds Q .normal F L) : XE N B w0 ds (Exit.inBlock id Q) (.exit id) F L := ⟨fun a w hf hs => by unfold Exit.inBlock; simp only [if_true]; exact h.run a w hf hs⟩
noncomputable def bstHs (t : CTk) (b : Option (Nat × SV)) : List Held := match b with | none => [] | some x => [hList intK5 x.2 ((t.notL (x.1 : Nat)).map fun k => ((k : Nat) : Int))]
def bstQ (b : Option (Nat × SV)) : Value := match b with | none => .slice none 0 0 | some x => svV x.2
def bstC (t : CTk) (b : Option (Nat × SV)) : List Value := match b with | none => [.int .i64 0, .int .i64 0] | some x => [.int .i64 (t.plan (x.1 : Nat)).close, .int .i64 (t.plan (x.1 : Nat)).open_]
def BstR (t : CTk) (r : CRu) (x : Value) (new : List Held) : Prop := ∃ q : SV, x = .tuple ⟨[plnV (t.bstP r), svV q, .int .i64 (t.bstE r)]⟩ ∧ new = [hList intK5 q (t.bstN r)]
theorem bstZ {t : CTk} {r : CRu} {e : Int} (h1 : t.bstE r = e) (h2 : t.bstP r = ⟨0, 0⟩) (h3 : t.bstN r = []) {w w' : World} (hB : Below w.heap.size w w') :
    Made w (BstR t r) (.returned (.tuple ⟨[.agg ⟨[.int .i64 0, .int .i64 0]⟩, .slice none 0 0, .int .i64 e]⟩)) w' := by
  refine ⟨_, _, rfl, ⟨⟨none, 0, 0⟩, by rw [h1, h2]; rfl, rfl⟩, fun x hx => ?_, hB⟩
  rw [h3, List.mem_singleton] at hx
  subst hx
  exact ListAt.nil
set_option maxHeartbeats 16000000 in
theorem Best_made {v : CTV} {t : CTk} {r : CRu} {w : World} (h : CtAt w w.heap.size v t) :
    Calls Try.prog 27 #[ctkV v t, ruV r] w (Made w (BstR t r)) := by
  simp only [ctkV, ctkC, ruV]
  refine enterM Try.func27 rfl Try.ntmps27 rfl ?_; simp only [frame, Nat.zero_add, Nat.reduceAdd]
  repeat (first | (refine M0 ?_; first | refine SL ?_ | refine SB fun _ _ => ?_) | (refine M1 ?_; refine SC ?_) | (refine M2 ?_; refine SE ?_))
  rename_i g2 hg2 g3 hg3 g4 hg4 g5 hg5
  refine XL.with5 (v := v) (t := t) (r := r) h rfl rfl (fun hc w1 hB1 => ?_) (fun hc ho hq w1 gr g gm hG1 hB1 hgl hgrl => ?_)
  · obtain ⟨d1, d2, d3⟩ := bst_ru hc
    repeat (first | (refine M0 ?_; first | refine SL ?_ | refine SB fun _ _ => ?_) | (refine M1 ?_; refine SC ?_) | (refine M2 ?_; refine SE ?_))
    rw [show decide (ruE t r ≠ 0) = true from decide_eq_true hc]
    repeat (first | (refine M0 ?_; first | refine SL ?_ | refine SB fun _ _ => ?_) | (refine M1 ?_; refine SC ?_) | (refine M2 ?_; refine SE ?_))
    refine XE.retM0 tok Try.results27 rfl (by simp only [and_self, and_true]) (fun w' S => ?_)
    exact bstZ d1 d2 d3 (hB1.trans S.toBelow)
  have hal := fun {L : Lo} {W : World} (hGW : CtAt W w.heap.size v t) (w5 : World) (S5 : Sys w.heap.size W L w5) (m1 : (gr, rulO g r) ∈ L) (m2 : (g, gamO v t gm) ∈ L) => allowed_any (r := r) ((hGW.below S5.toBelow).more (Nat.le_trans S5.base S5.size)) ho hq (S5.own _ m1).2 (S5.own _ m2).2
  have hgs1 : g ∈ gr :: g :: [(g5, cel 26 [.slice none 0 0]), (g4, cel 36 [.int .i64 0, .int .i64 0]), (g3, cel 42 [.int .i64 r.count, .int .i64 r.early]), (g2, cel 29 (ctkC v t))].map (·.1) := .tail _ (.head _)
  have h60 := ho.n60
  have hdl := ho.dly
  have hfr := ho.frm
  have hm8 := ho.m8
  simp only [gamO, gamC, rulO, rulC]
  repeat (first | (refine M0 ?_; first | refine SL ?_ | refine SB fun _ _ => ?_) | (refine M1 ?_; refine SC ?_) | (refine M2 ?_; refine SE ?_))
  rename_i g7 hg7
  have hle : w.heap.size ≤ w.heap.size := Nat.le_refl _
  have hz1 := hB1.size
  repeat (first | (refine M0 ?_; first | refine SL ?_ | refine SB fun _ _ => ?_ | refine Y4 (Ev.call (f := 54) (ck rfl) rfl (fun w5 S5 => hal hG1.task w5 S5 (.tail _ (.head _)) (.tail _ (.tail _ (.head _))))) ?_) | (refine M1 ?_; refine SC ?_) | (refine M2 ?_; refine SE ?_))
  cases hcl : t.called r with
  | false =>
    obtain ⟨d1, d2, d3⟩ := bst_0 hc hcl
    repeat (first | (refine M0 ?_; first | refine SL ?_ | refine SB fun _ _ => ?_) | (refine M1 ?_; refine SC ?_) | (refine M2 ?_; refine SE ?_))
    refine XL.callF (wE := w) (fun x new => ∃ q : SV, x = .tuple ⟨[svV q, .int .i64 (t.lst : Nat)]⟩ ∧ new = [hList intK5 q (t.fld.map fun k => ((k : Nat) : Int))]) (ck rfl) rfl rfl hG1.fam hG1.lt hB1 (fun w5 S5 hF5 hB5 => highs_any (v := v) (r := r) (h.sys (Sys.ofBelow hB5)) ho (S5.own (gr, rulO g r) (by repeat (first | exact List.mem_cons_self | apply List.mem_cons_of_mem))).2 (S5.own (g, gamO v t gm) (by repeat (first | exact List.mem_cons_self | apply List.mem_cons_of_mem))).2) (fun w5 x new hR hF5 hB5 hk5 => ?_) ZZMK
    obtain ⟨⟨qA, qn, qc⟩, rfl, rfl⟩ := hR
    simp only [svV]
    repeat (first | (refine M0 ?_; first | refine SL ?_ | refine SB fun _ _ => ?_ | refine Y4 (Ev.call (f := 55) (ck rfl) rfl (fun w S => nev_any w)) ?_) | (refine M1 ?_; refine SC ?_) | (refine M2 ?_; refine SE ?_))
    refine XE.retM0 tok Try.results27 rfl (by simp only [and_self, and_true]) (fun w' S => ?_)
    refine ⟨_, _, rfl, ⟨⟨qA, qn, qc⟩, by rw [d1, d2]; rfl, rfl⟩, fun x hx => ?_, hB5.trans S.toBelow⟩
    rw [d3, List.mem_singleton] at hx
    subst hx
    exact (hF5.sys S ZZMK).get (.head _)
  | true =>
  repeat (first | (refine M0 ?_; first | refine SL ?_ | refine SB fun _ _ => ?_ | refine Y4 (Ev.load_loc tok 2 (g := gr) (o := 0) rfl rfl rfl rfl) ?_) | (refine M1 ?_; refine SC ?_) | (refine M2 ?_; refine SE ?_))
  rename_i g12 hg12
  refine XL.callr (fst := []) (cap := []) (fun w1 x w2 => ∃ gp, x = .func (.func 86) #[] #[.pointer (some ⟨gp, 0, none⟩)] ∧ Sys w1.heap.size w1 [(gp, cel 102 [.pointer (some ⟨g, 0, none⟩)])] w2) (ck rfl) rfl rfl rfl (fun w1 S1 => begs0_any) (fun wX x w2 S1 hR => ?_)
  obtain ⟨gp, rfl, S2⟩ := hR
  refine ⟨_, w2, (S1.join S2 (List.Sublist.refl _)).rebase (List.sublist_cons_self _ _), ?_⟩
  have hB2 : Below w.heap.size w w2 := hB1.trans (S1.toBelow.trans (S2.toBelow.mono (Nat.le_trans S1.base S1.size)))
  have hgpL : ∀ x, x ∈ [g12, g7, gr, g, g5, g4, g3, g2] → x < gp := fun x hx => Nat.lt_of_lt_of_le (S1.keyLt x hx) (S2.own _ (.head _)).1
  have hgpc : w2.cell? ⟨gp, 0, none⟩ = some (.pointer (some ⟨g, 0, none⟩)) := by
    have := (S2.own _ (.head _)).2
    simp [World.cell?, this]
  have hgpl : gp < w2.heap.size := S2.lt (.head _)
  have hG2 : Gam t v w.heap.size g gm [g12, g7, gr, g, g5, g4, g3, g2] [] [] w2 := by
    have h1 := (hG1.add S1 (by repeat (first | exact List.mem_cons_self | apply List.mem_cons_of_mem)) ZZMK).made (new := []) S2.toBelow (fun x hx => by cases hx)
    exact h1.less (fun x hx => List.mem_append_left _ hx) (by simp)
  clear S1 S2
  repeat (first | (refine M0 ?_; first | refine SL ?_ | refine SB fun _ _ => ?_) | (refine M1 ?_; refine SC ?_) | (refine M2 ?_; refine SE ?_))
  refine XC.rangeFuncD (cap := [.pointer (some ⟨gp, 0, none⟩)]) rfl (ck rfl) (fun fn a D w3 hD hf S3 => ?_)
  have hfS : Fits 101 [] [(12, .pointer (some ⟨g12, 0, none⟩)), (7, .pointer (some ⟨g7, 0, none⟩)), (5, .pointer (some ⟨g5, 0, none⟩)), (4, .pointer (some ⟨g4, 0, none⟩))] { tmps := a.tmps, defers := [] } := by
    have h4 := Sub.fits (G := [(12, .pointer (some ⟨g12, 0, none⟩)), (7, .pointer (some ⟨g7, 0, none⟩)), (5, .pointer (some ⟨g5, 0, none⟩)), (4, .pointer (some ⟨g4, 0, none⟩))]) ZZSUB hf
    exact ⟨h4.size, rfl, h4.get⟩
  have hG3 : Gam t v w.heap.size g gm [D + 1, D, g12, g7, gr, g, g5, g4, g3, g2] [] [] w3 := by
    have h1 := hG2.add S3 (by repeat (first | exact List.mem_cons_self | apply List.mem_cons_of_mem)) (fun e he => by
      have h5 : e.1 ∈ [D + 1, D, g12, g7, gr, g, g5, g4, g3, g2] := List.mem_map.2 ⟨e, he, rfl⟩
      rcases List.mem_cons.1 h5 with h5 | h5
      · right; omega
      rcases List.mem_cons.1 h5 with h5 | h5
      · right; omega
      · left; exact h5)
    exact h1.less (fun x hx => List.mem_append_left _ hx) (by simp)
  have hB3 : Below w.heap.size w w3 := hB2.trans S3.toBelow
  have hbg := begs_any (B := w.heap.size) (l := D + 1) (gp := gp) (g := g) (gm := gm) (v := v) (t := t) (σ := World × Option (Nat × SV) × Bool)
    (fun s => [(D + 1, .loop (recO fn a.tmps #[45] _ _ D (match s.2.2 with | false => .ready | true => .done) (match s.2.2 with | false => none | true => some (.exit 0)))), (D, .deferred (some [])), (g12, cel 4 [.bool s.2.1.isSome]), (g7, cel 113 [.pointer (some ⟨gr, 0, none⟩)]), (gr, rulO g r), (g, gamO v t gm), (g5, cel 26 [bstQ s.2.1]), (g4, cel 36 (bstC t s.2.1)), (g3, cel 42 [.int .i64 r.count, .int .i64 r.early]), (g2, cel 29 (ctkC v t))])
    (fun s => s.1)
    (fun i s => s.2.2 = false ∧ Gam t v w.heap.size g gm [D + 1, D, g12, g7, gr, g, g5, g4, g3, g2] [] (bstHs t s.2.1) s.1 ∧ Below w.heap.size w s.1 ∧ BInv t r i (s.2.1.map (·.1)))
    (fun s => s.2.2 = true ∧ Below w.heap.size w s.1 ∧ t.bst r = s.2.1.map (·.1) ∧ Fam s.1 w.heap.size [D + 1, D, g12, g7, gr, g, g5, g4, g3, g2] [] (bstHs t s.2.1))
    (w3, none, false) ho (S3.rebase (List.Sublist.refl _)) ⟨rfl, hG3, hB3, BInv.start t r⟩ ?_ ?_ ?_ ?_ ?_
  rotate_left
  · have h := S3.farCell (a := ⟨gp, 0, none⟩) hgpl (fun e he => by
      have h5 : e.1 ∈ [D + 1, D, g12, g7, gr, g, g5, g4, g3, g2] := List.mem_map.2 ⟨e, he, rfl⟩
      show e.1 ≠ gp
      rcases List.mem_cons.1 h5 with h5 | h5
      · omega
      rcases List.mem_cons.1 h5 with h5 | h5
      · omega
      · have := hgpL e.1 h5; omega)
    exact h.trans hgpc
  · exact Nat.lt_of_lt_of_le hgpl S3.size
  · intro e he
    have h5 : e.1 ∈ [D + 1, D, g12, g7, gr, g, g5, g4, g3, g2] := List.mem_map.2 ⟨e, he, rfl⟩
    rcases List.mem_cons.1 h5 with h5 | h5
    · omega
    rcases List.mem_cons.1 h5 with h5 | h5
    · omega
    · have := hgpL e.1 h5; omega
  · repeat (first | exact List.mem_cons_self | apply List.mem_cons_of_mem)
  · rintro i ⟨W, b, s⟩ hi ⟨rfl, hGW, hBW, hJ⟩ w1' S1
    simp only at hGW hBW hJ S1
    have hloop := (S1.own _ (.head _)).2
    refine ⟨_, _, _, _, run_yield (args := #[.int .i64 (i : Nat)]) hloop rfl, ?_⟩
    refine round_of (hfS.one5 rfl) S1 ?_
    clear hloop
    have hil : (i : Int) ≤ t.last := by unfold CTk.beg at hi; omega
    have hl1 : -31 ≤ t.last ∧ t.last ≤ 60 := by unfold CTk.last; omega
    simp only [gamO, gamC, ctkC, rulO, rulC, svV]
    repeat (first | (refine M0 ?_; first | refine SL ?_ | refine SB fun _ _ => ?_) | (refine XI.id ?_; first | refine XI.done ?_ | refine XI.one1 rfl ?_) | (refine XR'.id ?_; first | refine XR'.seq ?_ | refine XR'.region ?_ | refine XR'.block ?_ | refine XR'.skip ?_ | refine XR'.ret ?_ | refine XR'.cond_t rfl ?_ | refine XR'.cond_f rfl ?_ | refine XR'.exit ?_) | (refine M1 ?_; first | refine SC ?_ | refine SD ?_) | (refine M2 ?_; first | refine XE.nextI ?_ | refine XE.nextR ?_ | refine SE ?_))
    refine XE.begin (i := 0) rfl rfl rfl ?_
    repeat (first | (refine M0 ?_; first | refine SL ?_ | refine SB fun _ _ => ?_) | (refine XI.id ?_; first | refine XI.done ?_ | refine XI.one1 rfl ?_) | (refine XR'.id ?_; first | refine XR'.seq ?_ | refine XR'.region ?_ | refine XR'.block ?_ | refine XR'.skip ?_ | refine XR'.ret ?_ | refine XR'.cond_t rfl ?_ | refine XR'.cond_f rfl ?_ | refine XR'.exit ?_) | (refine M1 ?_; first | refine SC ?_ | refine SD ?_) | (refine M2 ?_; first | refine XE.nextI ?_ | refine XE.nextR ?_ | refine SE ?_))
    have hml := fun {L : Lo} (w9 : World) (S9 : Sys w.heap.size W L w9) (m1 : (gr, rulO g r) ∈ L) (m2 : (g, gamO v t gm) ∈ L) => may_any (r := r) (i := (i : Nat)) ((hGW.task.below S9.toBelow).more (Nat.le_trans S9.base S9.size)) ho hq (S9.own _ m1).2 (S9.own _ m2).2
    repeat (first | (refine M0 ?_; first | refine SL ?_ | refine SB fun _ _ => ?_ | refine Y4 (Ev.load_loc tok 3 (g := g7) (o := 0) rfl rfl rfl rfl) ?_ | refine Y4 (Ev.call (f := 59) (ck rfl) rfl (fun w9 S9 => hml w9 S9 (by repeat (first | exact List.mem_cons_self | apply List.mem_cons_of_mem)) (by repeat (first | exact List.mem_cons_self | apply List.mem_cons_of_mem)))) ?_) | (refine XI.id ?_; first | refine XI.done ?_ | refine XI.one1 rfl ?_) | (refine XR'.id ?_; first | refine XR'.seq ?_ | refine XR'.region ?_ | refine XR'.block ?_ | refine XR'.skip ?_ | refine XR'.ret ?_ | refine XR'.cond_t rfl ?_ | refine XR'.cond_f rfl ?_ | refine XR'.exit ?_) | (refine M1 ?_; first | refine SC ?_ | refine SD ?_) | (refine M2 ?_; first | refine XE.nextI ?_ | refine XE.nextR ?_ | refine SE ?_))
    cases hmy : t.may r (i : Nat) with
    | false =>
      repeat (first | (refine M0 ?_; first | refine SL ?_ | refine SB fun _ _ => ?_) | (refine XI.id ?_; first | refine XI.done ?_ | refine XI.one1 rfl ?_) | (refine XR'.id ?_; first | refine XR'.seq ?_ | refine XR'.region ?_ | refine XR'.block ?_ | refine XR'.skip ?_ | refine XR'.ret ?_ | refine XR'.cond_t rfl ?_ | refine XR'.cond_f rfl ?_ | refine XR'.exit ?_) | (refine M1 ?_; first | refine SC ?_ | refine SD ?_) | (refine M2 ?_; first | refine XE.nextI ?_ | refine XE.nextR ?_ | refine SE ?_))
      refine XE.endExit (i := 0) rfl rfl (fun w' S => ?_)
      refine ⟨_, rfl, .inr ⟨rfl, (w', b, true), ⟨rfl, hBW.trans S.toBelow, hJ.bst hdl.1 (may_down hcl hi hmy), ?_⟩, S.rebase ZZSM⟩⟩
      exact Fam.add (ks' := [D + 1, D, g12, g7, gr, g, g5, g4, g3, g2]) (hGW.on (ks := [D + 1, D, g12, g7, gr, g, g5, g4, g3, g2]) S (by repeat (first | exact List.mem_cons_self | apply List.mem_cons_of_mem)) ZZMK ZZSB (by simp) (fun x hx => hx)).fam (fun x hx => .inl (.tail _ hx))
    | true =>
      repeat (first | (refine M0 ?_; first | refine SL ?_ | refine SB fun _ _ => ?_ | refine Y4 (Ev.load_loc tok 3 (g := g7) (o := 0) rfl rfl rfl rfl) ?_ | refine Y4 (Ev.load_loc tok 4 (g := gr) (o := 0) rfl rfl rfl rfl) ?_ | refine Y4 (Ev.load_loc tok 5 (g := g) (o := 6) rfl rfl rfl rfl) ?_) | (refine XI.id ?_; first | refine XI.done ?_ | refine XI.one1 rfl ?_) | (refine XR'.id ?_; first | refine XR'.seq ?_ | refine XR'.region ?_ | refine XR'.block ?_ | refine XR'.skip ?_ | refine XR'.ret ?_ | refine XR'.cond_t rfl ?_ | refine XR'.cond_f rfl ?_ | refine XR'.exit ?_) | (refine M1 ?_; first | refine SC ?_ | refine SD ?_) | (refine M2 ?_; first | refine XE.nextI ?_ | refine XE.nextR ?_ | refine SE ?_))
      have hNil : Gam t v w.heap.size g gm [D + 1, D, g12, g7, gr, g, g5, g4, g3, g2] [⟨Int, intK5, .slice none 0 0, t.notTo i 0⟩] (bstHs t b) W := by
        rw [show t.notTo i 0 = [] from rfl]
        exact hGW.nil intK5
      refine XR'.loopk [4, 5, 7, 12, 13, 58] rfl (fun z : Nat × World × SV => [(14, svV z.2.2), (59, .int .i64 (z.1 : Nat))]) (fun z => [(D + 1, .loop { (recO fn a.tmps #[45] _ _ D .ready none) with state := .busy }), (D, .deferred (some [])), (g12, cel 4 [.bool b.isSome]), (g7, cel 113 [.pointer (some ⟨gr, 0, none⟩)]), (gr, rulO g r), (g, gamO v t gm), (g5, cel 26 [bstQ b]), (g4, cel 36 (bstC t b)), (g3, cel 42 [.int .i64 r.count, .int .i64 r.early]), (g2, cel 29 (ctkC v t))]) (fun z => z.2.1) (fun z => z.1 ≤ t.m ∧ Below w.heap.size w z.2.1 ∧ Gam t v w.heap.size g gm [D + 1, D, g12, g7, gr, g, g5, g4, g3, g2] [⟨Int, intK5, svV z.2.2, t.notTo i z.1⟩] (bstHs t b) z.2.1) (fun z => t.m - z.1) (0, W, ⟨none, 0, 0⟩) ⟨Nat.zero_le _, hBW, hNil⟩ ZZSUB (fun _ h => h) ?_
      rintro ⟨k, W2, q⟩ ⟨hk, hB2', hG2'⟩
      simp only at hk hB2' hG2'
      simp only [gamO, gamC, ctkC, rulO, rulC, svV]
      dsimp only [List.cons_append, List.nil_append]
      repeat (first | (refine M0 ?_; first | refine SL ?_ | refine SB fun _ _ => ?_) | (refine XI.id ?_; first | refine XI.done ?_ | refine XI.one1 rfl ?_) | (refine XR'.id ?_; first | refine XR'.seq ?_ | refine XR'.region ?_ | refine XR'.block ?_ | refine XR'.skip ?_ | refine XR'.ret ?_ | refine XR'.cond_t rfl ?_ | refine XR'.cond_f rfl ?_ | refine XR'.exit ?_) | (refine M1 ?_; first | refine SC ?_ | refine SD ?_) | (refine M2 ?_; first | refine XE.nextI ?_ | refine XE.nextR ?_ | refine SE ?_))
      have hpl := fun {L : Lo} {B : Nat} {W1 : World} (w9 : World) (S9 : Sys B W1 L w9) (hm : (g, gamO v t gm) ∈ L) => plan_any (v := v) (t := t) (gm := gm) (i := (i : Nat)) (S9.own _ hm).2 ho ⟨by omega, by omega⟩
      by_cases hkm : k < t.m
      rotate_left
      · rw [show decide ((k : Int) < (v.h.n : Int)) = false from decide_eq_false (by have := h.hn; omega)]
        obtain rfl : k = t.m := by omega
        have hGF := hG2'.freeze
        have hql : q.n = (t.notTo i t.m).length := (hGF.fam.held _ (.head _)).len (by decide)
        repeat (first | (refine M0 ?_; first | refine SL ?_ | refine SB fun _ _ => ?_) | (refine XI.id ?_; first | refine XI.done ?_ | refine XI.one1 rfl ?_) | (refine XR'.id ?_; first | refine XR'.seq ?_ | refine XR'.region ?_ | refine XR'.block ?_ | refine XR'.skip ?_ | refine XR'.ret ?_ | refine XR'.cond_t rfl ?_ | refine XR'.cond_f rfl ?_ | refine XR'.exit ?_) | (refine M1 ?_; first | refine SC ?_ | refine SD ?_) | (refine M2 ?_; first | refine XE.nextI ?_ | refine XE.nextR ?_ | refine SE ?_))
        rcases b with _ | ⟨i0, q0⟩
        · simp only [bstQ, bstC]
          repeat (first | (refine M0 ?_; first | refine SL ?_ | refine SB fun _ _ => ?_ | refine Y4 (Ev.load_loc tok 2 (g := g12) (o := 0) rfl rfl rfl rfl) ?_) | (refine XI.id ?_; first | refine XI.done ?_ | refine XI.one1 rfl ?_) | (refine XR'.id ?_; first | refine XR'.seq ?_ | refine XR'.region ?_ | refine XR'.block ?_ | refine XR'.skip ?_ | refine XR'.ret ?_ | refine XR'.cond_t rfl ?_ | refine XR'.cond_f rfl ?_ | refine XR'.exit ?_) | (refine M1 ?_; first | refine SC ?_ | refine SD ?_) | (refine M2 ?_; first | refine XE.nextI ?_ | refine XE.nextR ?_ | refine SE ?_))
          repeat (first | (refine M0 ?_; first | refine SL ?_ | refine SB fun _ _ => ?_ | refine Y4 (Ev.load_loc tok 3 (g := g7) (o := 0) rfl rfl rfl rfl) ?_ | refine Y4 (Ev.load_loc tok 4 (g := gr) (o := 0) rfl rfl rfl rfl) ?_) | (refine XI.id ?_; first | refine XI.done ?_ | refine XI.one1 rfl ?_) | (refine XR'.id ?_; first | refine XR'.seq ?_ | refine XR'.region ?_ | refine XR'.block ?_ | refine XR'.skip ?_ | refine XR'.ret ?_ | refine XR'.cond_t rfl ?_ | refine XR'.cond_f rfl ?_ | refine XR'.exit ?_) | (refine M1 ?_; first | refine SC ?_ | refine SD ?_) | (refine M2 ?_; first | refine XE.nextI ?_ | refine XE.nextR ?_ | refine SE ?_))
          repeat (first | (refine M0 ?_; first | refine SL ?_ | refine SB fun _ _ => ?_ | refine Y4 (Ev.call (f := 50) (ck rfl) rfl (fun w9 S9 => hpl w9 S9 (.tail _ (.tail _ (.tail _ (.tail _ (.tail _ (.head _)))))))) ?_) | (refine XI.id ?_; first | refine XI.done ?_ | refine XI.one1 rfl ?_) | (refine XR'.id ?_; first | refine XR'.seq ?_ | refine XR'.region ?_ | refine XR'.block ?_ | refine XR'.skip ?_ | refine XR'.ret ?_ | refine XR'.cond_t rfl ?_ | refine XR'.cond_f rfl ?_ | refine XR'.exit ?_) | (refine M1 ?_; first | refine SC ?_ | refine SD ?_) | (refine M2 ?_; first | refine XE.nextI ?_ | refine XE.nextR ?_ | refine SE ?_))
          repeat (first | (refine M0 ?_; first | refine SL ?_ | refine SB fun _ _ => ?_ | refine XL.store tok 7 (g := g4) (o := 0) (cs := [.int .i64 0, .int .i64 0]) rfl rfl rfl rfl (.inr rfl) rfl rfl rfl ?_ | refine XL.store_at tok 6 (g := g5) (o := 0) (j := 0) (cs := [.slice none 0 0]) rfl rfl rfl rfl rfl (Nat.le_of_ble_eq_true rfl) rfl ?_ | refine XL.store_at tok 2 (g := g12) (o := 0) (j := 0) (cs := [.bool false]) rfl rfl rfl rfl rfl (Nat.le_of_ble_eq_true rfl) rfl ?_) | (refine XI.id ?_; first | refine XI.done ?_ | refine XI.one1 rfl ?_) | (refine XR'.id ?_; first | refine XR'.seq ?_ | refine XR'.region ?_ | refine XR'.block ?_ | refine XR'.skip ?_ | refine XR'.ret ?_ | refine XR'.cond_t rfl ?_ | refine XR'.cond_f rfl ?_ | refine XR'.exit ?_) | (refine M1 ?_; first | refine SC ?_ | refine SD ?_) | (refine M2 ?_; first | refine XE.nextI ?_ | refine XE.nextR ?_ | refine SE ?_))
          refine XE.endR (i := 0) rfl rfl (fun w' S => ?_)
          refine ⟨_, rfl, .inl ⟨rfl, (w', some (i, q), false), ⟨rfl, ?_, hB2'.trans S.toBelow, ?_⟩, S.rebase ZZSM⟩⟩
          · exact hGF.on (ks := [D + 1, D, g12, g7, gr, g, g5, g4, g3, g2]) S (by repeat (first | exact List.mem_cons_self | apply List.mem_cons_of_mem)) ZZMK ZZSB (by simp) (fun x hx => by
              unfold bstHs at hx
              rw [List.mem_singleton] at hx
              subst hx
              exact .head _)
          · exact hJ.step hi hmy
        · have hq0 : q0.n = (t.notL (i0 : Nat)).length := by
            have := (hGF.fam.held (hList intK5 q0 ((t.notL (i0 : Nat)).map fun k => ((k : Nat) : Int))) (.tail _ (.head _))).len (by decide)
            rw [this, List.length_map]
          have hq1 : q.n = (t.notL (i : Nat)).length := by rw [hql, notTo_all, List.length_map]
          have hst2 := hJ.step hi hmy
          simp only [bstQ, bstC, svV]
          repeat (first | (refine M0 ?_; first | refine SL ?_ | refine SB fun _ _ => ?_ | refine Y4 (Ev.load_loc tok 2 (g := g12) (o := 0) rfl rfl rfl rfl) ?_ | refine Y4 (Ev.load_loc tok 6 (g := g5) (o := 0) rfl rfl rfl rfl) ?_) | (refine XI.id ?_; first | refine XI.done ?_ | refine XI.one1 rfl ?_) | (refine XR'.id ?_; first | refine XR'.seq ?_ | refine XR'.region ?_ | refine XR'.block ?_ | refine XR'.skip ?_ | refine XR'.ret ?_ | refine XR'.cond_t rfl ?_ | refine XR'.cond_f rfl ?_ | refine XR'.exit ?_) | (refine M1 ?_; first | refine SC ?_ | refine SD ?_) | (refine M2 ?_; first | refine XE.nextI ?_ | refine XE.nextR ?_ | refine SE ?_))
          by_cases hlt : q.n < q0.n
          · rw [show decide ((q.n : Int) < (q0.n : Int)) = true from decide_eq_true (by omega)]
            repeat (first | (refine M0 ?_; first | refine SL ?_ | refine SB fun _ _ => ?_ | refine Y4 (Ev.load_loc tok 3 (g := g7) (o := 0) rfl rfl rfl rfl) ?_ | refine Y4 (Ev.load_loc tok 4 (g := gr) (o := 0) rfl rfl rfl rfl) ?_ | refine Y4 (Ev.call (f := 50) (ck rfl) rfl (fun w9 S9 => hpl w9 S9 (.tail _ (.tail _ (.tail _ (.tail _ (.tail _ (.head _)))))))) ?_) | (refine XI.id ?_; first | refine XI.done ?_ | refine XI.one1 rfl ?_) | (refine XR'.id ?_; first | refine XR'.seq ?_ | refine XR'.region ?_ | refine XR'.block ?_ | refine XR'.skip ?_ | refine XR'.ret ?_ | refine XR'.cond_t rfl ?_ | refine XR'.cond_f rfl ?_ | refine XR'.exit ?_) | (refine M1 ?_; first | refine SC ?_ | refine SD ?_) | (refine M2 ?_; first | refine XE.nextI ?_ | refine XE.nextR ?_ | refine SE ?_))
            repeat (first | (refine M0 ?_; first | refine SL ?_ | refine SB fun _ _ => ?_ | refine XL.store tok 7 (g := g4) (o := 0) (cs := [.int .i64 (t.plan (i0 : Nat)).close, .int .i64 (t.plan (i0 : Nat)).open_]) rfl rfl rfl rfl (.inr rfl) rfl rfl rfl ?_ | refine XL.store_at tok 6 (g := g5) (o := 0) (j := 0) (cs := [.slice q0.A q0.n q0.c]) rfl rfl rfl rfl rfl (Nat.le_of_ble_eq_true rfl) rfl ?_ | refine XL.store_at tok 2 (g := g12) (o := 0) (j := 0) (cs := [.bool true]) rfl rfl rfl rfl rfl (Nat.le_of_ble_eq_true rfl) rfl ?_) | (refine XI.id ?_; first | refine XI.done ?_ | refine XI.one1 rfl ?_) | (refine XR'.id ?_; first | refine XR'.seq ?_ | refine XR'.region ?_ | refine XR'.block ?_ | refine XR'.skip ?_ | refine XR'.ret ?_ | refine XR'.cond_t rfl ?_ | refine XR'.cond_f rfl ?_ | refine XR'.exit ?_) | (refine M1 ?_; first | refine SC ?_ | refine SD ?_) | (refine M2 ?_; first | refine XE.nextI ?_ | refine XE.nextR ?_ | refine SE ?_))
            refine XE.endR (i := 0) rfl rfl (fun w' S => ?_)
            refine ⟨_, rfl, .inl ⟨rfl, (w', some (i, q), false), ⟨rfl, ?_, hB2'.trans S.toBelow, ?_⟩, S.rebase ZZSM⟩⟩
            · exact hGF.on (ks := [D + 1, D, g12, g7, gr, g, g5, g4, g3, g2]) S (by repeat (first | exact List.mem_cons_self | apply List.mem_cons_of_mem)) ZZMK ZZSB (by simp) (fun x hx => by
                unfold bstHs at hx
                rw [List.mem_singleton] at hx
                subst hx
                exact .head _)
            · have e : t.bStep (some i0) i = some i := by
                unfold CTk.bStep
                simp only
                rw [if_pos (by omega)]
              have h9 : t.bStep (Option.map (·.1) (some (i0, q0))) i = some i := e
              rw [h9] at hst2
              exact hst2
          · rw [show decide ((q.n : Int) < (q0.n : Int)) = false from decide_eq_false (by omega)]
            repeat (first | (refine M0 ?_; first | refine SL ?_ | refine SB fun _ _ => ?_) | (refine XI.id ?_; first | refine XI.done ?_ | refine XI.one1 rfl ?_) | (refine XR'.id ?_; first | refine XR'.seq ?_ | refine XR'.region ?_ | refine XR'.block ?_ | refine XR'.skip ?_ | refine XR'.ret ?_ | refine XR'.cond_t rfl ?_ | refine XR'.cond_f rfl ?_ | refine XR'.exit ?_) | (refine M1 ?_; first | refine SC ?_ | refine SD ?_) | (refine M2 ?_; first | refine XE.nextI ?_ | refine XE.nextR ?_ | refine SE ?_))
            refine XE.endR (i := 0) rfl rfl (fun w' S => ?_)
            refine ⟨_, rfl, .inl ⟨rfl, (w', some (i0, q0), false), ⟨rfl, ?_, hB2'.trans S.toBelow, ?_⟩, S.rebase ZZSM⟩⟩
            · exact hGF.on (ks := [D + 1, D, g12, g7, gr, g, g5, g4, g3, g2]) S (by repeat (first | exact List.mem_cons_self | apply List.mem_cons_of_mem)) ZZMK ZZSB (by simp) (fun x hx => .tail _ hx)
            · have e : t.bStep (some i0) i = some i0 := by
                unfold CTk.bStep
                simp only
                rw [if_neg (by omega)]
              have h9 : t.bStep (Option.map (·.1) (some (i0, q0))) i = some i0 := e
              rw [h9] at hst2
              exact hst2
      rw [show decide ((k : Int) < (v.h.n : Int)) = true from decide_eq_true (by have := h.hn; omega)]
      repeat (first | (refine M0 ?_; first | refine SL ?_ | refine SB fun _ _ => ?_ | refine Y4 (Ev.load_loc tok 3 (g := g7) (o := 0) rfl rfl rfl rfl) ?_ | refine Y4 (Ev.load_loc tok 4 (g := gr) (o := 0) rfl rfl rfl rfl) ?_) | (refine XI.id ?_; first | refine XI.done ?_ | refine XI.one1 rfl ?_) | (refine XR'.id ?_; first | refine XR'.seq ?_ | refine XR'.region ?_ | refine XR'.block ?_ | refine XR'.skip ?_ | refine XR'.ret ?_ | refine XR'.cond_t rfl ?_ | refine XR'.cond_f rfl ?_ | refine XR'.exit ?_) | (refine M1 ?_; first | refine SC ?_ | refine SD ?_) | (refine M2 ?_; first | refine XE.nextI ?_ | refine XE.nextR ?_ | refine SE ?_))
      have lgr : gr < w1.heap.size := hG1.lt gr (by simp)
      have hst : t.strange (t.plan (i : Nat)) = false := (plan_ok ho (Int.natCast_nonneg i) hil).1
      have hfl := fun (w5 : World) (ks2 : List Nat) (hG5 : Gam t v w.heap.size g gm ks2 [] [] w5) => fails_any (p := t.plan (i : Nat)) hG5 ho hkm hst
      simp only [plnV] at hfl
      refine XR'.drawRS (trunc w w.heap.size) [(g7, cel 113 [.pointer (some ⟨gr, 0, none⟩)]), (gr, rulO g r)] [0, 1, 2, 3, 4, 5, 6, 7, 8, 9] [10, 11, 12] mixed (fun _ h => Sys.anchorT hB2' h (by intro e he; repeat (first | (cases he; done) | (rcases List.mem_cons.1 he with rfl | he; · repeat (first | exact List.mem_cons_self | apply List.mem_cons_of_mem)))) (by simp; omega) hle) rfl rfl (by kernel_rfl) ?_
      repeat (first | (refine M0 ?_; first | refine SL ?_ | refine SB fun _ _ => ?_ | refine Y4 (Ev.load_loc tok 0 (g := g7) (o := 0) rfl rfl rfl rfl) ?_ | refine Y4 (Ev.load_loc tok 1 (g := gr) (o := 0) rfl rfl rfl rfl) ?_) | (refine M2 ?_; refine SE ?_) | (refine M3 ?_; first | refine SG ?_ | refine SF ?_ | refine YF (Ev.load_loc tok 0 (g := g7) (o := 0) rfl rfl rfl rfl) ?_ | refine YF (Ev.load_loc tok 1 (g := gr) (o := 0) rfl rfl rfl rfl) ?_) | (refine M4 ?_; refine SR ?_) | (refine M5 ?_; first | exact M7 | refine YM ?_ | refine YN ?_ ?_))
      repeat (first | (refine M0 ?_; first | refine SL ?_ | refine SB fun _ _ => ?_ | refine Y4 (Ev.call (f := 50) (ck rfl) rfl (fun w9 S9 => hpl w9 S9 (by repeat (first | exact List.mem_cons_self | apply List.mem_cons_of_mem)))) ?_) | (refine M2 ?_; refine SE ?_) | (refine M3 ?_; first | refine SG ?_ | refine SF ?_ | refine YF (Ev.call (f := 50) (ck rfl) rfl (fun w9 S9 => hpl w9 S9 (by repeat (first | exact List.mem_cons_self | apply List.mem_cons_of_mem)))) ?_) | (refine M4 ?_; refine SR ?_) | (refine M5 ?_; first | exact M7 | refine YM ?_ | refine YN ?_ ?_))
      refine z7 ?_
      repeat (first | (refine M0 ?_; first | refine SL ?_ | refine SB fun _ _ => ?_) | (refine M2 ?_; refine SE ?_) | (refine M3 ?_; first | refine SG ?_ | refine SF ?_) | (refine M4 ?_; refine SR ?_) | (refine M5 ?_; first | exact M7 | refine YM ?_ | refine YN ?_ ?_))
      refine XL.callJ (IntR (idxB (t.above k (t.plan (i : Nat))) t.n)) (ck rfl) rfl rfl hG2' (by repeat (first | exact List.mem_cons_self | apply List.mem_cons_of_mem)) (fun w9 ks2 _ _ hG9 => hfl w9 ks2 hG9) (fun w9 x new hR hG9 hB9 => ?_) ZZMK
      obtain ⟨rfl, rfl⟩ := hR
      have hBW9 : Below w.heap.size w w9 := hB2'.trans hB9
      repeat (first | (refine M0 ?_; first | refine SL ?_ | refine SB fun _ _ => ?_) | (refine M2 ?_; refine SE ?_) | (refine M3 ?_; first | refine SG ?_ | refine SF ?_) | (refine M4 ?_; refine SR ?_) | (refine M5 ?_; first | exact M7 | refine YM ?_ | refine YN ?_ ?_))
      refine z7 ?_
      repeat (first | (refine M0 ?_; first | refine SL ?_ | refine SB fun _ _ => ?_) | (refine M2 ?_; refine SE ?_) | (refine M3 ?_; first | refine SG ?_ | refine SF ?_) | (refine M4 ?_; refine SR ?_) | (refine M5 ?_; first | exact M7 | refine YM ?_ | refine YN ?_ ?_))
      refine z7 ?_
      repeat (first | (refine M0 ?_; first | refine SL ?_ | refine SB fun _ _ => ?_) | (refine M2 ?_; refine SE ?_) | (refine M3 ?_; first | refine SG ?_ | refine SF ?_) | (refine M4 ?_; refine SR ?_) | (refine M5 ?_; first | exact M7 | refine YM ?_ | refine YN ?_ ?_))
      refine XE.onlyN ?_
      have eI : idxB (t.above k (t.plan (i : Nat))) t.n = match t.fails k (t.plan (i : Nat)) with | none => -1 | some a => (a : Int) := by
        unfold idxB CTk.fails
        cases firstB (t.above k (t.plan (i : Nat))) t.n <;> rfl
      rw [eI]
      cases hf : t.fails k (t.plan (i : Nat)) with
      | none =>
        simp only
        repeat (first | (refine M0 ?_; first | refine SL ?_ | refine SB fun _ _ => ?_) | (refine XI.id ?_; first | refine XI.done ?_ | refine XI.one1 rfl ?_) | (refine XR'.id ?_; first | refine XR'.seq ?_ | refine XR'.region ?_ | refine XR'.block ?_ | refine XR'.skip ?_ | refine XR'.ret ?_ | refine XR'.cond_t rfl ?_ | refine XR'.cond_f rfl ?_ | refine XR'.exit ?_) | (refine M1 ?_; first | refine SC ?_ | refine SD ?_) | (refine M2 ?_; first | refine XE.nextI ?_ | refine XE.nextR ?_ | refine SE ?_))
        refine XE.roundW (s := (k, W2, q)) (fun w' S => ⟨(k + 1, w', q), ⟨hkm, hBW9.trans S.toBelow, ?_⟩, by simp only; omega, ZZSUB, S.rebase ZZSM⟩)
        rw [notTo_keep hf]
        exact hG9.on (ks := [D + 1, D, g12, g7, gr, g, g5, g4, g3, g2]) S (by repeat (first | exact List.mem_cons_self | apply List.mem_cons_of_mem)) ZZMK ZZSB (by simp) (fun x hx => hx)
      | some a =>
        simp only
        repeat (first | (refine M0 ?_; first | refine SL ?_ | refine SB fun _ _ => ?_ | refine XL.buildSlice tok rfl rfl rfl rfl rfl rfl rfl rfl rfl (fun _ _ => ?_)) | (refine XI.id ?_; first | refine XI.done ?_ | refine XI.one1 rfl ?_) | (refine XR'.id ?_; first | refine XR'.seq ?_ | refine XR'.region ?_ | refine XR'.block ?_ | refine XR'.skip ?_ | refine XR'.ret ?_ | refine XR'.cond_t rfl ?_ | refine XR'.cond_f rfl ?_ | refine XR'.exit ?_) | (refine M1 ?_; first | refine SC ?_ | refine SD ?_) | (refine M2 ?_; first | refine XE.nextI ?_ | refine XE.nextR ?_ | refine SE ?_))
        rename_i g53 hg53
        refine XL.pushG (K := intK5) (a := ((k : Nat) : Int)) 0 int5_el (by decide) rfl rfl rfl hG9 (by repeat (first | exact List.mem_cons_self | apply List.mem_cons_of_mem)) rfl (.head _) rfl (fun _ => rfl) (by have := notTo_len t i k; omega) (by decide) (fun w6 r6 hG6 hB6 => ?_) ZZMK
        rw [← notTo_push hf] at hG6
        simp only [svV]
        repeat (first | (refine M0 ?_; first | refine SL ?_ | refine SB fun _ _ => ?_) | (refine XI.id ?_; first | refine XI.done ?_ | refine XI.one1 rfl ?_) | (refine XR'.id ?_; first | refine XR'.seq ?_ | refine XR'.region ?_ | refine XR'.block ?_ | refine XR'.skip ?_ | refine XR'.ret ?_ | refine XR'.cond_t rfl ?_ | refine XR'.cond_f rfl ?_ | refine XR'.exit ?_) | (refine M1 ?_; first | refine SC ?_ | refine SD ?_) | (refine M2 ?_; first | refine XE.nextI ?_ | refine XE.nextR ?_ | refine SE ?_))
        refine XE.roundW (s := (k, W2, q)) (fun w' S => ⟨(k + 1, w', r6), ⟨hkm, (hBW9.trans hB6).trans S.toBelow, ?_⟩, by simp only; omega, ZZSUB, S.rebase ZZSM⟩)
        exact hG6.on (ks := [D + 1, D, g12, g7, gr, g, g5, g4, g3, g2]) S (by repeat (first | exact List.mem_cons_self | apply List.mem_cons_of_mem)) ZZMK ZZSB (by simp) (fun x hx => hx)
      any_goals (repeat (first | exact AnyR.nil | refine AnyR.skip rfl ?_))
  refine hbg.mono fun e w4 ⟨v4, e4, hz⟩ => ⟨v4, e4, ?_⟩
  rcases hz with ⟨⟨W, b, s⟩, ⟨rfl, hGW, hBW, hJ⟩, S4⟩ | ⟨⟨W, b, s⟩, ⟨rfl, hBW, hbst, hF⟩, S4⟩
  · refine ⟨.ready, none, _, W, by decide, S4, ?_⟩
    dsimp only [RFEnd]
    have hbst := hJ.bst hdl.1 (fun j hj => absurd hj (by simp))
    have hF := Fam.add (ks' := [D + 1, D, g12, g7, gr, g, g5, g4, g3, g2]) hGW.fam (fun x hx => .inl (.tail _ hx))
    rcases b with _ | ⟨i0, q0⟩
    · simp only [bstQ, bstC, gamO, gamC, rulO, rulC]
      repeat (first | (refine M0 ?_; first | refine SL ?_ | refine SB fun _ _ => ?_ | refine Y4 (Ev.load_loc tok 2 (g := g12) (o := 0) rfl rfl rfl rfl) ?_ | refine XL.store tok 7 (g := g4) (o := 0) (cs := [.int .i64 0, .int .i64 0]) rfl rfl rfl rfl (.inr rfl) rfl rfl rfl ?_ | refine XL.store_at tok 6 (g := g5) (o := 0) (j := 0) (cs := [.slice none 0 0]) rfl rfl rfl rfl rfl (Nat.le_of_ble_eq_true rfl) rfl ?_) | (refine M1 ?_; refine SC ?_) | (refine M2 ?_; refine SE ?_))
      refine XE.retM (i := 1) tok Try.results27 rfl rfl rfl (by simp only [and_self, and_true]) (fun w' S => ?_)
      obtain ⟨d1, d2, d3⟩ := bst_none hc hcl hbst
      exact bstZ d1 d2 d3 (hBW.trans S.toBelow)
    · obtain ⟨d1, d2, d3⟩ := bst_some hc hcl hbst
      simp only [bstQ, bstC, gamO, gamC, rulO, rulC, svV]
      repeat (first | (refine M0 ?_; first | refine SL ?_ | refine SB fun _ _ => ?_ | refine Y4 (Ev.load_loc tok 2 (g := g12) (o := 0) rfl rfl rfl rfl) ?_) | (refine M1 ?_; refine SC ?_) | (refine M2 ?_; refine SE ?_))
      refine XC.drawRS (trunc w w.heap.size) [] [] [0, 1, 2, 3, 4] mixed (fun _ h => Sys.anchorT hBW h (fun e he => by cases he) (by simp) hle) rfl (by kernel_rfl) ?_
      repeat (any_goals (first | (refine M0 ?_; first | refine SL ?_ | refine SB fun _ _ => ?_ | refine Y4 (Ev.load_loc_agg tok 7 (g := g4) (o := 0) rfl rfl rfl rfl) ?_ | refine Y4 (Ev.load_loc tok 6 (g := g5) (o := 0) rfl rfl rfl rfl) ?_ | refine XL.store tok 7 (g := g4) (o := 0) (cs := [.int .i64 (t.plan (i0 : Nat)).close, .int .i64 (t.plan (i0 : Nat)).open_]) rfl rfl rfl rfl (.inr rfl) rfl rfl rfl ?_ | refine XL.store_at tok 6 (g := g5) (o := 0) (j := 0) (cs := [.slice q0.A q0.n q0.c]) rfl rfl rfl rfl rfl (Nat.le_of_ble_eq_true rfl) rfl ?_) | (refine M1 ?_; refine SC ?_) | (refine M2 ?_; first | refine SE ?_ | ((with_reducible refine atHeld ?_); refine z7 ?_)) | (refine M3 ?_; first | refine SG ?_ | refine SF ?_ | refine YF (Ev.load_loc_agg tok 7 (g := g4) (o := 0) rfl rfl rfl rfl) ?_ | refine YF (Ev.load_loc tok 6 (g := g5) (o := 0) rfl rfl rfl rfl) ?_) | (refine M4 ?_; refine SR ?_) | (refine M5 ?_; first | exact M7 | refine YM ?_ | refine YN ?_ ?_)))
      any_goals (repeat (first | exact AnyR.nil | refine AnyR.skip rfl ?_))
      all_goals
        repeat (first | (refine M0 ?_; first | refine SL ?_ | refine SB fun _ _ => ?_) | (refine M1 ?_; refine SC ?_) | (refine M2 ?_; refine SE ?_))
        refine XE.retM (i := 1) tok Try.results27 rfl rfl rfl (by simp only [and_self, and_true]) (fun w' S => ?_)
        refine ⟨_, _, rfl, ⟨q0, by rw [d1, d2]; rfl, rfl⟩, fun x hx => ?_, hBW.trans S.toBelow⟩
        rw [d3, List.mem_singleton] at hx
        subst hx
        exact (hF.sys S ZZMK).get (.head _)
  · refine ⟨.done, some (.exit 0), _, W, by decide, S4, ?_⟩
    dsimp only [RFEnd]
    refine XE.blk_exit ?_
    rcases b with _ | ⟨i0, q0⟩
    · simp only [bstQ, bstC, gamO, gamC, rulO, rulC]
      repeat (first | (refine M0 ?_; first | refine SL ?_ | refine SB fun _ _ => ?_ | refine Y4 (Ev.load_loc tok 2 (g := g12) (o := 0) rfl rfl rfl rfl) ?_ | refine XL.store tok 7 (g := g4) (o := 0) (cs := [.int .i64 0, .int .i64 0]) rfl rfl rfl rfl (.inr rfl) rfl rfl rfl ?_ | refine XL.store_at tok 6 (g := g5) (o := 0) (j := 0) (cs := [.slice none 0 0]) rfl rfl rfl rfl rfl (Nat.le_of_ble_eq_true rfl) rfl ?_) | (refine M1 ?_; refine SC ?_) | (refine M2 ?_; refine SE ?_))
      refine XE.retM (i := 1) tok Try.results27 rfl rfl rfl (by simp only [and_self, and_true]) (fun w' S => ?_)
      obtain ⟨d1, d2, d3⟩ := bst_none hc hcl hbst
      exact bstZ d1 d2 d3 (hBW.trans S.toBelow)
    · obtain ⟨d1, d2, d3⟩ := bst_some hc hcl hbst
      simp only [bstQ, bstC, gamO, gamC, rulO, rulC, svV]
      repeat (first | (refine M0 ?_; first | refine SL ?_ | refine SB fun _ _ => ?_ | refine Y4 (Ev.load_loc tok 2 (g := g12) (o := 0) rfl rfl rfl rfl) ?_) | (refine M1 ?_; refine SC ?_) | (refine M2 ?_; refine SE ?_))
      refine XC.drawRS (trunc w w.heap.size) [] [] [0, 1, 2, 3, 4] mixed (fun _ h => Sys.anchorT hBW h (fun e he => by cases he) (by simp) hle) rfl (by kernel_rfl) ?_
      repeat (any_goals (first | (refine M0 ?_; first | refine SL ?_ | refine SB fun _ _ => ?_ | refine Y4 (Ev.load_loc_agg tok 7 (g := g4) (o := 0) rfl rfl rfl rfl) ?_ | refine Y4 (Ev.load_loc tok 6 (g := g5) (o := 0) rfl rfl rfl rfl) ?_ | refine XL.store tok 7 (g := g4) (o := 0) (cs := [.int .i64 (t.plan (i0 : Nat)).close, .int .i64 (t.plan (i0 : Nat)).open_]) rfl rfl rfl rfl (.inr rfl) rfl rfl rfl ?_ | refine XL.store_at tok 6 (g := g5) (o := 0) (j := 0) (cs := [.slice q0.A q0.n q0.c]) rfl rfl rfl rfl rfl (Nat.le_of_ble_eq_true rfl) rfl ?_) | (refine M1 ?_; refine SC ?_) | (refine M2 ?_; first | refine SE ?_ | ((with_reducible refine atHeld ?_); refine z7 ?_)) | (refine M3 ?_; first | refine SG ?_ | refine SF ?_ | refine YF (Ev.load_loc_agg tok 7 (g := g4) (o := 0) rfl rfl rfl rfl) ?_ | refine YF (Ev.load_loc tok 6 (g := g5) (o := 0) rfl rfl rfl rfl) ?_) | (refine M4 ?_; refine SR ?_) | (refine M5 ?_; first | exact M7 | refine YM ?_ | refine YN ?_ ?_)))
      any_goals (repeat (first | exact AnyR.nil | refine AnyR.skip rfl ?_))
      all_goals
        repeat (first | (refine M0 ?_; first | refine SL ?_ | refine SB fun _ _ => ?_) | (refine M1 ?_; refine SC ?_) | (refine M2 ?_; refine SE ?_))
        refine XE.retM (i := 1) tok Try.results27 rfl rfl rfl (by simp only [and_self, and_true]) (fun w' S => ?_)
        refine ⟨_, _, rfl, ⟨q0, by rw [d1, d2]; rfl, rfl⟩, fun x hx => ?_, hBW.trans S.toBelow⟩
        rw [d3, List.mem_singleton] at hx
        subst hx
        exact (hF.sys S ZZMK).get (.head _)
end Go.Proofs.Ytmpaiphakjogjaa.X
/-
  The law ClosureOpens.
-/
namespace Go.Proofs.Ytmpaiphakjogjaa.Bs
open Go Go.Proofs.Ytmpaiphakjogjaa.X
set_option linter.unusedVariables false
end Go.Proofs.Ytmpaiphakjogjaa.Bs
namespace Go.Proofs.Ytmpaiphakjogjaa.X
open Go Go.RowKit Go.Proofs.Ytmpaiphakjogjaa.Bs
set_option linter.unusedVariables false
end Go.Proofs.Ytmpaiphakjogjaa.X
/-
  The walks of whole, Long and levels of the statements (closure).
-/
namespace Go.Proofs.Ytmpaiphakjogjaa.Bs
open Go Go.Proofs.Ytmpaiphakjogjaa.X
set_option linter.unusedVariables false
def CTk.wholeB (t : CTk) : Bool := decide (0 < t.m) && (List.range t.m).all fun k => decide ((t.h k).vals.length = t.river.length) && decide ((t.h k).from_ = t.from_)
def CTk.longB (t : CTk) : Bool := (decide (12 < t.river.length) && decide (t.river.length ≤ 60)) || (decide (4 < t.m) && decide (t.m ≤ 8))
theorem whole_t {t : CTk} (h : t.wholeB = true) : 0 < t.m ∧ ∀ k, k < t.m → (t.h k).vals.length = t.river.length ∧ (t.h k).from_ = t.from_ := by
  unfold CTk.wholeB at h
  rw [Bool.and_eq_true, decide_eq_true_eq, List.all_eq_true] at h
  exact ⟨h.1, fun k hk => by have := h.2 k (List.mem_range.2 hk); rw [Bool.and_eq_true, decide_eq_true_eq, decide_eq_true_eq] at this; exact this⟩
end Go.Proofs.Ytmpaiphakjogjaa.Bs
namespace Go.Proofs.Ytmpaiphakjogjaa.X
open Go Go.RowKit Go.Proofs.Ytmpaiphakjogjaa.Bs
set_option linter.unusedVariables false
set_option maxHeartbeats 8000000 in
theorem whole5_any {v : CTV} {t : CTk} {w : World} (hT : CtAt w w.heap.size v t) :
    Calls Try.prog 19 #[ctkV v t] w fun e w' => e = .returned (.bool t.wholeB) ∧ Below w.heap.size w w' := by
  have hhn := hT.hn
  have hhm := hT.hmax
  have hhis := fun k hk => hT.hisAt (k := k) hk
  have hrn := hT.river.len
  have hrm := hT.river.max
  obtain ⟨vp, vf, ⟨Ah, nh, ch⟩, ⟨Ar, nr, cr⟩⟩ := v
  simp only at hhn hrn hhis hhm hrm
  subst hhn hrn
  simp only [ctkV, ctkC]
  refine enter Try.func19 rfl Try.ntmps19 rfl ?_; simp only [frame, Nat.zero_add, Nat.reduceAdd]
  repeat (first | (refine M0 ?_; first | refine SL ?_ | refine SB fun _ _ => ?_) | (refine M1 ?_; refine SC ?_) | (refine M2 ?_; refine SE ?_))
  rename_i g1 hg1
  refine XC.loopk [1] rfl (fun k : Nat => [(3, .int .i64 (k : Nat))]) (fun _ => [(g1, cel 29 (ctkC ⟨vp, vf, ⟨Ah, t.m, ch⟩, ⟨Ar, t.river.length, cr⟩⟩ t))]) (fun _ => w) (fun k => k ≤ t.m ∧ ∀ j, j < k → (t.h j).vals.length = t.river.length ∧ (t.h j).from_ = t.from_) (fun k => t.m - k) 0 ⟨Nat.zero_le _, fun j h => absurd h (by omega)⟩ ZZSUB (fun _ h => h) ?_
  rintro k ⟨hk, h0⟩
  simp only [ctkC]
  dsimp only [List.cons_append, List.nil_append]
  repeat (first | (refine M0 ?_; first | refine SL ?_ | refine SB fun _ _ => ?_) | (refine M1 ?_; refine SC ?_) | (refine M2 ?_; refine SE ?_))
  refine XC.cond _ rfl (fun h2 => ?_) (fun h2 => ?_)
  rotate_left
  · have hkn : k = t.m := by have := of_decide_eq_false h2; omega
    subst hkn
    repeat (first | (refine M0 ?_; first | refine SL ?_ | refine SB fun _ _ => ?_) | (refine M1 ?_; refine SC ?_) | (refine M2 ?_; refine SE ?_))
    refine XE.retg tok Try.results19 rfl (by simp only [and_self, and_true]) (fun w' S => ?_)
    refine ⟨?_, S.toBelow⟩
    have e : t.wholeB = decide ((0 : Int) < (t.m : Int)) := by
      unfold CTk.wholeB
      rw [show ((List.range t.m).all fun k => decide ((t.h k).vals.length = t.river.length) && decide ((t.h k).from_ = t.from_)) = true from List.all_eq_true.2 fun k hk => by
        obtain ⟨a, b⟩ := h0 k (List.mem_range.1 hk)
        rw [decide_eq_true a, decide_eq_true b]; rfl, Bool.and_true]
      by_cases h : 0 < t.m
      · rw [decide_eq_true h, decide_eq_true (by omega)]
      · rw [decide_eq_false h, decide_eq_false (by omega)]
    rw [e]; rfl
  have hkn : k < t.m := by have := of_decide_eq_true h2; omega
  obtain ⟨ad, q, e1, hlt, hc, hq⟩ := hhis k hkn
  obtain ⟨ad', q0, e1', hlt', hc', hq0⟩ := hhis 0 (by omega)
  obtain rfl := e1
  obtain rfl : ad = ad' := Option.some.inj e1'
  have hql := hq.len
  have hqm := hq.max
  have c0 := hc 0 _ rfl
  have c1 := hc 1 _ rfl
  have d0 := hc' 0 _ rfl
  obtain ⟨qA, qn, qc⟩ := q
  simp only at hql hqm
  subst hql
  simp only [svV] at c1
  have hno : ∀ j, j < t.m → ¬((t.h j).vals.length = t.river.length ∧ (t.h j).from_ = t.from_) → t.wholeB = false := fun j hj hn => by
    cases hw : t.wholeB with
    | false => rfl
    | true => exact absurd ((whole_t hw).2 j hj) hn
  have hadd : ∀ j, (ad.add j).block < w.heap.size := fun j => add_lt hlt
  repeat (any_goals (first | (refine M0 ?_; first | refine SL ?_ | refine SB fun _ _ => ?_ | (refine XL.split _ _ rfl (fun h => ?_) (fun h => ?_) <;> rw [h]) | refine Y4 (Ev.load_old tok rfl rfl (add_lt2 hlt) c1) ?_ | refine Y4 (Ev.load_old tok rfl rfl (add_lt2 hlt) c0) ?_ | refine Y4 (Ev.load_old tok rfl rfl (add_lt2 hlt) d0) ?_) | (refine M1 ?_; first | refine SC ?_ | refine SD ?_ | refine XC.cond _ rfl (fun h => ?_) (fun h => ?_)) | (refine M2 ?_; refine SE ?_) | (refine M3 ?_; first | refine SG ?_ | refine SF ?_ | (refine Fw.split _ _ rfl (fun h => ?_) (fun h => ?_) <;> rw [h]) | refine YF (Ev.load_old tok rfl rfl (add_lt2 hlt) c1) ?_ | refine YF (Ev.load_old tok rfl rfl (add_lt2 hlt) c0) ?_ | refine YF (Ev.load_old tok rfl rfl (add_lt2 hlt) d0) ?_) | (refine M4 ?_; refine SR ?_) | (refine M5 ?_; first | exact M7 | refine YM ?_ | refine YN ?_ ?_)))
  · have hl : (t.h k).vals.length ≠ t.river.length := by have := of_decide_eq_true h; omega
    refine XE.retg tok Try.results19 rfl (by simp only [and_self, and_true]) (fun w' S => ?_)
    rw [hno k hkn (fun h => hl h.1)]
    exact ⟨rfl, S.toBelow⟩
  · have hl : (t.h k).from_ ≠ (t.h 0).from_ := of_decide_eq_true h
    refine XE.retg tok Try.results19 rfl (by simp only [and_self, and_true]) (fun w' S => ?_)
    rw [hno k hkn (fun h => hl h.2)]
    exact ⟨rfl, S.toBelow⟩
  · rename_i h5
    have e5 : (t.h k).vals.length = t.river.length := by have := of_decide_eq_false h5; omega
    have e6 : (t.h k).from_ = t.from_ := Decidable.byContradiction fun hn => of_decide_eq_false h hn
    refine XE.round (s := k) (k + 1) ⟨hkn, fun j hj => ?_⟩ (by omega) ZZSUB (fun _ h => h)
    rcases Nat.lt_or_ge j k with h6 | h6
    · exact h0 j h6
    · have : j = k := by omega
      subst this
      exact ⟨e5, e6⟩
end Go.Proofs.Ytmpaiphakjogjaa.X
/-
  The walk of lower of the statements (closure).
-/
namespace Go.Proofs.Ytmpaiphakjogjaa.Bs
open Go Go.Proofs.Ytmpaiphakjogjaa.X
set_option linter.unusedVariables false
def lowV (bs : List Int) (v : Int) (i : Nat) : Int := if 0 < bs.length then max (-20000) (v - at0 bs (i % bs.length)) else v
def lowTo (l bs : List Int) (n : Nat) : List Int := (List.range n).map fun i => lowV bs (at0 l i) i
end Go.Proofs.Ytmpaiphakjogjaa.Bs
namespace Go.Proofs.Ytmpaiphakjogjaa.X
open Go Go.RowKit Go.Proofs.Ytmpaiphakjogjaa.Bs
set_option linter.unusedVariables false
def u16K5 : Kind Int := ⟨43, 1, fun k => [.int .u16 k], fun _ => [], fun _ => rfl⟩
def LowR (h : His) (bs : List Int) (x : Value) (new : List Held) : Prop := ∃ q : SV, x = .agg ⟨[.int .i64 h.from_, svV q]⟩ ∧ new = [hInts q (lowTo h.vals bs h.vals.length)]
end Go.Proofs.Ytmpaiphakjogjaa.X
/-
  The law ClosureSafe.
-/
namespace Go.Proofs.Ytmpaiphakjogjaa.X
open Go Go.RowKit Go.Proofs.Ytmpaiphakjogjaa.Bs
set_option linter.unusedVariables false
def hisK0 : Kind (SV × His) := ⟨65, 2, fun e => hisC e.1 e.2, fun _ => [], fun _ => rfl⟩
end Go.Proofs.Ytmpaiphakjogjaa.X
/-
  The walk of Long; the law ClosureLess.
-/
namespace Go.Proofs.Ytmpaiphakjogjaa.Bs
open Go Go.Proofs.Ytmpaiphakjogjaa.X
set_option linter.unusedVariables false
/-- a task without one of its histories. -/
def CTk.wout (t : CTk) (k : Nat) : CTk := { t with his := t.his.take k ++ t.his.drop (k + 1) }
end Go.Proofs.Ytmpaiphakjogjaa.Bs
namespace Go.Proofs.Ytmpaiphakjogjaa.X
open Go Go.RowKit Go.Proofs.Ytmpaiphakjogjaa.Bs
set_option linter.unusedVariables false
theorem Long5_any {v : CTV} {t : CTk} {w : World} (hT : CtAt w w.heap.size v t) :
    Calls Try.prog 18 #[ctkV v t] w fun e w' => e = .returned (.bool t.longB) ∧ Below w.heap.size w w' := by
  have hhn := hT.hn
  have hhm := hT.hmax
  have hrn := hT.river.len
  have hrm := hT.river.max
  obtain ⟨vp, vf, ⟨Ah, nh, ch⟩, ⟨Ar, nr, cr⟩⟩ := v
  simp only at hhn hrn hhm hrm
  subst hhn hrn
  have k1 : decide ((12 : Int) < (t.river.length : Int)) = decide (12 < t.river.length) := by rw [decide_eq_decide]; omega
  have k2 : decide ((t.river.length : Int) ≤ 60) = decide (t.river.length ≤ 60) := by rw [decide_eq_decide]; omega
  have k3 : decide ((4 : Int) < (t.m : Int)) = decide (4 < t.m) := by rw [decide_eq_decide]; omega
  have k4 : decide ((t.m : Int) ≤ 8) = decide (t.m ≤ 8) := by rw [decide_eq_decide]; omega
  simp only [ctkV, ctkC]
  unfold CTk.longB
  refine enter Try.func18 rfl Try.ntmps18 rfl ?_; simp only [frame, Nat.zero_add, Nat.reduceAdd]
  repeat (first | (refine M0 ?_; first | refine SL ?_ | refine SB fun _ _ => ?_) | (refine M1 ?_; refine SC ?_) | (refine M2 ?_; refine SE ?_))
  rw [k1]
  cases decide (12 < t.river.length) with
  | true =>
    repeat (first | (refine M0 ?_; first | refine SL ?_ | refine SB fun _ _ => ?_) | (refine M1 ?_; refine SC ?_) | (refine M2 ?_; refine SE ?_))
    rw [k2]
    cases decide (t.river.length ≤ 60) with
    | true =>
      repeat (first | (refine M0 ?_; first | refine SL ?_ | refine SB fun _ _ => ?_) | (refine M1 ?_; refine SC ?_) | (refine M2 ?_; refine SE ?_))
      refine XE.retg tok Try.results18 rfl (by simp only [and_self, and_true]) (fun w' S => ?_)
      exact ⟨rfl, S.toBelow⟩
    | false =>
      repeat (first | (refine M0 ?_; first | refine SL ?_ | refine SB fun _ _ => ?_) | (refine M1 ?_; refine SC ?_) | (refine M2 ?_; refine SE ?_))
      rw [k3]
      cases decide (4 < t.m) with
      | true =>
        repeat (first | (refine M0 ?_; first | refine SL ?_ | refine SB fun _ _ => ?_) | (refine M1 ?_; refine SC ?_) | (refine M2 ?_; refine SE ?_))
        rw [k4]
        refine XE.retg tok Try.results18 rfl (by simp only [and_self, and_true]) (fun w' S => ?_)
        exact ⟨rfl, S.toBelow⟩
      | false =>
        repeat (first | (refine M0 ?_; first | refine SL ?_ | refine SB fun _ _ => ?_) | (refine M1 ?_; refine SC ?_) | (refine M2 ?_; refine SE ?_))
        refine XE.retg tok Try.results18 rfl (by simp only [and_self, and_true]) (fun w' S => ?_)
        exact ⟨rfl, S.toBelow⟩
  | false =>
    repeat (first | (refine M0 ?_; first | refine SL ?_ | refine SB fun _ _ => ?_) | (refine M1 ?_; refine SC ?_) | (refine M2 ?_; refine SE ?_))
    rw [k3]
    cases decide (4 < t.m) with
    | true =>
      repeat (first | (refine M0 ?_; first | refine SL ?_ | refine SB fun _ _ => ?_) | (refine M1 ?_; refine SC ?_) | (refine M2 ?_; refine SE ?_))
      rw [k4]
      refine XE.retg tok Try.results18 rfl (by simp only [and_self, and_true]) (fun w' S => ?_)
      exact ⟨rfl, S.toBelow⟩
    | false =>
      repeat (first | (refine M0 ?_; first | refine SL ?_ | refine SB fun _ _ => ?_) | (refine M1 ?_; refine SC ?_) | (refine M2 ?_; refine SE ?_))
      refine XE.retg tok Try.results18 rfl (by simp only [and_self, and_true]) (fun w' S => ?_)
      exact ⟨rfl, S.toBelow⟩
end Go.Proofs.Ytmpaiphakjogjaa.X
/-
  The law ClosureLess.
-/
namespace Go.Proofs.Ytmpaiphakjogjaa.X
open Go Go.RowKit Go.Proofs.Ytmpaiphakjogjaa.Bs
set_option linter.unusedVariables false
end Go.Proofs.Ytmpaiphakjogjaa.X
/-
  The law ClosureBest.
-/
namespace Go.Proofs.Ytmpaiphakjogjaa.Bs
open Go Go.Proofs.Ytmpaiphakjogjaa.X
set_option linter.unusedVariables false
theorem best_dec {t : CTk} {r : CRu} (h : t.decE r = 0) : t.bstE r = 0 ∧ t.bstP r = (t.decD r).plan ∧ (0 ≤ (t.decD r).plan.close → t.bstN r = []) := by
  obtain ⟨h0, h1⟩ := decE_0 h
  obtain ⟨hc, ho, _⟩ := ruE_0 h0
  rcases h1 with ⟨h2, e⟩ | ⟨h2, i, h3, h4, e⟩
  · obtain ⟨d1, d2, d3⟩ := bst_0 h0 h2
    rw [e]
    exact ⟨d1, d2, fun h => absurd (show (0 : Int) ≤ -1 from h) (by decide)⟩
  · obtain ⟨a1, a2⟩ := bst_dec (r := r) ho.dly.1 h3 h4
    obtain ⟨d1, d2, d3⟩ := bst_some h0 h2 a1
    rw [e]
    exact ⟨d1, d2, fun _ => by rw [d3, a2]; rfl⟩
theorem bstE_ru {t : CTk} {r : CRu} (h : t.bstE r = 0) : ruE t r = 0 := by
  refine Classical.byContradiction fun hn => ?_
  rw [(bst_ru hn).1] at h
  exact hn h
theorem count_not {l : List Nat} {f g : Nat → Bool} (h : ∀ x, f x = !g x) : ((l.map f).filter id).length + (l.filter g).length = l.length := by
  induction l with
  | nil => rfl
  | cons a l ih =>
    rw [List.map_cons, List.filter_cons, List.filter_cons, h a]
    cases g a with
    | true => rw [if_neg (by simp), if_pos rfl, List.length_cons, List.length_cons]; omega
    | false => rw [if_neg (by simp : ¬ (false = true)), if_pos (by rfl : id (!false) = true), List.length_cons, List.length_cons]; omega
/-- WHAT BEST'S PLAN IS, where the rules allow a tick. -/
theorem best_all {t : CTk} {r : CRu} {tick : Int} (h : t.bstE r = 0) (ha : t.alwB r tick = true) :
    CtOk t ∧ ctE t = 0 ∧ t.plnE tick = 0 ∧ t.hldE (t.plnP tick) = 0 ∧ t.hldE (t.bstP r) = 0 ∧ 0 ≤ (t.bstP r).close ∧
    ((t.hldL (t.plnP tick)).filter id).length + (t.bstN r).length ≤ t.m ∧ ∀ x, x ∈ t.bstN r → ∃ k : Nat, x = (k : Nat) ∧ k < t.m ∧ t.holds k (t.bstP r) = false := by
  have h0 := bstE_ru h
  obtain ⟨hc, ho, _⟩ := ruE_0 h0
  unfold CTk.alwB at ha
  rw [if_neg (by simp [h0])] at ha
  unfold CTk.allowed at ha
  simp only [Bool.and_eq_true, Bool.not_eq_true'] at ha
  obtain ⟨ha1, ha2⟩ := ha
  have ha1 := outB_f.1 ha1
  obtain ⟨c1, c2, c3, c4⟩ := may_in ha2
  obtain ⟨j, hj⟩ : ∃ j : Nat, tick - t.from_ = (j : Nat) := ⟨(tick - t.from_).toNat, by omega⟩
  rw [hj] at ha2 c3 c4
  have hjn : j < t.n := by omega
  cases hb : t.bst r with
  | none =>
    rw [(bst_none h0 c1 hb).1] at h; cases h
  | some i =>
    obtain ⟨d1, d2, d3⟩ := bst_some h0 c1 hb
    obtain ⟨b1, b2, b3⟩ := (bstTo_spec (t := t) (r := r) t.n).2 i hb
    have hi := (may_in b2).2.2.1
    have hle := (b3 j hjn ha2).1
    have e1 : t.plnE tick = 0 := by
      unfold CTk.plnE
      rw [if_neg (by simp [hc]), if_neg (by rw [outB_f.2 (by omega)]; decide)]
    have e2 : t.plnP tick = t.plan (j : Nat) := by unfold CTk.plnP; rw [if_neg (by simp [e1]), hj]
    have s1 : t.strange (t.plan (j : Nat)) = false := (plan_ok ho (Int.natCast_nonneg j) c3).1
    have s2 : t.strange (t.plan (i : Nat)) = false := (plan_ok ho (Int.natCast_nonneg i) hi).1
    have e3 := hld_of ho s1
    have e4 := hld_of ho s2
    have hN : ∀ k (p : CPl), t.holds k p = !(t.fails k p).isSome := fun k p => by
      unfold CTk.holds
      cases t.fails k p <;> rfl
    rw [e2, d2, d3]
    refine ⟨ho, hc, e1, e3, e4, by have := ho.frm; show 0 ≤ t.from_ + (i : Int); omega, ?_, fun x hx => ?_⟩
    · rw [(hld_0 e3).2.2.2, List.length_map]
      have := count_not (l := List.range t.m) (f := fun k => t.holds k (t.plan (j : Nat))) (g := fun k => (t.fails k (t.plan (j : Nat))).isSome) (fun k => hN k _)
      rw [List.length_range] at this
      have e5 : ((t.holdL (t.plan (j : Nat))).filter id).length + (t.notL (j : Nat)).length = t.m := this
      omega
    · obtain ⟨k, hk, rfl⟩ := List.mem_map.1 hx
      unfold CTk.notL at hk
      obtain ⟨hk1, hk2⟩ := List.mem_filter.1 hk
      exact ⟨k, rfl, List.mem_range.1 hk1, by rw [hN, hk2]; rfl⟩
end Go.Proofs.Ytmpaiphakjogjaa.Bs
namespace Go.Proofs.Ytmpaiphakjogjaa.X
open Go Go.RowKit Go.Proofs.Ytmpaiphakjogjaa.Bs
set_option linter.unusedVariables false
set_option maxHeartbeats 16000000 in
theorem ClosureBest_any {v : CTV} {t : CTk} {r : CRu} {i : Int} {w : World} (hT : CtAt w w.heap.size v t) :
    Calls Try.prog 7 #[ctkV v t, ruV r, .int .i64 i] w fun e w' => e = .returned (.bool true) ∧ Below w.heap.size w w' := by
  have haw := fun {L : Lo} {W : World} (w5 : World) (S5 : Sys w.heap.size W L w5) => Awake5_any (w := w5)
  have hlo := fun (w5 : World) (hB : Below w.heap.size w w5) => Long5_any (hT.sys (Sys.ofBelow hB))
  have hwh := fun (w5 : World) (hB : Below w.heap.size w w5) => whole5_any (hT.sys (Sys.ofBelow hB))
  simp only [ctkV, ctkC, ruV] at hlo hwh ⊢
  refine enter Try.func7 rfl Try.ntmps7 rfl ?_; simp only [frame, Nat.zero_add, Nat.reduceAdd]
  repeat (first | (refine M0 ?_; first | refine SL ?_ | refine SB fun _ _ => ?_ | refine Y4 (Ev.call (f := 18) (ck rfl) rfl (fun w5 S5 => hlo w5 S5.toBelow)) ?_) | (refine M1 ?_; refine SC ?_) | (refine M2 ?_; refine SE ?_))
  rename_i g3 hg3 g4 hg4
  cases hlg : t.longB with
  | true =>
    repeat (first | (refine M0 ?_; first | refine SL ?_ | refine SB fun _ _ => ?_ | refine Y4 (Ev.call (f := 17) (ck rfl) rfl (fun w5 S5 => haw w5 S5)) ?_) | (refine M1 ?_; refine SC ?_) | (refine M2 ?_; refine SE ?_))
    refine XE.retg tok Try.results7 rfl (by simp only [and_self, and_true]) (fun w' S => ?_)
    exact ⟨rfl, S.toBelow⟩
  | false =>
  repeat (first | (refine M0 ?_; first | refine SL ?_ | refine SB fun _ _ => ?_ | refine Y4 (Ev.call (f := 19) (ck rfl) rfl (fun w5 S5 => hwh w5 S5.toBelow)) ?_) | (refine M1 ?_; refine SC ?_) | (refine M2 ?_; refine SE ?_))
  cases hwb : t.wholeB with
  | false =>
    repeat (first | (refine M0 ?_; first | refine SL ?_ | refine SB fun _ _ => ?_ | refine Y4 (Ev.call (f := 17) (ck rfl) rfl (fun w5 S5 => haw w5 S5)) ?_) | (refine M1 ?_; refine SC ?_) | (refine M2 ?_; refine SE ?_))
    refine XE.retg tok Try.results7 rfl (by simp only [and_self, and_true]) (fun w' S => ?_)
    exact ⟨rfl, S.toBelow⟩
  | true =>
  repeat (first | (refine M0 ?_; first | refine SL ?_ | refine SB fun _ _ => ?_) | (refine M1 ?_; refine SC ?_) | (refine M2 ?_; refine SE ?_))
  refine XL.callF (ks := []) (rs := []) (hs := []) (b0 := w.heap.size) (wE := w) (BstR t r) (ck rfl) rfl rfl (Fam.start (Nat.le_refl w.heap.size)) (fun _ h => by cases h) (Below.refl w.heap.size w) (fun w1 S1 _ hB1 => Best_made (v := v) (r := r) (hT.sys (Sys.ofBelow hB1))) (fun w1 x new hR hF1 hB1 hk1 => ?_) ZZHL
  obtain ⟨⟨q1A, q1n, q1c⟩, rfl, rfl⟩ := hR
  have hq1 : q1n = (t.bstN r).length := (hF1.held (hList intK5 ⟨q1A, q1n, q1c⟩ (t.bstN r)) (.head _)).len (by decide)
  simp only [plnV, svV]
  repeat (first | (refine M0 ?_; first | refine SL ?_ | refine SB fun _ _ => ?_) | (refine M1 ?_; refine SC ?_) | (refine M2 ?_; refine SE ?_))
  rename_i g7 hg7
  refine XL.callF (wE := w) (DecR t r) (ck rfl) rfl rfl hF1 hk1 hB1 (fun w5 S5 _ hB5 => Decide_made (v := v) (r := r) (hT.sys (Sys.ofBelow hB5))) (fun w2 x new hR hF2 hB2 hk2 => ?_) ZZHL
  obtain ⟨q2, q3, rfl, rfl⟩ := hR
  simp only [decV, decC, svV]
  repeat (first | (refine M0 ?_; first | refine SL ?_ | refine SB fun _ _ => ?_) | (refine M2 ?_; refine SE ?_) | (refine M3 ?_; first | refine SG ?_ | refine SF ?_) | (refine M4 ?_; refine SR ?_) | (refine M5 ?_; first | exact M7 | refine YM ?_ | refine YN ?_ ?_))
  rename_i g10 hg10
  refine XC.seq ?_
  have hkz : ∀ {z z9 : World} {B : Nat} {L : Lo}, Sys B z L z9 → g10 ∈ L.map (·.1) → g7 ∈ L.map (·.1) → g4 ∈ L.map (·.1) → g3 ∈ L.map (·.1) → ∀ x, x ∈ [g10, g7, g4, g3] → x < z9.heap.size := fun S9 m1 m2 m3 m4 x hx => by
    simp only [List.mem_cons, List.not_mem_nil, or_false] at hx
    rcases hx with rfl | rfl | rfl | rfl
    · exact S9.keyLt _ m1
    · exact S9.keyLt _ m2
    · exact S9.keyLt _ m3
    · exact S9.keyLt _ m4
  refine XC.cutn [2, 3, 4, 7, 8, 9] rfl (fun z : World => []) (fun _ => [(g10, cel 49 [.int .i64 (t.decD r).plan.close, .int .i64 (t.decD r).plan.open_, .slice q2.A q2.n q2.c, .slice q3.A q3.n q3.c]), (g7, cel 36 [.int .i64 (t.bstP r).close, .int .i64 (t.bstP r).open_]), (g4, cel 42 [.int .i64 r.count, .int .i64 r.early]), (g3, cel 29 (ctkC v t))]) (fun z => z) (fun z => Below w.heap.size w z ∧ Fam z w.heap.size [g10, g7, g4, g3] [] [hList intK5 ⟨q1A, q1n, q1c⟩ (t.bstN r)] ∧ ∀ x, x ∈ [g10, g7, g4, g3] → x < z.heap.size) ?_ ?_
  · have hF2 : Fam w2 w.heap.size [g10, g7, g4, g3] [] [hList intK5 ⟨q1A, q1n, q1c⟩ (t.bstN r)] := (hF2.forget (hs' := [hList intK5 ⟨q1A, q1n, q1c⟩ (t.bstN r)]) (fun x hx => by rw [List.mem_singleton] at hx; subst hx; simp)).add (fun k hk => by
      simp only [List.mem_cons, List.not_mem_nil, or_false] at hk
      rcases hk with rfl | rfl | rfl | rfl
      · exact .inr hg10
      · left; simp
      · left; simp
      · left; simp)
    repeat (first | (refine M0 ?_; first | refine SL ?_ | refine SB fun _ _ => ?_) | (refine M1 ?_; refine SC ?_) | (refine M2 ?_; refine SE ?_))
    by_cases hE : t.decE r = 0
    rotate_left
    · rw [show decide (t.decE r = 0) = false from decide_eq_false hE]
      repeat (first | (refine M0 ?_; first | refine SL ?_ | refine SB fun _ _ => ?_) | (refine M1 ?_; refine SC ?_) | (refine M2 ?_; refine SE ?_))
      exact XE.leafW (fun z9 S9 => ⟨z9, ⟨hB2.trans S9.toBelow, hF2.sys S9 ZZHL, hkz S9 (by simp) (by simp) (by simp) (by simp)⟩, ZZSUB, S9.rebase ZZSM⟩)
    obtain ⟨b1, b2, b3⟩ := best_dec hE
    rw [show decide (t.decE r = 0) = true from decide_eq_true hE]
    repeat (first | (refine M0 ?_; first | refine SL ?_ | refine SB fun _ _ => ?_) | (refine M1 ?_; refine SC ?_) | (refine M2 ?_; refine SE ?_))
    rw [show decide (t.bstE r ≠ 0) = false from decide_eq_false (fun h => h b1)]
    rw [b2]
    repeat (first | (refine M0 ?_; first | refine SL ?_ | refine SB fun _ _ => ?_ | refine Y4 (Ev.plnNeq rfl rfl) ?_) | (refine M1 ?_; refine SC ?_) | (refine M2 ?_; refine SE ?_))
    rw [show (!(decide ((t.decD r).plan.close = (t.decD r).plan.close) && decide ((t.decD r).plan.open_ = (t.decD r).plan.open_))) = false from by simp]
    repeat (first | (refine M0 ?_; first | refine SL ?_ | refine SB fun _ _ => ?_) | (refine M1 ?_; refine SC ?_) | (refine M2 ?_; refine SE ?_))
    by_cases hcl : 0 ≤ (t.decD r).plan.close
    rotate_left
    · rw [show decide (0 ≤ (t.decD r).plan.close) = false from decide_eq_false hcl]
      repeat (first | (refine M0 ?_; first | refine SL ?_ | refine SB fun _ _ => ?_) | (refine M1 ?_; refine SC ?_) | (refine M2 ?_; refine SE ?_))
      exact XE.leafW (fun z9 S9 => ⟨z9, ⟨hB2.trans S9.toBelow, hF2.sys S9 ZZHL, hkz S9 (by simp) (by simp) (by simp) (by simp)⟩, ZZSUB, S9.rebase ZZSM⟩)
    rw [b3 hcl] at hq1
    simp only [List.length_nil] at hq1
    subst hq1
    rw [show decide (0 ≤ (t.decD r).plan.close) = true from decide_eq_true hcl]
    repeat (first | (refine M0 ?_; first | refine SL ?_ | refine SB fun _ _ => ?_) | (refine M1 ?_; refine SC ?_) | (refine M2 ?_; refine SE ?_))
    exact XE.leafW (fun z9 S9 => ⟨z9, ⟨hB2.trans S9.toBelow, hF2.sys S9 ZZHL, hkz S9 (by simp) (by simp) (by simp) (by simp)⟩, ZZSUB, S9.rebase ZZSM⟩)
  rintro z ⟨hBz, hFz, hkz2⟩
  simp only [ctkC]
  dsimp only [List.cons_append, List.nil_append]
  have hal := fun (w5 : World) (hB : Below w.heap.size w w5) => Allowed_any (r := r) (i := i) (hT.sys (Sys.ofBelow hB))
  simp only [ctkV, ctkC, ruV] at hal
  repeat (first | (refine M0 ?_; first | refine SL ?_ | refine SB fun _ _ => ?_ | refine Y4 (Ev.call (f := 21) (ck rfl) rfl (fun w5 S5 => hal w5 (hBz.trans S5.toBelow))) ?_) | (refine M1 ?_; refine SC ?_) | (refine M2 ?_; refine SE ?_))
  by_cases hE : t.bstE r = 0
  rotate_left
  · rw [show decide (t.bstE r ≠ 0) = true from decide_eq_true hE]
    repeat (first | (refine M0 ?_; first | refine SL ?_ | refine SB fun _ _ => ?_) | (refine M1 ?_; refine SC ?_) | (refine M2 ?_; refine SE ?_))
    rw [show decide (t.bstE r ≠ 0) = true from decide_eq_true hE]
    repeat (first | (refine M0 ?_; first | refine SL ?_ | refine SB fun _ _ => ?_ | refine Y4 (Ev.call (f := 17) (ck rfl) rfl (fun w5 S5 => haw w5 S5)) ?_) | (refine M1 ?_; refine SC ?_) | (refine M2 ?_; refine SE ?_))
    refine XE.retg tok Try.results7 rfl (by simp only [and_self, and_true]) (fun w' S => ?_)
    exact ⟨rfl, hBz.trans S.toBelow⟩
  have hru := bstE_ru hE
  rw [show decide (t.bstE r ≠ 0) = false from decide_eq_false (fun h => h hE)]
  repeat (first | (refine M0 ?_; first | refine SL ?_ | refine SB fun _ _ => ?_) | (refine M1 ?_; refine SC ?_) | (refine M2 ?_; refine SE ?_))
  rw [show decide (ruE t r ≠ 0) = false from decide_eq_false (fun h => h hru)]
  cases hb : t.alwB r i with
  | false =>
    repeat (first | (refine M0 ?_; first | refine SL ?_ | refine SB fun _ _ => ?_) | (refine M1 ?_; refine SC ?_) | (refine M2 ?_; refine SE ?_))
    rw [show decide (t.bstE r ≠ 0) = false from decide_eq_false (fun h => h hE)]
    repeat (first | (refine M0 ?_; first | refine SL ?_ | refine SB fun _ _ => ?_) | (refine M1 ?_; refine SC ?_) | (refine M2 ?_; refine SE ?_))
    rw [show decide (ruE t r = 0) = true from decide_eq_true hru]
    repeat (first | (refine M0 ?_; first | refine SL ?_ | refine SB fun _ _ => ?_ | refine Y4 (Ev.call (f := 17) (ck rfl) rfl (fun w5 S5 => haw w5 S5)) ?_) | (refine M1 ?_; refine SC ?_) | (refine M2 ?_; refine SE ?_))
    refine XE.retg tok Try.results7 rfl (by simp only [and_self, and_true]) (fun w' S => ?_)
    exact ⟨rfl, hBz.trans S.toBelow⟩
  | true =>
  obtain ⟨ho, hc, e1, e2, e3, e4, e5, e6⟩ := best_all hE hb
  have hm8 := ho.m8
  obtain ⟨qq, hqq⟩ : ∃ qq, qq = t.plnP i := ⟨_, rfl⟩
  have hplan := fun (w5 : World) (hT5 : CtAt w5 w5.heap.size v t) => Plan_any (i := i) hT5
  simp only [ctkV, ctkC] at hplan
  rw [← hqq] at e2 e5 hplan
  rw [e1] at hplan
  simp only [plnV] at hplan
  repeat (first | (refine M0 ?_; first | refine SL ?_ | refine SB fun _ _ => ?_ | refine Y4 (Ev.call (f := 15) (ck rfl) rfl (fun w5 S5 => hplan w5 (hT.sys (Sys.ofBelow (hBz.trans S5.toBelow))))) ?_) | (refine M1 ?_; refine SC ?_) | (refine M2 ?_; refine SE ?_))
  rename_i g14 hg14
  refine XL.callF (wE := w) (HldR t qq) (ck rfl) rfl rfl hFz hkz2 hBz (fun w5 S5 _ hB5 => Holds_made (v := v) (p := qq) (hT.sys (Sys.ofBelow hB5))) (fun w3 x new hR hF3 hB3 hk3 => ?_) ZZHL
  obtain ⟨⟨q4A, q4n, q4c⟩, rfl, rfl⟩ := hR
  obtain ⟨-, -, -, f1⟩ := hld_0 e2
  have n1 : (t.hldL qq).length = t.m := by rw [f1]; unfold CTk.holdL; rw [List.length_map, List.length_range]
  have hL4 : ListAt boolK5 w3 (Free w3 w.heap.size _ []) ⟨q4A, q4n, q4c⟩ (t.hldL qq) := hF3.held (hList boolK5 ⟨q4A, q4n, q4c⟩ (t.hldL qq)) (.head _)
  have hq4 := hL4.len (by decide)
  simp only [n1] at hq4
  subst hq4
  rw [e2]
  simp only [svV]
  repeat (first | (refine M0 ?_; first | refine SL ?_ | refine SB fun _ _ => ?_) | (refine M1 ?_; refine SC ?_) | (refine M2 ?_; refine SE ?_))
  refine XC.loopk [3, 7, 8, 9, 13, 15] rfl (fun z : Nat × Nat => [(16, .int .i64 (z.2 : Nat)), (17, .int .i64 (z.1 : Nat))]) (fun _ => [(g14, cel 36 [.int .i64 qq.close, .int .i64 qq.open_]), (g10, cel 49 [.int .i64 (t.decD r).plan.close, .int .i64 (t.decD r).plan.open_, .slice q2.A q2.n q2.c, .slice q3.A q3.n q3.c]), (g7, cel 36 [.int .i64 (t.bstP r).close, .int .i64 (t.bstP r).open_]), (g4, cel 42 [.int .i64 r.count, .int .i64 r.early]), (g3, cel 29 (ctkC v t))]) (fun _ => w3) (fun z => z.1 ≤ t.m ∧ z.2 = (((t.hldL qq).take z.1).filter id).length) (fun z => t.m - z.1) (0, 0) ⟨Nat.zero_le _, rfl⟩ ZZSUB (fun _ h => h) ?_
  rintro ⟨k, c⟩ ⟨hk, hcn⟩
  simp only at hk hcn
  have hck : c ≤ k := by rw [hcn]; exact Nat.le_trans (List.length_filter_le _ _) (by rw [List.length_take]; omega)
  simp only [ctkC]
  dsimp only [List.cons_append, List.nil_append]
  repeat (first | (refine M0 ?_; first | refine SL ?_ | refine SB fun _ _ => ?_) | (refine M1 ?_; refine SC ?_) | (refine M2 ?_; refine SE ?_))
  refine XC.cond _ rfl (fun h1 => ?_) (fun h1 => ?_)
  · have hkm : k < t.m := by have := of_decide_eq_true h1; omega
    obtain ⟨ad4, rfl, hf4⟩ := hL4.addr (by decide) (by omega)
    have ca := hL4.elem (show (t.hldL qq)[k]? = some (t.holds k qq) from by rw [f1]; exact holdL_at hkm) 0 (.bool (t.holds k qq)) rfl
    rw [add_add, Nat.add_zero] at ca
    have ca : w3.cell? (ad4.add (k * 1)) = some (.bool (t.holds k qq)) := ca
    have la : (ad4.add (k * 1)).block < w3.heap.size := by rw [add_block]; exact hf4.2.1
    have hstep : (t.hldL qq).take (k + 1) = (t.hldL qq).take k ++ [t.holds k qq] := by
      have hkl : k < (t.hldL qq).length := by omega
      rw [List.take_succ_eq_append_getElem hkl]
      congr 2
      have := holdL_at (t := t) (p := qq) hkm
      rw [← f1, List.getElem?_eq_getElem hkl] at this
      exact Option.some.inj this
    cases hh : t.holds k qq with
    | false =>
      rw [hh] at ca hstep
      repeat (first | (refine M0 ?_; first | refine SL ?_ | refine SB fun _ _ => ?_ | refine Y4 (Ev.load_far tok rfl rfl la (hf4.far ZZHL) ca) ?_) | (refine M1 ?_; refine SC ?_) | (refine M2 ?_; refine SE ?_))
      exact XE.round (s := (k, c)) (k + 1, c) ⟨hkm, by simp only; rw [hstep, List.filter_append, hcn]; simp⟩ (by simp only; omega) ZZSUB (fun _ h => h)
    | true =>
      rw [hh] at ca hstep
      repeat (first | (refine M0 ?_; first | refine SL ?_ | refine SB fun _ _ => ?_ | refine Y4 (Ev.load_far tok rfl rfl la (hf4.far ZZHL) ca) ?_) | (refine M1 ?_; refine SC ?_) | (refine M2 ?_; refine SE ?_))
      exact XE.round (s := (k, c)) (k + 1, c + 1) ⟨hkm, by simp only; rw [hstep, List.filter_append, hcn]; simp⟩ (by simp only; omega) ZZSUB (fun _ h => h)
  have hkm : k = t.m := by have := of_decide_eq_false h1; omega
  subst hkm
  rw [List.take_of_length_le (by omega)] at hcn
  rw [← hcn] at e5
  repeat (first | (refine M0 ?_; first | refine SL ?_ | refine SB fun _ _ => ?_) | (refine M1 ?_; refine SC ?_) | (refine M2 ?_; refine SE ?_))
  refine XL.callF (wE := w) (HldR t (t.bstP r)) (ck rfl) rfl rfl hF3 hk3 hB3 (fun w5 S5 _ hB5 => Holds_made (v := v) (p := t.bstP r) (hT.sys (Sys.ofBelow hB5))) (fun w4 x new hR hF4 hB4 hk4 => ?_) ZZHL
  obtain ⟨⟨q5A, q5n, q5c⟩, rfl, rfl⟩ := hR
  obtain ⟨-, -, -, f2⟩ := hld_0 e3
  have n2 : (t.hldL (t.bstP r)).length = t.m := by rw [f2]; unfold CTk.holdL; rw [List.length_map, List.length_range]
  have hL5 : ListAt boolK5 w4 (Free w4 w.heap.size _ []) ⟨q5A, q5n, q5c⟩ (t.hldL (t.bstP r)) := hF4.held (hList boolK5 ⟨q5A, q5n, q5c⟩ (t.hldL (t.bstP r))) (.head _)
  have hL1 : ListAt intK5 w4 (Free w4 w.heap.size _ []) ⟨q1A, q1n, q1c⟩ (t.bstN r) := hF4.held (hList intK5 ⟨q1A, q1n, q1c⟩ (t.bstN r)) (by simp)
  have hq5 := hL5.len (by decide)
  simp only [n2] at hq5
  subst hq5
  rw [e3]
  simp only [svV]
  repeat (first | (refine M0 ?_; first | refine SL ?_ | refine SB fun _ _ => ?_) | (refine M1 ?_; refine SC ?_) | (refine M2 ?_; refine SE ?_))
  rw [show decide ((t.m : Int) ≠ (t.m : Int)) = false from decide_eq_false (fun h => h rfl)]
  repeat (first | (refine M0 ?_; first | refine SL ?_ | refine SB fun _ _ => ?_) | (refine M1 ?_; refine SC ?_) | (refine M2 ?_; refine SE ?_))
  rw [show decide ((t.m : Int) - (q1n : Int) < (c : Int)) = false from decide_eq_false (by omega)]
  repeat (first | (refine M0 ?_; first | refine SL ?_ | refine SB fun _ _ => ?_) | (refine M1 ?_; refine SC ?_) | (refine M2 ?_; refine SE ?_))
  rw [show decide ((t.bstP r).close < 0) = false from decide_eq_false (by omega)]
  repeat (first | (refine M0 ?_; first | refine SL ?_ | refine SB fun _ _ => ?_) | (refine M1 ?_; refine SC ?_) | (refine M2 ?_; refine SE ?_))
  refine XC.loopk [8, 18] rfl (fun k : Nat => [(20, .int .i64 (k : Nat))]) (fun _ => [(g14, cel 36 [.int .i64 qq.close, .int .i64 qq.open_]), (g10, cel 49 [.int .i64 (t.decD r).plan.close, .int .i64 (t.decD r).plan.open_, .slice q2.A q2.n q2.c, .slice q3.A q3.n q3.c]), (g7, cel 36 [.int .i64 (t.bstP r).close, .int .i64 (t.bstP r).open_]), (g4, cel 42 [.int .i64 r.count, .int .i64 r.early]), (g3, cel 29 (ctkC v t))]) (fun _ => w4) (fun k => k ≤ q1n) (fun k => q1n - k) 0 (Nat.zero_le _) ZZSUB (fun _ h => h) ?_
  intro k hk
  simp only [ctkC]
  dsimp only [List.cons_append, List.nil_append]
  repeat (first | (refine M0 ?_; first | refine SL ?_ | refine SB fun _ _ => ?_) | (refine M1 ?_; refine SC ?_) | (refine M2 ?_; refine SE ?_))
  refine XC.cond _ rfl (fun h1 => ?_) (fun h1 => ?_)
  rotate_left
  · repeat (first | (refine M0 ?_; first | refine SL ?_ | refine SB fun _ _ => ?_ | refine Y4 (Ev.call (f := 17) (ck rfl) rfl (fun w5 S5 => haw w5 S5)) ?_) | (refine M1 ?_; refine SC ?_) | (refine M2 ?_; refine SE ?_))
    refine XE.retg tok Try.results7 rfl (by simp only [and_self, and_true]) (fun w' S => ?_)
    exact ⟨rfl, hB4.trans S.toBelow⟩
  have hkn : k < q1n := by have := of_decide_eq_true h1; omega
  have hkl : k < (t.bstN r).length := by omega
  obtain ⟨j, hj, hjm, hjh⟩ := e6 _ (List.getElem_mem hkl)
  obtain ⟨ad1, rfl, hf1⟩ := hL1.addr (by decide) (by omega)
  obtain ⟨ad5, rfl, hf5⟩ := hL5.addr (by decide) (by omega)
  have ca := hL1.elem (List.getElem?_eq_getElem hkl) 0 (.int .i64 (t.bstN r)[k]) rfl
  rw [add_add, Nat.add_zero, hj] at ca
  have ca : w4.cell? (ad1.add (k * 1)) = some (.int .i64 (j : Nat)) := ca
  have cb := hL5.elem (show (t.hldL (t.bstP r))[j]? = some (t.holds j (t.bstP r)) from by rw [f2]; exact holdL_at hjm) 0 (.bool (t.holds j (t.bstP r))) rfl
  rw [add_add, Nat.add_zero, hjh] at cb
  have cb : w4.cell? (ad5.add (j * 1)) = some (.bool false) := cb
  have la : (ad1.add (k * 1)).block < w4.heap.size := by rw [add_block]; exact hf1.2.1
  have lb : (ad5.add (j * 1)).block < w4.heap.size := by rw [add_block]; exact hf5.2.1
  repeat (first | (refine M0 ?_; first | refine SL ?_ | refine SB fun _ _ => ?_ | refine Y4 (Ev.load_far tok rfl rfl la (hf1.far ZZHL) ca) ?_) | (refine M1 ?_; refine SC ?_) | (refine M2 ?_; refine SE ?_))
  rw [show decide ((t.m : Int) ≤ (j : Int)) = false from decide_eq_false (by omega)]
  repeat (first | (refine M0 ?_; first | refine SL ?_ | refine SB fun _ _ => ?_ | refine Y4 (Ev.load_far tok rfl rfl la (hf1.far ZZHL) ca) ?_ | refine Y4 (Ev.load_far tok rfl rfl lb (hf5.far ZZHL) cb) ?_) | (refine M1 ?_; refine SC ?_) | (refine M2 ?_; refine SE ?_))
  exact XE.round (s := k) (k + 1) (by omega) (by omega) ZZSUB (fun _ h => h)
end Go.Proofs.Ytmpaiphakjogjaa.X
