/-
  The walk of peak (closure).
-/
import Derived.Test.YtmpaiphakjogjaaGreatPart4
import Derived.Test.YtmpaiphakjogjaaGreatPart3
import Derived.Test.YtmpaiphakjogjaaGreatPart1
import Derived.Recover
import Derived.Test.YtmpaiphakjogjaaGreatPart2
set_option linter.unusedVariables false
set_option linter.unusedSimpArgs false
namespace Go.Proofs.YtmpaiphakjogjaaGreat.X
open Go Go.RowKit Go.Proofs.YtmpaiphakjogjaaGreat.Bs
noncomputable def PekX (t : CTk) (k : Nat) (p : CPl) (x : Value) (new : List Held) : Prop := x = iiV (t.peak p k) ∧ new = []
set_option maxHeartbeats 16000000 in
theorem peak_any {t : CTk} {v : CTV} {r : CRu} {b0 g gr gm k : Nat} {p : CPl} {ks : List Nat} {w : World} (hG : Gam t v b0 g gm ks [] [] w) (ho : CtOk t) (hr : w.heap[gr]? = some (rulO g r)) (hgr : gr ∈ ks) (hbr : b0 ≤ gr) (hk : k < t.m) (hp : t.strange p = false) (hall : ∀ i, i < t.n → (t.ins k p i).isSome = true) :
    Calls Tryz.prog 83 #[.pointer (some ⟨gr, 0, none⟩), .int .i64 (k : Nat), plnV p] w (GamR t b0 gm ks (PekX t k p) w) := by
  have hgs := hG.gin
  have hgm : w.heap[g]? = some (gamO v t gm) := hG.game
  have hne : gr ≠ g := fun e => by
    subst e
    rw [hgm] at hr
    simp [rulO, gamO] at hr
  have S0 := Sys.start2 hbr hG.bg hr hgm hne
  have h60 := ho.n60
  have hdl := ho.dly
  have hfr := ho.frm
  have hm8 := ho.m8
  obtain ⟨hb1, hb2, hb3⟩ := plan_bd ho hp
  have hb0 : b0 ≤ w.heap.size := hG.fam.base
  have hrm : gr ≠ gm := fun e => hG.nin (e ▸ hgr)
  have lgr := hG.lt gr (.tail _ hgr)
  have lg := hG.lt g (.tail _ hgs)
  have hin := fun (i : Nat) (hi : i < t.n) (w5 : World) (ks2 : List Nat) (hG5 : Gam t v b0 g gm ks2 [] [] w5) => inside_any hG5 ho hk hi hp
  have hrun := fun (s : Nat) (hs : s < t.n) (w5 : World) (ks2 : List Nat) (hG5 : Gam t v b0 g gm ks2 [] [] w5) => crun_any hG5 ho hk hs
  have hop := fun (g3 g5 g9 i : Nat) (w5 : World) => open_any (v := v) (r := r) (g := g) (gr := gr) (gm := gm) (g3 := g3) (g5 := g5) (g9 := g9) (i := i) (w := w5) ho hp
  obtain ⟨sh, hsh⟩ : ∃ sh, sh = t.shutI p := ⟨_, rfl⟩
  have hsh2 : sh = p.close - t.from_ + t.delay := hsh
  rw [← hsh] at hb3 hop
  obtain ⟨c, o⟩ := p
  simp only at hb1 hb2 hsh2 hop
  simp only [rulO, rulC, gamO, gamC] at S0
  simp only [plnV] at hin ⊢
  refine enterL Tryz.func83 rfl Tryz.ntmps83 rfl (S0) ?_; simp only [frame, Nat.zero_add, Nat.reduceAdd]
  refine XC.hint 0 1 ?_
  repeat (first | (refine M0 ?_; first | refine SL ?_ | refine SB fun _ _ => ?_) | (refine M1 ?_; refine SC ?_) | (refine M2 ?_; refine SE ?_))
  rename_i g3 hg3 g5 hg5 g6 hg6 g8 hg8
  refine XC.drawR _ [0, 1, 2, 3, 4, 5, 6, 7, 8, 9, 10, 11, 12, 13, 14, 15, 16, 17, 18] [19, 20] mixed (fun _ h => h) rfl (by kernel_rfl) ?_
  repeat (any_goals (first | (refine M0 ?_; first | refine SL ?_ | refine SB fun _ _ => ?_ | refine Y4 (Ev.load_loc tok 4 (g := gr) (o := 0) rfl rfl rfl rfl) ?_ | refine Y4 (Ev.load_loc tok 5 (g := g) (o := 11) rfl rfl rfl rfl) ?_ | refine Y4 (Ev.load_loc tok 5 (g := g) (o := 6) rfl rfl rfl rfl) ?_ | refine Y4 (Ev.load_loc tok 5 (g := g) (o := 10) rfl rfl rfl rfl) ?_) | (refine M1 ?_; refine SC ?_) | (refine M2 ?_; refine SE ?_) | (refine M3 ?_; first | refine SG ?_ | refine SF ?_ | refine YF (Ev.load_loc tok 4 (g := gr) (o := 0) rfl rfl rfl rfl) ?_ | refine YF (Ev.load_loc tok 5 (g := g) (o := 11) rfl rfl rfl rfl) ?_ | refine YF (Ev.load_loc tok 5 (g := g) (o := 6) rfl rfl rfl rfl) ?_ | refine YF (Ev.load_loc tok 5 (g := g) (o := 10) rfl rfl rfl rfl) ?_) | (refine M4 ?_; refine SRJ ?_) | (refine M5 ?_; first | exact M7 | refine YM ?_ | refine YN ?_ ?_)))
  any_goals (repeat (first | exact AnyR.nil | refine AnyR.skip rfl ?_))
  rename_i g9 hg9
  rw [← hsh2]
  refine XL.step _ (Ev.makeFunc rfl rfl) rfl ?_
  repeat (first | (refine M0 ?_; first | refine SL ?_ | refine SB fun _ _ => ?_ | refine Y4 (Ev.load_loc tok 5 (g := gr) (o := 0) rfl rfl rfl rfl) ?_ | refine Y4 (Ev.load_loc tok 6 (g := g) (o := 12) rfl rfl rfl rfl) ?_) | (refine M1 ?_; refine SC ?_) | (refine M2 ?_; refine SE ?_))
  have mg : g ∈ g9 :: g8 :: g6 :: g5 :: g3 :: ks := by simp [hgs]
  have mr : gr ∈ g9 :: g8 :: g6 :: g5 :: g3 :: ks := by simp [hgr]
  have m3 : g3 ∈ g9 :: g8 :: g6 :: g5 :: g3 :: ks := by simp
  have m5 : g5 ∈ g9 :: g8 :: g6 :: g5 :: g3 :: ks := by simp
  have m6 : g6 ∈ g9 :: g8 :: g6 :: g5 :: g3 :: ks := by simp
  have m8 : g8 ∈ g9 :: g8 :: g6 :: g5 :: g3 :: ks := by simp
  have m9 : g9 ∈ g9 :: g8 :: g6 :: g5 :: g3 :: ks := by simp
  refine XC.rebase (List.Sublist.refl _) (fun W0 S0 => ?_)
  have hG0 : Gam t v b0 g gm (g9 :: g8 :: g6 :: g5 :: g3 :: ks) [] [] W0 := (hG.add S0 (.tail _ (.tail _ (.tail _ (.tail _ (.tail _ (.tail _ (.head _))))))) ZZHM).less (fun x hx => by
    simp only [List.mem_cons] at hx
    simp only [List.map_cons, List.map_nil, List.mem_append, List.mem_cons]
    rcases hx with h | h | h | h | h | h <;> simp [h]) mg
  have hnd : g5 ≠ g3 ∧ g9 ≠ g3 ∧ g8 ≠ g3 := by
    have := S0.nd
    simp only [List.map_cons, List.map_nil, List.nodup_cons, List.mem_cons, List.not_mem_nil, or_false] at this
    omega
  have hS0 : Since w gm W0 := Since.end2 hG Since.refl S0 ZZHM (own2 hgm hr ZZO3)
  refine XC.loopk [1, 3, 5, 6, 8, 9, 10, 43] rfl (fun z : Nat × World => [(7, .int .i64 (t.pkTo k ⟨c, o⟩ z.1 : Nat)), (44, .int .i64 (z.1 : Nat))])
    (fun z => [(g9, cel 3 [.int .i64 sh]), (g8, cel 114 [.int .i64 (t.tl k ⟨c, o⟩ z.1), .int .i64 (t.th k ⟨c, o⟩ z.1)]), (g6, cel 68 [.int .i64 0, .int .i64 0]), (g5, cel 42 [.int .i64 c, .int .i64 o]), (g3, cel 89 [.pointer (some ⟨gr, 0, none⟩)]), (gr, rulO g r), (g, gamO v t gm)])
    (fun z => z.2) (fun z => z.1 ≤ t.n ∧ Gam t v b0 g gm (g9 :: g8 :: g6 :: g5 :: g3 :: ks) [] [] z.2 ∧ Since w gm z.2) (fun z => t.n - z.1) (0, W0) ⟨Nat.zero_le _, hG0, hS0⟩ ZZSUB (fun _ h => h) ?_
  rintro ⟨i, W⟩ ⟨hi, hGW, hSW⟩
  simp only at hi hGW hSW
  have hrW : W.heap[gr]? = some (rulO g r) := hSW.keep hr hrm
  have hgW := hGW.game
  have hzW := hSW.size
  simp only [rulO, rulC, gamO, gamC]
  dsimp only [List.cons_append, List.nil_append]
  repeat (first | (refine M0 ?_; first | refine SL ?_ | refine SB fun _ _ => ?_) | (refine M1 ?_; refine SC ?_) | (refine M2 ?_; refine SE ?_))
  refine XC.cond _ rfl (fun h1 => ?_) (fun h1 => ?_)
  rotate_left
  · have him : i = t.n := by have := of_decide_eq_false h1; omega
    subst him
    have e1 : t.pkLv k ⟨c, o⟩ = t.th k ⟨c, o⟩ t.n := by
      obtain ⟨j, e⟩ : ∃ j, t.n = j + 1 := ⟨t.n - 1, by have := ho.n1; omega⟩
      unfold CTk.pkLv
      rw [e]; rfl
    have hpn := pkTo_lt t k ⟨c, o⟩ t.n (by have := ho.n1; omega)
    repeat (first | (refine M0 ?_; first | refine SL ?_ | refine SB fun _ _ => ?_) | (refine M1 ?_; refine SC ?_) | (refine M2 ?_; refine SE ?_))
    have hBW : Below b0 w W := hSW.below hG.bm hb0
    refine XC.drawRS (trunc w b0) [(g8, cel 114 [.int .i64 (t.tl k ⟨c, o⟩ t.n), .int .i64 (t.th k ⟨c, o⟩ t.n)]), (g3, cel 89 [.pointer (some ⟨gr, 0, none⟩)]), (gr, rulO g r), (g, gamO v t gm)] [0, 1, 2, 3, 4, 5, 6, 7, 8, 9, 10, 11] [12] mixed
      (fun _ h => Sys.anchorT hBW h (by intro e he; repeat (first | (cases he; done) | (rcases List.mem_cons.1 he with rfl | he; · repeat (first | exact List.mem_cons_self | apply List.mem_cons_of_mem)))) (by simp; omega) hb0) rfl (by kernel_rfl) ?_
    repeat (any_goals (first | (refine M0 ?_; first | refine SL ?_ | refine SB fun _ _ => ?_ | refine Y4 (Ev.load_loc tok 2 (g := gr) (o := 0) rfl rfl rfl rfl) ?_ | refine Y4 (Ev.load_loc tok 3 (g := g) (o := 11) rfl rfl rfl rfl) ?_ | refine Y4 (Ev.load_loc tok 0 (g := g8) (o := 1) rfl rfl rfl rfl) ?_) | (refine M1 ?_; refine SC ?_) | (refine M2 ?_; first | refine SE ?_ | ((with_reducible refine atHeld ?_); refine z7 ?_)) | (refine M3 ?_; first | refine SG ?_ | refine SF ?_ | refine YF (Ev.load_loc tok 2 (g := gr) (o := 0) rfl rfl rfl rfl) ?_ | refine YF (Ev.load_loc tok 3 (g := g) (o := 11) rfl rfl rfl rfl) ?_ | refine YF (Ev.load_loc tok 0 (g := g8) (o := 1) rfl rfl rfl rfl) ?_) | (refine M4 ?_; refine SRJ ?_) | (refine M5 ?_; first | exact M7 | refine YM ?_ | refine YN ?_ ?_)))
    any_goals (repeat (first | exact AnyR.nil | refine AnyR.skip rfl ?_))
    all_goals
      refine XE.retc (i := 2) tok Tryz.results83 rfl rfl rfl rfl (fun w' S => ?_)
      exact GamR.end2 (kk := [g9, g8, g6, g5, g3]) hGW hSW S (by repeat (first | exact List.mem_cons_self | apply List.mem_cons_of_mem)) ⟨by unfold CTk.peak CTk.pkAt; rw [e1]; rfl, rfl⟩ ZZMK (own2 hgW hrW ZZO3)
  have hit : i < t.n := by have := of_decide_eq_true h1; omega
  obtain ⟨y, hy⟩ := Option.isSome_iff_exists.1 (hall i hit)
  have hiy := fun (w5 : World) (ks2 : List Nat) (hG5 : Gam t v b0 g gm ks2 [] [] w5) => (hin i hit w5 ks2 hG5).mono (R' := GamR t b0 gm ks2 (fun x new => x = .tuple ⟨[.agg ⟨[.int .i64 (t.lo y), .int .i64 (t.hi y)]⟩, .bool true]⟩ ∧ new = []) w5) fun e w' ⟨x, new, e1, e2, e3⟩ => ⟨x, new, e1, ⟨by rw [e2.1, hy]; rfl, e2.2⟩, e3⟩
  have hBW : Below b0 w W := hSW.below hG.bm hb0
  repeat (first | (refine M0 ?_; first | refine SL ?_ | refine SB fun _ _ => ?_) | (refine M1 ?_; refine SC ?_) | (refine M2 ?_; refine SE ?_))
  refine XC.cutn [1, 3, 5, 6, 7, 8, 9, 10, 11, 43, 44] rfl (fun z : World × Nat => [(12, .pointer (some ⟨z.2, 0, none⟩))]) (fun z => [(z.2, cel 114 [.int .i64 (t.lo y), .int .i64 (t.hi y)]), (g9, cel 3 [.int .i64 sh]), (g8, cel 114 [.int .i64 (t.tl k ⟨c, o⟩ i), .int .i64 (t.th k ⟨c, o⟩ i)]), (g6, cel 68 [.int .i64 0, .int .i64 0]), (g5, cel 42 [.int .i64 c, .int .i64 o]), (g3, cel 89 [.pointer (some ⟨gr, 0, none⟩)]), (gr, rulO g r), (g, gamO v t gm)])
    (fun z => z.1) (fun z => Gam t v b0 g gm (z.2 :: g9 :: g8 :: g6 :: g5 :: g3 :: ks) [] [] z.1 ∧ Since w gm z.1 ∧ w.heap.size ≤ z.2) ?_ ?_
  · refine XC.drawRS (trunc w b0) [(g5, cel 42 [.int .i64 c, .int .i64 o]), (g3, cel 89 [.pointer (some ⟨gr, 0, none⟩)]), (gr, rulO g r), (g, gamO v t gm)] [0, 1, 2, 3, 4, 5, 6] [7, 8, 9, 10, 11, 12, 13] mixed
      (fun _ h => Sys.anchorT hBW h (by intro e he; repeat (first | (cases he; done) | (rcases List.mem_cons.1 he with rfl | he; · repeat (first | exact List.mem_cons_self | apply List.mem_cons_of_mem)))) (by simp; omega) hb0) rfl (by kernel_rfl) ?_
    repeat (any_goals (first | (refine M0 ?_; first | refine SL ?_ | refine SB fun _ _ => ?_ | refine Y4 (Ev.load_loc tok 2 (g := gr) (o := 0) rfl rfl rfl rfl) ?_ | (refine XL.at_call 60 ?_; refine XL.callI (fun x new => x = .tuple ⟨[.agg ⟨[.int .i64 (t.lo y), .int .i64 (t.hi y)]⟩, .bool true]⟩ ∧ new = []) (ck rfl) rfl rfl hGW hSW (by repeat (first | exact List.mem_cons_self | apply List.mem_cons_of_mem)) (fun w5 ks2 _ _ hG5 => hiy w5 ks2 hG5) (fun w5 x new hR hG5 hS5 => ?_) ZZMK (own2 hgW hrW ZZO3); obtain ⟨rfl, rfl⟩ := hR; have hBW5 : Below b0 w w5 := hS5.below hG.bm hb0; have hz5 := hS5.size)) | (refine M1 ?_; refine SC ?_) | (refine M2 ?_; first | refine SE ?_ | ((with_reducible refine atHeld ?_); refine z7 ?_)) | (refine M3 ?_; first | refine SG ?_ | refine SF ?_ | refine YF (Ev.load_loc tok 2 (g := gr) (o := 0) rfl rfl rfl rfl) ?_) | (refine M4 ?_; refine SRJ ?_) | (refine M5 ?_; first | exact M7 | refine YM ?_ | refine YN ?_ ?_)))
    all_goals
      refine XE.leafW (fun w9 S9 => ?_)
      apply Exists.intro (w9, _)
      refine ⟨?pre, ?sub, ?sys⟩
      case sub => repeat (first | exact Sub.nil | refine Sub.cons rfl ?_)
      case sys => exact S9.rebase (List.Sublist.refl _)
      case pre => exact ⟨hG5.on S9 (by repeat (first | exact List.mem_cons_self | apply List.mem_cons_of_mem)) ZZMK ZZSB (by simp [hgs]) (fun x hx => hx), Since.end2 hG5 hS5 S9 ZZMK (own2 hG5.game (hS5.keep hr hrm) ZZO3), by simp only; omega⟩
  rintro ⟨W2, g12⟩ ⟨hG2, hS2, hg12⟩
  simp only at hG2 hS2 hg12
  dsimp only [List.cons_append, List.nil_append]
  have hg2 := hG2.game
  have hr2 : W2.heap[gr]? = some (rulO g r) := hS2.keep hr hrm
  have hB2 : Below b0 w W2 := hS2.below hG.bm hb0
  have hz2 := hS2.size
  obtain ⟨m, hm⟩ : ∃ m, m = t.pkTo k ⟨c, o⟩ i := ⟨_, rfl⟩
  obtain ⟨tl, htl⟩ : ∃ x, x = t.tl k ⟨c, o⟩ i := ⟨_, rfl⟩
  obtain ⟨th, hth⟩ : ∃ x, x = t.th k ⟨c, o⟩ i := ⟨_, rfl⟩
  rw [← hm, ← htl, ← hth]
  have hmn : m < t.n := by
    rcases Nat.eq_zero_or_pos i with h | h
    · subst h; rw [hm]; exact hit
    · have := pkTo_lt t k ⟨c, o⟩ i h; omega
  obtain ⟨z, hz⟩ := Option.isSome_iff_exists.1 (hall m hmn)
  obtain ⟨G, hGd⟩ : ∃ G, G = (decide (th < t.hi y) || (decide (t.hi y = th) && decide (tl < t.lo y))) := ⟨_, rfl⟩
  have hpz : 0 < i → th = t.hi z ∧ tl = t.lo z := fun h0 => by
    obtain ⟨j, e⟩ : ∃ j, i = j + 1 := ⟨i - 1, by omega⟩
    have e1 : t.th k ⟨c, o⟩ i = t.hi (lvD (t.ins k ⟨c, o⟩ (t.pkTo k ⟨c, o⟩ i))) := by rw [e]; rfl
    have e2 : t.tl k ⟨c, o⟩ i = t.lo (lvD (t.ins k ⟨c, o⟩ (t.pkTo k ⟨c, o⟩ i))) := by rw [e]; rfl
    rw [hth, htl, e1, e2, ← hm, hz]
    exact ⟨rfl, rfl⟩
  have hgG : 0 < i → ¬(y.shut = true ∧ z.shut = true) → G = t.gt y (lvD (t.ins k ⟨c, o⟩ m)) := fun h0 hn => by
    obtain ⟨e1, e2⟩ := hpz h0
    rw [hz, show lvD (some z) = z from rfl, gt_span (lo_hi_in ho hk hp hit hy) (lo_hi_in ho hk hp hmn hz) hn, hGd, e1, e2]
  refine XC.hint 12 7 ?_
  refine XC.seq ?_
  refine XC.cutn [1, 3, 5, 6, 7, 8, 9, 10, 11, 12, 43, 44] rfl (fun _ : Unit => [(14, .bool G)]) (fun _ => [(g12, cel 114 [.int .i64 (t.lo y), .int .i64 (t.hi y)]), (g9, cel 3 [.int .i64 sh]), (g8, cel 114 [.int .i64 tl, .int .i64 th]), (g6, cel 68 [.int .i64 0, .int .i64 0]), (g5, cel 42 [.int .i64 c, .int .i64 o]), (g3, cel 89 [.pointer (some ⟨gr, 0, none⟩)]), (gr, rulO g r), (g, gamO v t gm)])
    (fun _ => W2) (fun _ => True) ?_ (fun _ _ => ?_)
  · repeat (any_goals (first | (refine M0 ?_; first | refine SL ?_ | refine SB fun _ _ => ?_ | (refine XL.split _ _ rfl (fun h => ?_) (fun h => ?_) <;> rw [h])) | (refine M1 ?_; first | refine SC ?_ | refine SD ?_ | refine XC.cond _ rfl (fun h => ?_) (fun h => ?_)) | (refine M2 ?_; refine SE ?_) | (refine M3 ?_; first | refine SG ?_ | refine SF ?_ | (refine Fw.split _ _ rfl (fun h => ?_) (fun h => ?_) <;> rw [h])) | (refine M4 ?_; refine SRJ ?_) | (refine M5 ?_; first | exact M7 | refine YM ?_ | refine YN ?_ ?_)))
    all_goals
      refine XE.leaf () (Sub.cons ?_ (by repeat (first | exact Sub.nil | refine Sub.cons rfl ?_))) (fun _ h => h) trivial
      show some _ = some (Value.bool G)
      rw [hGd]
      clear hm htl hth
      simp [*]
  dsimp only [List.cons_append, List.nil_append]
  refine XC.seq ?_
  refine XC.cutn [1, 3, 5, 6, 7, 8, 9, 10, 11, 12, 43, 44] rfl (fun z : World × Bool => [(14, .bool z.2)]) (fun _ => [(g12, cel 114 [.int .i64 (t.lo y), .int .i64 (t.hi y)]), (g9, cel 3 [.int .i64 sh]), (g8, cel 114 [.int .i64 tl, .int .i64 th]), (g6, cel 68 [.int .i64 0, .int .i64 0]), (g5, cel 42 [.int .i64 c, .int .i64 o]), (g3, cel 89 [.pointer (some ⟨gr, 0, none⟩)]), (gr, rulO g r), (g, gamO v t gm)])
    (fun z => z.1) (fun z => Gam t v b0 g gm (g12 :: g9 :: g8 :: g6 :: g5 :: g3 :: ks) [] [] z.1 ∧ Since w gm z.1 ∧ (0 < i → z.2 = t.gt y (lvD (t.ins k ⟨c, o⟩ m)))) ?_ ?_
  · refine SC ?_
    refine SC ?_
    repeat (first | (refine M0 ?_; first | refine SL ?_ | refine SB fun _ _ => ?_) | (refine M2 ?_; refine SE ?_) | (refine M3 ?_; first | refine SG ?_ | refine SF ?_) | (refine M4 ?_; refine SRJ ?_) | (refine M5 ?_; first | exact M7 | refine YM ?_ | refine YN ?_ ?_))
    (first | refine XL.split _ _ rfl (fun h => ?_) (fun h => ?_) | refine Fw.split _ _ rfl (fun h => ?_) (fun h => ?_)) <;> rw [h]
    rotate_left
    · repeat (first | (refine M0 ?_; first | refine SL ?_ | refine SB fun _ _ => ?_) | (refine M1 ?_; refine SC ?_) | (refine M2 ?_; refine SE ?_))
      exact XE.leaf (W2, G) ZZSUB (fun _ h => h) ⟨hG2, hS2, fun h2 => absurd h2 (by have := of_decide_eq_false h; omega)⟩
    have h0i : 0 < i := by have := of_decide_eq_true h; omega
    repeat (first | (refine M0 ?_; first | refine SL ?_ | refine SB fun _ _ => ?_) | (refine M2 ?_; refine SE ?_) | (refine M3 ?_; first | refine SG ?_ | refine SF ?_) | (refine M4 ?_; refine SRJ ?_) | (refine M5 ?_; first | exact M7 | refine YM ?_ | refine YN ?_ ?_))
    refine XL.step _ (Ev.callv (f := 99) (fst := []) (cap := [.pointer (some ⟨g5, 0, none⟩), .pointer (some ⟨g9, 0, none⟩), .pointer (some ⟨g3, 0, none⟩)]) (vs := [.int .i64 (i : Nat)]) (ck rfl) rfl rfl (fun w5 S5 => hop g3 g5 g9 i w5 (S5.own (g, gamO v t gm) (by repeat (first | exact List.mem_cons_self | apply List.mem_cons_of_mem))).2 (S5.own (gr, rulO g r) (by repeat (first | exact List.mem_cons_self | apply List.mem_cons_of_mem))).2 (S5.own (g3, _) (by repeat (first | exact List.mem_cons_self | apply List.mem_cons_of_mem))).2 (S5.own (g5, _) (by repeat (first | exact List.mem_cons_self | apply List.mem_cons_of_mem))).2 (S5.own (g9, _) (by repeat (first | exact List.mem_cons_self | apply List.mem_cons_of_mem))).2)) rfl ?_
    repeat (first | (refine M0 ?_; first | refine SL ?_ | refine SB fun _ _ => ?_) | (refine M2 ?_; refine SE ?_) | (refine M3 ?_; first | refine SG ?_ | refine SF ?_) | (refine M4 ?_; refine SRJ ?_) | (refine M5 ?_; first | exact M7 | refine YM ?_ | refine YN ?_ ?_))
    cases hoi : t.isOpen ⟨c, o⟩ i with
    | true =>
      repeat (first | (refine M0 ?_; first | refine SL ?_ | refine SB fun _ _ => ?_) | (refine M1 ?_; refine SC ?_) | (refine M2 ?_; refine SE ?_))
      exact XE.leaf (W2, G) ZZSUB (fun _ h => h) ⟨hG2, hS2, fun h0 => hgG h0 (fun h2 => by rw [ins_shut hy, hoi] at h2; exact absurd h2.1 (by simp))⟩
    | false =>
      repeat (first | (refine M0 ?_; first | refine SL ?_ | refine SB fun _ _ => ?_) | (refine M2 ?_; refine SE ?_) | (refine M3 ?_; first | refine SG ?_ | refine SF ?_) | (refine M4 ?_; refine SRJ ?_) | (refine M5 ?_; first | exact M7 | refine YM ?_ | refine YN ?_ ?_))
      refine XL.step _ (Ev.callv (f := 99) (fst := []) (cap := [.pointer (some ⟨g5, 0, none⟩), .pointer (some ⟨g9, 0, none⟩), .pointer (some ⟨g3, 0, none⟩)]) (vs := [.int .i64 (m : Nat)]) (ck rfl) rfl rfl (fun w5 S5 => hop g3 g5 g9 m w5 (S5.own (g, gamO v t gm) (by repeat (first | exact List.mem_cons_self | apply List.mem_cons_of_mem))).2 (S5.own (gr, rulO g r) (by repeat (first | exact List.mem_cons_self | apply List.mem_cons_of_mem))).2 (S5.own (g3, _) (by repeat (first | exact List.mem_cons_self | apply List.mem_cons_of_mem))).2 (S5.own (g5, _) (by repeat (first | exact List.mem_cons_self | apply List.mem_cons_of_mem))).2 (S5.own (g9, _) (by repeat (first | exact List.mem_cons_self | apply List.mem_cons_of_mem))).2)) rfl ?_
      repeat (first | (refine M0 ?_; first | refine SL ?_ | refine SB fun _ _ => ?_) | (refine M2 ?_; refine SE ?_) | (refine M3 ?_; first | refine SG ?_ | refine SF ?_) | (refine M4 ?_; refine SRJ ?_) | (refine M5 ?_; first | exact M7 | refine YM ?_ | refine YN ?_ ?_))
      cases hom : t.isOpen ⟨c, o⟩ m with
      | true =>
        repeat (first | (refine M0 ?_; first | refine SL ?_ | refine SB fun _ _ => ?_) | (refine M1 ?_; refine SC ?_) | (refine M2 ?_; refine SE ?_))
        exact XE.leaf (W2, G) ZZSUB (fun _ h => h) ⟨hG2, hS2, fun h0 => hgG h0 (fun h2 => by rw [ins_shut hz, hom] at h2; exact absurd h2.2 (by simp))⟩
      | false =>
        repeat (first | (refine M0 ?_; first | refine SL ?_ | refine SB fun _ _ => ?_) | (refine M1 ?_; refine SC ?_) | (refine M2 ?_; refine SE ?_))
        obtain ⟨s, hs, hsi⟩ := open_f ho hp hoi
        obtain ⟨s', hs', hsm⟩ := open_f ho hp hom
        have e0 : s' = s := by omega
        subst e0
        have hsN : sh = (s' : Int) := hsh.trans hs
        subst hsN
        obtain ⟨v1, v2, _⟩ := ins_vol ho hp hit hy hoi hs
        obtain ⟨v3, v4, _⟩ := ins_vol ho hp hmn hz hom hs
        refine XC.drawRS (trunc w b0) [(g9, cel 3 [.int .i64 (s' : Nat)]), (g3, cel 89 [.pointer (some ⟨gr, 0, none⟩)]), (gr, rulO g r), (g, gamO v t gm)] [0, 1, 2, 3, 4, 5, 6] [7, 8] mixed
          (fun _ h => Sys.anchorT hB2 h (by intro e he; repeat (first | (cases he; done) | (rcases List.mem_cons.1 he with rfl | he; · repeat (first | exact List.mem_cons_self | apply List.mem_cons_of_mem)))) (by simp; omega) hb0) rfl (by kernel_rfl) ?_
        repeat (any_goals (first | (refine M0 ?_; first | refine SL ?_ | refine SB fun _ _ => ?_ | refine Y4 (Ev.load_loc tok 2 (g := gr) (o := 0) rfl rfl rfl rfl) ?_ | (refine XL.at_call 87 ?_; refine XL.callI (RunR5 t k s') (ck rfl) rfl rfl hG2 hS2 (by repeat (first | exact List.mem_cons_self | apply List.mem_cons_of_mem)) (fun w5 ks2 _ _ hG5 => hrun s' (by omega) w5 ks2 hG5) (fun w5 x new hR hG5 hS5 => ?_) ZZMK (own2 hg2 hr2 ZZO3); obtain ⟨q, rfl, rfl⟩ := hR; have hBW5 : Below b0 w w5 := hS5.below hG.bm hb0; have hz5 := hS5.size)) | (refine M1 ?_; refine SC ?_) | (refine M2 ?_; first | refine SE ?_ | ((with_reducible refine atHeld ?_); refine z7 ?_)) | (refine M3 ?_; first | refine SG ?_ | refine SF ?_ | refine YF (Ev.load_loc tok 2 (g := gr) (o := 0) rfl rfl rfl rfl) ?_) | (refine M4 ?_; refine SRJ ?_) | (refine M5 ?_; first | exact M7 | refine YM ?_ | refine YN ?_ ?_)))
        any_goals (repeat (first | exact AnyR.nil | refine AnyR.skip rfl ?_))
        all_goals
          have hv : IntsAt w5 (Free w5 b0 _ []) q (t.vols k s' (t.n - s')) := hG5.fam.held (hInts q (t.vols k s' (t.n - s'))) (.head _)
          have hvl := hv.len
          obtain ⟨qA, qn, qc⟩ := q
          simp only at hvl
          subst hvl
          have l1 := (List.getElem?_eq_some_iff.1 v2).1
          have l2 := (List.getElem?_eq_some_iff.1 v4).1
          obtain ⟨ad, rfl, hfr, hcl⟩ := hv.at_ (by omega)
          have c1 := hcl (i - s') l1
          have c2 := hcl (m - s') l2
          have a1 : at0 (t.vols k s' (t.n - s')) (i - s') = y.n := by unfold at0; rw [v2]; rfl
          have a2 : at0 (t.vols k s' (t.n - s')) (m - s') = z.n := by unfold at0; rw [v4]; rfl
          rw [a1, show i - s' = ((i : Int) - (s' : Int)).toNat from by omega] at c1
          rw [a2, show m - s' = ((m : Int) - (s' : Int)).toNat from by omega] at c2
          have hlen := @vols_le t k s' (t.n - s')
          have hfar : ∀ j, ∀ e, e ∈ [(g12, cel 114 [.int .i64 (t.lo y), .int .i64 (t.hi y)]), (g9, cel 3 [.int .i64 (s' : Nat)]), (g8, cel 114 [.int .i64 tl, .int .i64 th]), (g6, cel 68 [.int .i64 0, .int .i64 0]), (g5, cel 42 [.int .i64 c, .int .i64 o]), (g3, cel 89 [.pointer (some ⟨gr, 0, none⟩)]), (gr, rulO g r), (g, gamO v t gm)] → e.1 ≠ (ad.add j).block := fun j => hfr.far (fun e he => .inl (.tail _ (List.mem_append_left _ (List.mem_map.2 ⟨e, he, rfl⟩))))
          have hlt5 : ∀ j, (ad.add j).block < w5.heap.size := fun j => by rw [add_block]; exact hfr.2.1
          simp only [svV]
          repeat (first | (refine M0 ?_; first | refine SL ?_ | refine SB fun _ _ => ?_ | refine Y4 (Ev.load_far tok rfl rfl (hlt5 _) (hfar _) c1) ?_ | refine Y4 (Ev.load_far tok rfl rfl (hlt5 _) (hfar _) c2) ?_) | (refine M1 ?_; first | refine SC ?_ | refine SD ?_) | (refine M2 ?_; refine SE ?_) | (refine M3 ?_; first | refine SG ?_ | refine SF ?_ | refine YF (Ev.load_far tok rfl rfl (hlt5 _) (hfar _) c1) ?_ | refine YF (Ev.load_far tok rfl rfl (hlt5 _) (hfar _) c2) ?_) | (refine M4 ?_; refine SRJ ?_) | (refine M5 ?_; first | exact M7 | refine YM ?_ | refine YN ?_ ?_))
          refine XE.leafW (fun w9 S9 => ⟨(w9, decide (z.n < y.n)), ⟨hG5.on S9 (by repeat (first | exact List.mem_cons_self | apply List.mem_cons_of_mem)) ZZMK ZZSB (by simp [hgs]) (fun x hx => by cases hx), Since.end2 hG5 hS5 S9 ZZMK (own2 hG5.game (hS5.keep hr hrm) ZZO3), fun _ => ?_⟩, ZZSUB, S9.rebase (List.Sublist.refl _)⟩)
          rw [hz]
          unfold CTk.gt
          rw [show (lvD (some z)) = z from rfl, v1, v3, if_pos rfl]
  rintro ⟨W3, b⟩ ⟨hG3, hS3, hb⟩
  simp only at hG3 hS3 hb
  have hz3 := hS3.size
  rw [hm] at hb
  have hpk := pk_step (b := b) hy hb
  have hg3 := hG3.game
  have hr3 : W3.heap[gr]? = some (rulO g r) := hS3.keep hr hrm
  clear hgG hpz hG2 hS2 hz2 hBW hGW hSW hg2 hr2
  dsimp only [List.cons_append, List.nil_append]
  repeat (first | (refine M0 ?_; first | refine SL ?_ | refine SB fun _ _ => ?_) | (refine M1 ?_; refine SC ?_) | (refine M2 ?_; refine SE ?_))
  by_cases h0 : i = 0
  · rw [show decide ((i : Int) = 0) = true from decide_eq_true (by omega)]
    repeat (first | (refine M0 ?_; first | refine SL ?_ | refine SB fun _ _ => ?_) | (refine M1 ?_; refine SC ?_) | (refine M2 ?_; refine SE ?_))
    obtain ⟨p1, p2, p3⟩ := hpk.1 (by rw [decide_eq_true h0]; rfl)
    refine XC.drawRS (trunc w b0) [(g12, cel 114 [.int .i64 (t.lo y), .int .i64 (t.hi y)])] [0, 1] [2, 3] mixed (fun _ h => Sys.anchorT (hS3.below hG.bm hb0) h (fun e he => by rw [List.mem_singleton.1 he]; exact .head _) (by simp) hb0) rfl (by kernel_rfl) ?_
    have hB3 : Below b0 w W3 := hS3.below hG.bm hb0
    repeat (any_goals (first | (refine M0 ?_; first | refine SL ?_ | refine SB fun _ _ => ?_ | refine Y4 (Ev.load_loc_agg tok 0 (g := g12) (o := 0) rfl rfl rfl rfl) ?_) | (refine M1 ?_; refine SC ?_) | (refine M2 ?_; first | refine SE ?_ | ((with_reducible refine atHeld ?_); refine z7 ?_)) | (refine M3 ?_; first | refine SG ?_ | refine SF ?_ | refine YF (Ev.load_loc_agg tok 0 (g := g12) (o := 0) rfl rfl rfl rfl) ?_) | (refine M4 ?_; refine SRJ ?_) | (refine M5 ?_; first | exact M7 | refine YM ?_ | refine YN ?_ ?_)))
    any_goals (repeat (first | exact AnyR.nil | refine AnyR.skip rfl ?_))
    refine XE.roundW (s := (i, W)) (fun w9 S9 => ⟨(i + 1, w9), ⟨hit, ?_, ?_⟩, by simp only; omega, Sub.cons (by simp only [p1]; rfl) ZZSUB, by simp only [p2, p3]; exact S9.rebase ZZSM⟩)
    · exact hG3.on S9 (by repeat (first | exact List.mem_cons_self | apply List.mem_cons_of_mem)) ZZMK ZZSB (by simp [hgs]) (fun x hx => hx)
    · exact Since.end2 hG3 hS3 S9 ZZMK (own2 hg3 hr3 ZZO3)
  rw [show decide ((i : Int) = 0) = false from decide_eq_false (by omega)]
  repeat (first | (refine M0 ?_; first | refine SL ?_ | refine SB fun _ _ => ?_) | (refine M1 ?_; refine SC ?_) | (refine M2 ?_; refine SE ?_))
  refine XC.cond _ rfl (fun hbb => ?_) (fun hbb => ?_)
  · obtain ⟨p1, p2, p3⟩ := hpk.1 (by rw [hbb, Bool.or_true])
    repeat (first | (refine M0 ?_; first | refine SL ?_ | refine SB fun _ _ => ?_) | (refine M1 ?_; refine SC ?_) | (refine M2 ?_; refine SE ?_))
    refine XC.drawRS (trunc w b0) [(g12, cel 114 [.int .i64 (t.lo y), .int .i64 (t.hi y)])] [0, 1] [2, 3] mixed (fun _ h => Sys.anchorT (hS3.below hG.bm hb0) h (fun e he => by rw [List.mem_singleton.1 he]; exact .head _) (by simp) hb0) rfl (by kernel_rfl) ?_
    have hB3 : Below b0 w W3 := hS3.below hG.bm hb0
    repeat (any_goals (first | (refine M0 ?_; first | refine SL ?_ | refine SB fun _ _ => ?_ | refine Y4 (Ev.load_loc_agg tok 0 (g := g12) (o := 0) rfl rfl rfl rfl) ?_) | (refine M1 ?_; refine SC ?_) | (refine M2 ?_; first | refine SE ?_ | ((with_reducible refine atHeld ?_); refine z7 ?_)) | (refine M3 ?_; first | refine SG ?_ | refine SF ?_ | refine YF (Ev.load_loc_agg tok 0 (g := g12) (o := 0) rfl rfl rfl rfl) ?_) | (refine M4 ?_; refine SRJ ?_) | (refine M5 ?_; first | exact M7 | refine YM ?_ | refine YN ?_ ?_)))
    any_goals (repeat (first | exact AnyR.nil | refine AnyR.skip rfl ?_))
    refine XE.roundW (s := (i, W)) (fun w9 S9 => ⟨(i + 1, w9), ⟨hit, ?_, ?_⟩, by simp only; omega, Sub.cons (by simp only [p1]; rfl) ZZSUB, by simp only [p2, p3]; exact S9.rebase ZZSM⟩)
    · exact hG3.on S9 (by repeat (first | exact List.mem_cons_self | apply List.mem_cons_of_mem)) ZZMK ZZSB (by simp [hgs]) (fun x hx => hx)
    · exact Since.end2 hG3 hS3 S9 ZZMK (own2 hg3 hr3 ZZO3)
  · obtain ⟨p1, p2, p3⟩ := hpk.2 (by rw [hbb, decide_eq_false h0]; rfl)
    repeat (first | (refine M0 ?_; first | refine SL ?_ | refine SB fun _ _ => ?_) | (refine M1 ?_; refine SC ?_) | (refine M2 ?_; refine SE ?_))
    refine XE.roundW (s := (i, W)) (fun w9 S9 => ⟨(i + 1, w9), ⟨hit, ?_, ?_⟩, by simp only; omega, Sub.cons (by simp only [p1, ← hm]; rfl) ZZSUB, by simp only [p2, p3, ← htl, ← hth]; exact S9.rebase ZZSM⟩)
    · exact hG3.on S9 (by repeat (first | exact List.mem_cons_self | apply List.mem_cons_of_mem)) ZZMK ZZSB (by simp [hgs]) (fun x hx => hx)
    · exact Since.end2 hG3 hS3 S9 ZZMK (own2 hg3 hr3 ZZO3)
end Go.Proofs.YtmpaiphakjogjaaGreat.X
namespace Go.Proofs.YtmpaiphakjogjaaGreat.Bs
open Go Go.Proofs.YtmpaiphakjogjaaGreat.X
theorem peaks_succ (t : CTk) (p : CPl) (k : Nat) : (List.range (k + 1)).map (t.peak p) = (List.range k).map (t.peak p) ++ [t.peak p k] := by rw [List.range_succ, List.map_append]; rfl
end Go.Proofs.YtmpaiphakjogjaaGreat.Bs
namespace Go.Proofs.YtmpaiphakjogjaaGreat.X
open Go Go.RowKit Go.Proofs.YtmpaiphakjogjaaGreat.Bs
def pekK5 : Kind II := ⟨68, 2, fun x => [.int .i64 x.1, .int .i64 x.2], fun _ => [], fun _ => rfl⟩
theorem pek5_el : elemOk Tryz.prog 43 pekK5.ty pekK5.m 16 = true := by kernel_rfl
def PksX (t : CTk) (p : CPl) (x : Value) (new : List Held) : Prop := ∃ q : SV, x = svV q ∧ new = [hList pekK5 q (t.peaks p)]
set_option maxHeartbeats 16000000 in
theorem peaks_any {t : CTk} {v : CTV} {r : CRu} {b0 g gr gm : Nat} {p : CPl} {ks : List Nat} {w : World} (hG : Gam t v b0 g gm ks [] [] w) (ho : CtOk t) (hr : w.heap[gr]? = some (rulO g r)) (hgr : gr ∈ ks) (hbr : b0 ≤ gr) (hp : t.strange p = false) (hall : ∀ k i, k < t.m → i < t.n → (t.ins k p i).isSome = true) :
    Calls Tryz.prog 47 #[.pointer (some ⟨gr, 0, none⟩), plnV p] w (GamR t b0 gm ks (PksX t p) w) := by
  have hgs := hG.gin
  have hgm : w.heap[g]? = some (gamO v t gm) := hG.game
  have hne : gr ≠ g := fun e => by
    subst e
    rw [hgm] at hr
    simp [rulO, gamO] at hr
  have S0 := Sys.start2 hbr hG.bg hr hgm hne
  have hm8 := ho.m8
  have hb0 : b0 ≤ w.heap.size := hG.fam.base
  have hrm : gr ≠ gm := fun e => hG.nin (e ▸ hgr)
  have lgr := hG.lt gr (.tail _ hgr)
  have lg := hG.lt g (.tail _ hgs)
  have hhn := hG.task.hn
  have hpk := fun (k : Nat) (hk : k < t.m) (w5 : World) (ks2 : List Nat) (hG5 : Gam t v b0 g gm ks2 [] [] w5) (hr5 : w5.heap[gr]? = some (rulO g r)) (h5 : gr ∈ ks2) => peak_any hG5 ho hr5 h5 hbr hk hp (hall k · hk)
  obtain ⟨vp, vf, ⟨Ah, nh, ch'⟩, vr⟩ := v
  simp only at hhn
  subst hhn
  simp only [rulO, rulC, gamO, gamC] at S0
  simp only [plnV] at hpk ⊢
  refine enterL Tryz.func47 rfl Tryz.ntmps47 rfl (S0) ?_; simp only [frame, Nat.zero_add, Nat.reduceAdd]
  repeat (first | (refine M0 ?_; first | refine SL ?_ | refine SB fun _ _ => ?_ | refine Y4 (Ev.load_loc tok 1 (g := gr) (o := 0) rfl rfl rfl rfl) ?_ | refine Y4 (Ev.load_loc tok 2 (g := g) (o := 6) rfl rfl rfl rfl) ?_) | (refine M1 ?_; refine SC ?_) | (refine M2 ?_; refine SE ?_))
  rename_i g3 hg3
  have mg : g ∈ g3 :: ks := by simp [hgs]
  have mr : gr ∈ g3 :: ks := by simp [hgr]
  refine XC.rebase (List.Sublist.refl _) (fun W0 S0 => ?_)
  have hG0 : Gam t ⟨vp, vf, ⟨Ah, t.m, ch'⟩, vr⟩ b0 g gm (g3 :: ks) [⟨II, pekK5, .slice none 0 0, []⟩] [] W0 := (hG.on S0 (by repeat (first | exact List.mem_cons_self | apply List.mem_cons_of_mem)) ZZMK ZZSB mg (fun x hx => hx)).nil pekK5
  have hS0 : Since w gm W0 := Since.end2 hG Since.refl S0 ZZMK (own2 hgm hr ZZO3)
  refine XC.loopk [0, 3, 14] rfl (fun z : Nat × World × SV => [(4, svV z.2.2), (15, .int .i64 (z.1 : Nat))])
    (fun z => [(g3, cel 42 [.int .i64 p.close, .int .i64 p.open_]), (gr, rulO g r), (g, gamO ⟨vp, vf, ⟨Ah, t.m, ch'⟩, vr⟩ t gm)])
    (fun z => z.2.1) (fun z => z.1 ≤ t.m ∧ Gam t ⟨vp, vf, ⟨Ah, t.m, ch'⟩, vr⟩ b0 g gm (g3 :: ks) [⟨II, pekK5, svV z.2.2, (List.range z.1).map (t.peak p)⟩] [] z.2.1 ∧ Since w gm z.2.1 ∧ ∀ q, (svV z.2.2).ownBlock = some q → w.heap.size ≤ q) (fun z => t.m - z.1) (0, W0, ⟨none, 0, 0⟩) ⟨Nat.zero_le _, hG0, hS0, fun q h => by cases h⟩ ZZSUB (fun _ h => h) ?_
  rintro ⟨k, W, rq⟩ ⟨hk, hGW, hSW, hown⟩
  simp only at hk hGW hSW hown
  have hrW : W.heap[gr]? = some (rulO g r) := hSW.keep hr hrm
  have hgW := hGW.game
  have hzW := hSW.size
  simp only [rulO, rulC, gamO, gamC, svV]
  dsimp only [List.cons_append, List.nil_append]
  repeat (first | (refine M0 ?_; first | refine SL ?_ | refine SB fun _ _ => ?_) | (refine M1 ?_; refine SC ?_) | (refine M2 ?_; refine SE ?_))
  refine XC.cond _ rfl (fun h1 => ?_) (fun h1 => ?_)
  rotate_left
  · have hkm : k = t.m := by have := of_decide_eq_false h1; omega
    subst hkm
    repeat (first | (refine M0 ?_; first | refine SL ?_ | refine SB fun _ _ => ?_) | (refine M1 ?_; refine SC ?_) | (refine M2 ?_; refine SE ?_))
    refine XE.retg tok Tryz.results47 rfl (by simp only [and_self, and_true]) (fun w' S => ?_)
    exact GamR.end4 hGW.freeze hSW S (by repeat (first | exact List.mem_cons_self | apply List.mem_cons_of_mem)) ⟨rq, rfl, rfl⟩ (fun y hy => hy) ZZMK (own2 hgW hrW ZZO3) (fun x hx => .tail _ hx)
  have hkm : k < t.m := by have := of_decide_eq_true h1; omega
  repeat (first | (refine M0 ?_; first | refine SL ?_ | refine SB fun _ _ => ?_) | (refine M1 ?_; refine SC ?_) | (refine M2 ?_; refine SE ?_))
  refine XL.callI (PekX t k p) (ck rfl) rfl rfl hGW hSW (by repeat (first | exact List.mem_cons_self | apply List.mem_cons_of_mem)) (fun w5 ks2 S5 hL5 hG5 => hpk k hkm w5 ks2 hG5 (S5.own (gr, rulO g r) (by repeat (first | exact List.mem_cons_self | apply List.mem_cons_of_mem))).2 (hL5 (gr, rulO g r) (by repeat (first | exact List.mem_cons_self | apply List.mem_cons_of_mem)))) (fun w5 x new hR hG5 hS5 => ?_) ZZMK (own2 hgW hrW ZZO3)
  obtain ⟨rfl, rfl⟩ := hR
  have hz5 := hS5.size
  have hr5 : w5.heap[gr]? = some (rulO g r) := hS5.keep hr hrm
  have hg5 := hG5.game
  simp only [iiV]
  repeat (first | (refine M0 ?_; first | refine SL ?_ | refine SB fun _ _ => ?_ | refine XL.buildSlice tok rfl rfl rfl rfl rfl rfl rfl rfl rfl (fun _ _ => ?_)) | (refine M1 ?_; refine SC ?_) | (refine M2 ?_; refine SE ?_))
  rename_i g9 hg9
  refine XL.pushI (K := pekK5) (a := t.peak p k) 0 pek5_el (by decide) rfl rfl rfl hG5 (by repeat (first | exact List.mem_cons_self | apply List.mem_cons_of_mem)) rfl hS5 hown (.head _) rfl (fun _ => rfl) (by simp; omega) (by decide) (fun w6 r6 hG6 hS6 hown6 => ?_) ZZMK (own2 hg5 hr5 ZZO3)
  have hz6 := hS6.size
  have hg6 := hG6.game
  have hr6 : w6.heap[gr]? = some (rulO g r) := hS6.keep hr hrm
  simp only [svV]
  repeat (first | (refine M0 ?_; first | refine SL ?_ | refine SB fun _ _ => ?_) | (refine M1 ?_; refine SC ?_) | (refine M2 ?_; refine SE ?_))
  refine XE.roundW (s := (k, W, rq)) (fun w9 S9 => ⟨(k + 1, w9, r6), ⟨hkm, ?_, ?_, hown6⟩, by simp only; omega, ZZSUB, S9.rebase ZZSM⟩)
  · rw [peaks_succ]
    exact hG6.on S9 (by repeat (first | exact List.mem_cons_self | apply List.mem_cons_of_mem)) ZZMK ZZSB mg (fun x hx => by cases hx)
  · exact Since.end2 hG6 hS6 S9 ZZMK (own2 hg6 hr6 ZZO3)
end Go.Proofs.YtmpaiphakjogjaaGreat.X
namespace Go.Proofs.YtmpaiphakjogjaaGreat.Bs
open Go Go.Proofs.YtmpaiphakjogjaaGreat.X
def rvI (n k x : Nat) : Nat := if x < k ∨ n - k ≤ x then n - 1 - x else x
def rv (l : List II) (k : Nat) : List II := (List.range l.length).map fun x => l[rvI l.length k x]?.getD (0, 0)
theorem rv_len (l : List II) (k : Nat) : (rv l k).length = l.length := by simp [rv]
theorem rv_at {l : List II} {k x : Nat} (hx : x < l.length) : (rv l k)[x]? = some (l[rvI l.length k x]?.getD (0, 0)) := by
  unfold rv
  rw [List.getElem?_map, List.getElem?_range hx]; rfl
theorem rv_none {l : List II} {k x : Nat} (hx : l.length ≤ x) : (rv l k)[x]? = none := List.getElem?_eq_none (by rw [rv_len]; exact hx)
theorem rv_0 (l : List II) : rv l 0 = l := by
  refine List.ext_getElem? fun x => ?_
  by_cases hx : x < l.length
  · rw [rv_at hx, show rvI l.length 0 x = x from if_neg (by omega), List.getElem?_eq_getElem hx]; rfl
  · rw [rv_none (by omega), List.getElem?_eq_none (by omega)]
theorem rv_all {l : List II} {k : Nat} (h : ¬ k < l.length - 1 - k) : rv l k = l.reverse := by
  refine List.ext_getElem? fun x => ?_
  by_cases hx : x < l.length
  · rw [rv_at hx, List.getElem?_reverse hx]
    have e : rvI l.length k x = l.length - 1 - x := by
      unfold rvI
      split
      · rfl
      · omega
    rw [e, List.getElem?_eq_getElem (by omega)]; rfl
  · rw [rv_none (by omega), List.getElem?_eq_none (by simp; omega)]
theorem rv_step {l : List II} {k : Nat} {a b : II} (h : k < l.length - 1 - k) (ha : (rv l k)[k]? = some a) (hb : (rv l k)[l.length - 1 - k]? = some b) : ((rv l k).set k b).set (l.length - 1 - k) a = rv l (k + 1) := by
  have h1 : rvI l.length k k = k := if_neg (by omega)
  have h2 : rvI l.length k (l.length - 1 - k) = l.length - 1 - k := if_neg (by omega)
  rw [rv_at (by omega), h1] at ha
  rw [rv_at (by omega), h2] at hb
  refine List.ext_getElem? fun x => ?_
  by_cases hx : x < l.length
  · rw [rv_at hx]
    by_cases h3 : x = l.length - 1 - k
    · subst h3
      rw [List.getElem?_set_self (by simp [rv_len]; omega), ← ha]
      have : rvI l.length (k + 1) (l.length - 1 - k) = k := by unfold rvI; rw [if_pos (by omega)]; omega
      rw [this]
    · rw [List.getElem?_set_ne (Ne.symm h3)]
      by_cases h4 : x = k
      · subst h4
        rw [List.getElem?_set_self (by simp [rv_len]; omega), ← hb]
        have : rvI l.length (x + 1) x = l.length - 1 - x := by unfold rvI; rw [if_pos (by omega)]
        rw [this]
      · rw [List.getElem?_set_ne (Ne.symm h4), rv_at hx]
        have : rvI l.length (k + 1) x = rvI l.length k x := by
          unfold rvI
          by_cases h5 : x < k ∨ l.length - k ≤ x
          · rw [if_pos h5, if_pos (by omega)]
          · rw [if_neg h5, if_neg (by omega)]
        rw [this]
  · rw [rv_none (by omega), List.getElem?_eq_none (by simp [rv_len]; omega)]
end Go.Proofs.YtmpaiphakjogjaaGreat.Bs
namespace Go.Proofs.YtmpaiphakjogjaaGreat.X
open Go Go.RowKit Go.Proofs.YtmpaiphakjogjaaGreat.Bs
def wtnK5 : Kind II := ⟨70, 2, fun x => [.int .i64 x.1, .int .i64 x.2], fun _ => [], fun _ => rfl⟩
theorem wtn5_el : elemOk Tryz.prog 44 wtnK5.ty wtnK5.m 16 = true := by kernel_rfl
section
variable {P : Program} {T : TT} {N : Nat} {B : Nat} {w0 : World} {ds : List Deferred} {Q : Exit → Act → World → Prop} {F : Fr} {L L' : Lo} {ops : Array Oper} {rest : List Oper} {ty : TypeId} {p : String} {af : Array Edge}
theorem XL.store_row2 {α : Type} (K : Kind α) (hT : TOK P T) (i : Nat) {l : List α} {sp : List Value} {a : α} {t : TypeId} {x y : Operand} {g j : Nat} {tg : TypeId}
    (hx : evo F x = some (.pointer (some ((⟨g, 0, none⟩ : Addr).add (j * K.m))))) (hy : evo F y = some (.agg (K.c a).toArray)) (hL : L[i]? = some (g, cel tg (l.flatMap K.c ++ sp))) (ht : lkG T.agg t = some 2) (hm : K.m = 2) (h1 : ∀ a, (K.c a).all one1 = true)
    (hj : j < l.length) (hL' : setN L i (g, cel tg ((l.set j a).flatMap K.c ++ sp)) = some L') (k : XL P N B w0 ds Q ops rest F L') :
    XL P N B w0 ds Q ops ({ dst := none, op := .store t x y, type := ty, pos := p, after := af, guard := none } :: rest) F L := by
  rw [add_off, Nat.zero_add] at hx
  have hp : putN (l.flatMap K.c ++ sp) (j * K.m) (K.c a) = some ((l.set j a).flatMap K.c ++ sp) := by
    have hK := K.len
    have key : ∀ (l : List α) (j : Nat), j < l.length → putN (l.flatMap K.c ++ sp) (j * K.m) (K.c a) = some ((l.set j a).flatMap K.c ++ sp) := by
      intro l
      induction l with
      | nil => intro j h; simp at h
      | cons b l ih =>
        intro j h
        have hb := hK b
        have ha := hK a
        rw [hm] at hb ha ih ⊢
        obtain ⟨b1, b2, eb⟩ : ∃ x y, K.c b = [x, y] := by
          match hc : K.c b, hb with
          | [x, y], _ => exact ⟨x, y, rfl⟩
        obtain ⟨a1, a2, ea⟩ : ∃ x y, K.c a = [x, y] := by
          match hc : K.c a, ha with
          | [x, y], _ => exact ⟨x, y, rfl⟩
        cases j with
        | zero =>
          rw [List.flatMap_cons, eb, List.set_cons_zero, List.flatMap_cons, ea]
          rfl
        | succ j =>
          have hi := ih j (by simpa using h)
          rw [List.flatMap_cons, eb, List.set_cons_succ, List.flatMap_cons, eb, ea]
          rw [ea] at hi
          have e2 : (j + 1) * 2 = j * 2 + 1 + 1 := by omega
          rw [e2]
          simp only [putN, setN, List.cons_append, List.nil_append] at hi ⊢
          cases h3 : setN (List.flatMap K.c l ++ sp) (j * 2) a1 with
          | none => rw [h3] at hi; cases hi
          | some l3 =>
            rw [h3] at hi
            simp only at hi ⊢
            rw [show j * 2 + 1 + 1 + 1 = (j * 2 + 1) + 1 + 1 from rfl]
            simp only [setN]
            cases h4 : setN l3 (j * 2 + 1) a2 with
            | none => rw [h4] at hi; cases hi
            | some l4 => rw [h4] at hi; simp only [Option.some.injEq] at hi ⊢; rw [hi]
    exact key l j hj
  exact XL.store hT i hx hy hL rfl (.inr (by rw [K.len, hm]; exact ht)) (h1 a) hp hL' k
end
set_option maxHeartbeats 8000000 in
theorem rev_any {gq cap : Nat} {l : List II} {sp : List Value} {w : World} (hq : w.heap[gq]? = some (cel 70 (l.flatMap wtnK5.c ++ sp))) (hl : l.length ≤ 1000) :
    Calls Tryz.prog 49 #[.slice (some ⟨gq, 0, none⟩) l.length cap] w fun e w' => e = .returned (.tuple #[]) ∧ Sys gq w [(gq, cel 70 (l.reverse.flatMap wtnK5.c ++ sp))] w' := by
  have S0 := Sys.start1 (Nat.le_refl gq) hq
  have hlt := (Array.getElem?_eq_some_iff.1 hq).1
  have hBw : Below gq w w := Below.refl _ _
  have hle : gq ≤ w.heap.size := by omega
  refine enterL Tryz.func49 rfl Tryz.ntmps49 rfl (S0) ?_; simp only [frame, Nat.zero_add, Nat.reduceAdd]
  repeat (first | (refine M0 ?_; first | refine SL ?_ | refine SB fun _ _ => ?_) | (refine M1 ?_; refine SC ?_) | (refine M2 ?_; refine SE ?_))
  refine XC.loopk [0] rfl (fun k : Nat => [(2, .int .i64 (k : Nat)), (3, .int .i64 ((l.length : Int) - 1 - (k : Nat)))]) (fun k => [(gq, cel 70 ((rv l k).flatMap wtnK5.c ++ sp))]) (fun _ => w) (fun k => k ≤ l.length) (fun k => l.length - k) 0 (Nat.zero_le _) (Sub.cons rfl (Sub.cons (by show some _ = some _; congr 2; omega) Sub.nil)) (fun w' h => by rw [rv_0]; exact h) ?_
  intro k hk
  dsimp only [List.cons_append, List.nil_append]
  repeat (first | (refine M0 ?_; first | refine SL ?_ | refine SB fun _ _ => ?_) | (refine M1 ?_; refine SC ?_) | (refine M2 ?_; refine SE ?_))
  refine XC.cond _ rfl (fun h2 => ?_) (fun h2 => ?_)
  rotate_left
  · have hn : ¬ k < l.length - 1 - k := by have := of_decide_eq_false h2; omega
    repeat (first | (refine M0 ?_; first | refine SL ?_ | refine SB fun _ _ => ?_) | (refine M1 ?_; refine SC ?_) | (refine M2 ?_; refine SE ?_))
    refine XE.end0 Tryz.results49 (fun w' S => ?_)
    rw [rv_all hn] at S
    exact ⟨rfl, S⟩
  have hkn : k < l.length - 1 - k := by have := of_decide_eq_true h2; omega
  obtain ⟨m, hm⟩ : ∃ m, m = l.length - 1 - k := ⟨_, rfl⟩
  have em : (l.length : Int) - 1 - (k : Nat) = (m : Nat) := by omega
  rw [em]
  obtain ⟨a, ha⟩ : ∃ a, (rv l k)[k]? = some a := ⟨_, rv_at (by omega)⟩
  obtain ⟨b, hb⟩ : ∃ b, (rv l k)[m]? = some b := ⟨_, rv_at (by omega)⟩
  have hstep := rv_step hkn ha (by rw [← hm]; exact hb)
  rw [← hm] at hstep
  have hge : ∀ (j : Nat) (y : II), (rv l k)[j]? = some y → ∀ i u, (wtnK5.c y)[i]? = some u → ((rv l k).flatMap wtnK5.c ++ sp)[0 + j * 2 + i]? = some u := fun j y hj i u hu => by
    have hi : i < 2 := (List.getElem?_eq_some_iff.1 hu).1
    rw [Nat.zero_add, fget (C := wtnK5.c) (m := 2) (fun _ => rfl) sp hj hi]
    exact hu
  have hlr := rv_len l k
  repeat (first | (refine M0 ?_; first | refine SL ?_ | refine SB fun _ _ => ?_) | (refine M1 ?_; refine SC ?_) | (refine M2 ?_; refine SE ?_))
  refine XC.drawRS (trunc w gq) [] [0, 1, 2, 3, 4, 5, 6, 8, 9, 10] [7, 11, 12, 13, 14, 15] mixed (fun _ h => Sys.anchorT hBw h (fun e he => by cases he) (by simp) hle) rfl (by kernel_rfl) ?_
  repeat (any_goals (first | (refine M0 ?_; first | refine SL ?_ | refine SB fun _ _ => ?_ | refine Y4 (Ev.load_at_agg tok 0 (g := gq) (o := 0) (j := m * 2) (vs := wtnK5.c b) rfl rfl rfl rfl (hge m b hb)) ?_ | refine Y4 (Ev.load_at_agg tok 0 (g := gq) (o := 0) (j := k * 2) (vs := wtnK5.c a) rfl rfl rfl rfl (hge k a ha)) ?_ | refine XL.store_row2 wtnK5 tok 0 (j := k) (a := b) (l := rv l k) (sp := sp) rfl rfl rfl rfl rfl (fun _ => rfl) (by omega) rfl ?_ | refine XL.store_row2 wtnK5 tok 0 (j := m) (a := a) (l := (rv l k).set k b) (sp := sp) rfl rfl rfl rfl rfl (fun _ => rfl) (by simp; omega) rfl ?_) | (refine M1 ?_; refine SC ?_) | (refine M2 ?_; first | refine SE ?_ | ((with_reducible refine atHeld ?_); refine z7 ?_)) | (refine M3 ?_; first | refine SG ?_ | refine SF ?_ | refine YF (Ev.load_at_agg tok 0 (g := gq) (o := 0) (j := m * 2) (vs := wtnK5.c b) rfl rfl rfl rfl (hge m b hb)) ?_ | refine YF (Ev.load_at_agg tok 0 (g := gq) (o := 0) (j := k * 2) (vs := wtnK5.c a) rfl rfl rfl rfl (hge k a ha)) ?_) | (refine M4 ?_; refine SR ?_) | (refine M5 ?_; first | exact M7 | refine YM ?_ | refine YN ?_ ?_)))
  any_goals (repeat (first | exact AnyR.nil | refine AnyR.skip rfl ?_))
  all_goals
    rw [hstep]
    exact XE.round (s := k) (k + 1) (by omega) (by omega) (Sub.cons rfl (Sub.cons (by show some _ = some _; congr 2; omega) ZZSUB)) (fun _ h => h)
theorem rev_row {w : World} {b0 : Nat} {q : SV} {l : List II} (h : w.ownsRow b0 70 2 (svV q) l.length (l.flatMap wtnK5.c)) (hl : l.length ≤ 1000) :
    Calls Tryz.prog 49 #[svV q] w fun e w' => e = .returned (.tuple #[]) ∧ w'.ownsRow b0 70 2 (svV q) l.length (l.reverse.flatMap wtnK5.c) ∧ w'.os = w.os ∧ w'.tape = w.tape ∧ w'.output = w.output ∧ w.heap.size ≤ w'.heap.size ∧ ∀ j, j < w.heap.size → (svV q).ownBlock ≠ some j → w'.heap[j]? = w.heap[j]? := by
  obtain ⟨A, n, c⟩ := q
  obtain ⟨h1, h2 | ⟨g, cap, cur, e, hb, hg, hn, hc, hs, ht⟩⟩ := h
  · obtain ⟨e, h3⟩ := h2
    have hl0 : l = [] := List.length_eq_zero_iff.1 h3
    subst hl0
    simp only [svV, Value.slice.injEq] at e
    obtain ⟨rfl, rfl, rfl⟩ := e
    simp only [svV]
    have S0 : Sys w.heap.size w [] w := Sys.enter w
    refine enter Tryz.func49 rfl Tryz.ntmps49 rfl ?_; simp only [frame, Nat.zero_add, Nat.reduceAdd]
    repeat (first | (refine M0 ?_; first | refine SL ?_ | refine SB fun _ _ => ?_) | (refine M1 ?_; refine SC ?_) | (refine M2 ?_; refine SE ?_))
    refine XC.loopk [0] rfl (fun k : Unit => [(2, .int .i64 0), (3, .int .i64 (-1))]) (fun k => []) (fun _ => w) (fun k => True) (fun k => 1) () trivial ZZSUB (fun w' h => h) ?_
    intro k hk
    dsimp only [List.cons_append, List.nil_append]
    repeat (first | (refine M0 ?_; first | refine SL ?_ | refine SB fun _ _ => ?_) | (refine M1 ?_; refine SC ?_) | (refine M2 ?_; refine SE ?_))
    refine XE.end0 Tryz.results49 (fun w' S => ?_)
    exact ⟨rfl, ⟨rfl, .inl ⟨rfl, rfl⟩⟩, S.os, S.tape, S.output, S.size, fun j hj _ => S.old j hj (fun e he => by cases he)⟩
  · simp only [svV, Value.slice.injEq] at e
    obtain ⟨rfl, rfl, rfl⟩ := e
    have hcur : cur.toList = l.flatMap wtnK5.c ++ cur.toList.drop (l.length * 2) := by rw [← ht, List.take_append_drop]
    have hg' : w.heap[g]? = some (cel 70 (l.flatMap wtnK5.c ++ cur.toList.drop (l.length * 2))) := by rw [← hcur]; exact hg
    have hlen : (l.reverse.flatMap wtnK5.c).length = l.length * 2 := by rw [flat_len wtnK5.c 2 (fun _ => rfl), List.length_reverse]
    refine (rev_any hg' hl).mono fun e w' ⟨e1, S⟩ => ⟨e1, ⟨hlen, .inr ⟨g, _, _, rfl, hb, (S.own _ (.head _)).2, hn, hc, ?_, ?_⟩⟩, S.os, S.tape, S.output, S.size, fun j hj hne => S.old j hj (fun e he e2 => ?_)⟩
    · have : cur.toList.length = cur.size := by simp
      simp only [List.size_toArray, List.length_append, hlen, List.length_drop, this]
      omega
    · rw [List.take_left' hlen]
    · rw [List.mem_singleton.1 he] at e2
      exact hne (by rw [← e2]; rfl)
end Go.Proofs.YtmpaiphakjogjaaGreat.X
namespace Go.Proofs.YtmpaiphakjogjaaGreat.Bs
open Go Go.Proofs.YtmpaiphakjogjaaGreat.X
noncomputable def CTk.downL (t : CTk) (i : Nat) : List II := (List.range (t.beg - i)).map fun x => t.witC ((t.beg - 1 - x : Nat) : Int)
theorem downL_len (t : CTk) (i : Nat) : (t.downL i).length = t.beg - i := by simp [CTk.downL]
theorem downL_0 (t : CTk) : t.downL t.beg = [] := by unfold CTk.downL; rw [Nat.sub_self]; rfl
theorem downL_push {t : CTk} {i : Nat} (hi : i < t.beg) : t.downL i = t.downL (i + 1) ++ [t.witC (i : Nat)] := by
  unfold CTk.downL
  rw [show t.beg - i = (t.beg - (i + 1)) + 1 by omega, List.range_succ, List.map_append]
  congr 1
  rw [List.map_singleton, show t.beg - 1 - (t.beg - (i + 1)) = i by omega]
theorem downL_rev {t : CTk} {i : Nat} (hi : i < t.beg) : (t.downL (i + 1)).reverse = t.laterL i := by
  refine List.ext_getElem? fun x => ?_
  have hl := downL_len t (i + 1)
  have hl2 : (t.laterL i).length = t.beg - (i + 1) := by simp [CTk.laterL]
  by_cases hx : x < t.beg - (i + 1)
  · rw [List.getElem?_reverse (by omega), hl]
    unfold CTk.downL CTk.laterL
    rw [List.getElem?_map, List.getElem?_map, List.getElem?_range (by omega), List.getElem?_range hx]
    simp only [Option.map_some]
    congr 3
    omega
  · rw [List.getElem?_eq_none (by simp [hl]; omega), List.getElem?_eq_none (by omega)]
theorem beg_le {t : CTk} (ho : CtOk t) : t.beg ≤ 60 := by have := ho.n60; have := ho.dly; unfold CTk.beg CTk.last; omega
theorem all_ins {t : CTk} {p : CPl} (h : ∀ k, k < t.m → t.holds k p = true) : ∀ k i, k < t.m → i < t.n → (t.ins k p i).isSome = true := fun k i hk hi => by
  obtain ⟨x, hx, _⟩ := above_f.1 (holds_iff.1 (h k hk) i hi)
  rw [hx]; rfl
theorem nev_ins (t : CTk) : ∀ k i, k < t.m → i < t.n → (t.ins k nev i).isSome = true := fun k i _ _ => by
  unfold CTk.ins CTk.isOpen
  simp
theorem dec_0 {t : CTk} {r : CRu} (h : ruE t r = 0) (hc : t.called r = false) : t.decE r = 0 ∧ t.decD r = ⟨nev, t.peaks nev, []⟩ := by
  constructor
  · simp [CTk.decE, h, hc]
  · simp [CTk.decD, h, hc]
theorem dec_ru {t : CTk} {r : CRu} (h : ruE t r ≠ 0) : t.decE r = ruE t r ∧ t.decD r = CDe.zero := by
  unfold CTk.decE CTk.decD
  rw [if_pos h, if_pos h]
  exact ⟨rfl, rfl⟩
theorem dec_none {t : CTk} {r : CRu} (h : ruE t r = 0) (hc : t.called r = true) (hl : t.lastOk = none) : t.decE r = 9 ∧ t.decD r = CDe.zero := by
  constructor
  · simp [CTk.decE, h, hc, hl]
  · simp [CTk.decD, h, hc, hl]
theorem dec_some {t : CTk} {r : CRu} (h : ruE t r = 0) (hc : t.called r = true) {i : Nat} (hl : t.lastOk = some i) :
    t.decE r = (if t.may r (i : Nat) = true then 0 else 9) ∧ t.decD r = (if t.may r (i : Nat) = true then ⟨t.plan (i : Nat), t.peaks (t.plan (i : Nat)), t.laterL i⟩ else CDe.zero) := by
  constructor
  · simp [CTk.decE, h, hc, hl]
  · simp [CTk.decD, h, hc, hl]
end Go.Proofs.YtmpaiphakjogjaaGreat.Bs
namespace Go.Proofs.YtmpaiphakjogjaaGreat.X
open Go Go.RowKit Go.Proofs.YtmpaiphakjogjaaGreat.Bs
def decC (q1 q2 : SV) (d : CDe) : List Value := [.int .i64 d.plan.close, .int .i64 d.plan.open_, svV q1, svV q2]
def decV (q1 q2 : SV) (d : CDe) : Value := .agg ⟨decC q1 q2 d⟩
def DecR (t : CTk) (r : CRu) (x : Value) (new : List Held) : Prop := ∃ q1 q2 : SV, x = .tuple ⟨[decV q1 q2 (t.decD r), .int .i64 (t.decE r)]⟩ ∧ new = [hList pekK5 q1 (t.decD r).peaks, hList wtnK5 q2 (t.decD r).later]
theorem Fam.turn1 {α : Type} {K : Kind α} {W W' : World} {b0 : Nat} {ks : List Nat} {v : Value} {l l' : List α} {hs : List Held} (h : Fam W b0 ks [⟨α, K, v, l⟩] hs) (hsl : ∀ a, K.sl a = []) (hrow : W'.ownsRow b0 K.ty K.m v l'.length (l'.flatMap K.c)) (hsz : W.heap.size ≤ W'.heap.size)
    (ho : ∀ j, j < W.heap.size → v.ownBlock ≠ some j → W'.heap[j]? = W.heap[j]?) : Fam W' b0 ks [⟨α, K, v, l'⟩] hs := by
  have hm : (⟨α, K, v, l⟩ : RowX) ∈ [(⟨α, K, v, l⟩ : RowX)] := .head _
  have hf : ∀ j, Free W b0 ks [⟨α, K, v, l⟩] j → Free W' b0 ks [⟨α, K, v, l'⟩] j := fun j hj => ⟨hj.1, Nat.lt_of_lt_of_le hj.2.1 hsz, hj.2.2.1, fun r hr => by rw [List.mem_singleton.1 hr]; exact fun e => hj.2.2.2 _ hm e⟩
  refine ⟨Nat.le_trans h.base hsz, fun r hr => by rw [List.mem_singleton.1 hr]; exact hrow, fun r hr k hk => by rw [List.mem_singleton.1 hr] at hk; exact h.sep _ hm k hk, List.pairwise_singleton _ _, fun r hr a ha x hx => ?_, fun x hx => (x.keep (h.held x hx) fun j hj => ho j hj.2.1 fun e => hj.2.2.2 _ hm e) |> fun y => x.mono y hf⟩
  cases List.mem_singleton.1 hr
  have : x ∈ K.sl a := hx
  rw [hsl] at this
  cases this
section
variable {t : CTk} {v : CTV} {b0 g gm : Nat} {ks : List Nat} {hs : List Held} {w w' w0 : World} {L : Lo} {B : Nat}
variable {N : Nat} {ds : List Deferred} {Q : Exit → Act → World → Prop} {F : Fr} {ops : Array Oper} {rest : List Oper} {ty : TypeId} {p : String} {af : Array Edge}
theorem XL.callRev {d : Nat} {args : Array Operand} {ats : Array TypeId} {q : SV} {l : List II} (ha : evos F args.toList = some [svV q]) (hd : Nat.blt d N = true) (hG : Gam t v b0 g gm ks [⟨II, wtnK5, svV q, l⟩] hs w0) (hg : (g, gamO v t gm) ∈ L) (hl : l.length ≤ 1000)
    (k : ∀ w', Gam t v b0 g gm (L.map (·.1) ++ ks) [⟨II, wtnK5, svV q, l.reverse⟩] hs w' → Below b0 w0 w' → XL Tryz.prog N b0 w' ds Q ops rest ((d, .tuple #[]) :: F) L)
    (hL : ∀ e, e ∈ L → e.1 ∈ ks ∨ w0.heap.size ≤ e.1) :
    XL Tryz.prog N b0 w0 ds Q ops ({ dst := some d, op := .call { callee := .value (.func 49), args := args, argTypes := ats }, type := ty, pos := p, after := af, guard := none } :: rest) F L := by
  refine XL.callr (fst := []) (cap := []) (fun w x w' => x = .tuple #[] ∧ Gam t v b0 g gm (L.map (·.1) ++ ks) [⟨II, wtnK5, svV q, l.reverse⟩] hs w' ∧ Below b0 w w' ∧ ∀ e, e ∈ L → w'.heap[e.1]? = w.heap[e.1]?) (ck rfl) rfl ha hd (fun w S => ?_) (fun w x w' S hR => ?_)
  · have hA := hG.add S hg hL
    have hm : (⟨II, wtnK5, svV q, l⟩ : RowX) ∈ [(⟨II, wtnK5, svV q, l⟩ : RowX)] := .head _
    have hrow := hA.fam.row _ hm
    simp only [List.nil_append, List.append_nil]
    refine (rev_row hrow hl).mono fun e w' ⟨e1, e2, e3, e4, e5, e6, e7⟩ => ⟨_, e1, rfl, ?_, ?_, ?_⟩
    · have hb0 : b0 ≤ w.heap.size := hA.fam.base
      have hB : Below b0 w w' := ⟨e3, e4, e5, e6, fun j hj => e7 j (by omega) fun e => by have := (hA.fam.lt hm e).1; omega⟩
      have hsep : ∀ q', q' ∈ gm :: (L.map (·.1) ++ ks) → w'.heap[q']? = w.heap[q']? := fun q' hq' => e7 q' (hA.lt q' hq') fun e => hA.fam.sep _ hm q' e hq'
      refine ⟨hA.fam.turn1 (fun _ => rfl) (by rw [List.length_reverse]; exact e2) e6 e7, hA.nin, hA.gin, fun k hk => Nat.lt_of_lt_of_le (hA.lt k hk) e6, hA.bg, hA.bm, (hsep g (.tail _ hA.gin)).trans hA.game, hA.task.below hB, ?_⟩
      refine (hA.memo.keep (w' := w') fun j hj => ?_).mono fun j hj => ⟨hj.1, Nat.lt_of_lt_of_le hj.2.1 e6, hj.2.2.1, fun r hr => by rw [List.mem_singleton.1 hr]; exact fun e => hj.2.2.2 _ hm e⟩
      rcases hj with hj | rfl
      · exact e7 j hj.2.1 fun e => hj.2.2.2 _ hm e
      · exact hsep _ (.head _)
    · exact ⟨e3, e4, e5, e6, fun j hj => e7 j (Nat.lt_of_lt_of_le hj hA.fam.base) fun e => by have := (hA.fam.lt hm e).1; omega⟩
    · intro e he
      have hmem : e.1 ∈ gm :: (L.map (·.1) ++ ks) := .tail _ (List.mem_append_left _ (List.mem_map.2 ⟨e, he, rfl⟩))
      exact e7 e.1 (hA.lt e.1 hmem) fun e1 => hA.fam.sep _ hm e.1 e1 hmem
  · obtain ⟨rfl, hG', hB, hsame⟩ := hR
    have S' : Sys b0 w' L w' := Sys.start hG'.fam.base (fun e he => ⟨(S.own e he).1, by rw [hsame e he]; exact (S.own e he).2⟩) S.nd
    exact ⟨L, w', S', k w' hG' (S.toBelow.trans hB)⟩
end
end Go.Proofs.YtmpaiphakjogjaaGreat.X
namespace Go.Proofs.YtmpaiphakjogjaaGreat.X
open Go Go.RowKit Go.Proofs.YtmpaiphakjogjaaGreat.Bs
theorem decZ {t : CTk} {r : CRu} {e : Int} (h1 : t.decE r = e) (h2 : t.decD r = CDe.zero) {w w' : World} (hB : Below w.heap.size w w') :
    Made w (DecR t r) (.returned (.tuple ⟨[.agg ⟨[.int .i64 0, .int .i64 0, .slice none 0 0, .slice none 0 0]⟩, .int .i64 e]⟩)) w' := by
  refine ⟨_, _, rfl, ⟨⟨none, 0, 0⟩, ⟨none, 0, 0⟩, by rw [h1, h2]; rfl, rfl⟩, fun x hx => ?_, hB⟩
  rw [h2] at hx
  simp only [List.mem_cons, List.not_mem_nil, or_false] at hx
  rcases hx with rfl | rfl
  · exact ListAt.nil
  · exact ListAt.nil
set_option maxHeartbeats 16000000 in
theorem Decide_made {v : CTV} {t : CTk} {r : CRu} {w : World} (h : CtAt w w.heap.size v t) :
    Calls Tryz.prog 14 #[ctkV v t, ruV r] w (Made w (DecR t r)) := by
  simp only [ctkV, ctkC, ruV]
  refine enterM Tryz.func14 rfl Tryz.ntmps14 rfl ?_; simp only [frame, Nat.zero_add, Nat.reduceAdd]
  repeat (first | (refine M0 ?_; first | refine SL ?_ | refine SB fun _ _ => ?_) | (refine M1 ?_; refine SC ?_) | (refine M2 ?_; refine SE ?_))
  rename_i g2 hg2 g3 hg3 g4 hg4 g5 hg5
  refine XL.with5 (v := v) (t := t) (r := r) h rfl rfl (fun hc w1 hB1 => ?_) (fun hc ho hq w1 gr g gm hG1 hB1 hgl hgrl => ?_)
  · obtain ⟨d1, d2⟩ := dec_ru hc
    repeat (first | (refine M0 ?_; first | refine SL ?_ | refine SB fun _ _ => ?_) | (refine M1 ?_; refine SC ?_) | (refine M2 ?_; refine SE ?_))
    rw [show decide (ruE t r ≠ 0) = true from decide_eq_true hc]
    repeat (first | (refine M0 ?_; first | refine SL ?_ | refine SB fun _ _ => ?_) | (refine M1 ?_; refine SC ?_) | (refine M2 ?_; refine SE ?_))
    refine XE.retM0 tok Tryz.results14 rfl (by simp only [and_self, and_true]) (fun w' S => ?_)
    exact decZ d1 d2 (hB1.trans S.toBelow)
  have hal := fun {L : Lo} {W : World} (hGW : CtAt W w.heap.size v t) (w5 : World) (S5 : Sys w.heap.size W L w5) (m1 : (gr, rulO g r) ∈ L) (m2 : (g, gamO v t gm) ∈ L) => allowed_any (r := r) ((hGW.below S5.toBelow).more (Nat.le_trans S5.base S5.size)) ho hq (S5.own _ m1).2 (S5.own _ m2).2
  have hgs1 : g ∈ gr :: g :: [(g5, cel 35 [.int .i64 0]), (g4, cel 46 [.int .i64 0, .int .i64 0, .slice none 0 0, .slice none 0 0]), (g3, cel 31 [.int .i64 r.count, .int .i64 r.early]), (g2, cel 29 (ctkC v t))].map (·.1) := .tail _ (.head _)
  have h60 := ho.n60
  have hdl := ho.dly
  have hfr := ho.frm
  have hm8 := ho.m8
  simp only [gamO, gamC, rulO, rulC]
  repeat (first | (refine M0 ?_; first | refine SL ?_ | refine SB fun _ _ => ?_) | (refine M1 ?_; refine SC ?_) | (refine M2 ?_; refine SE ?_))
  rename_i g6 hg6
  have hle : w.heap.size ≤ w.heap.size := Nat.le_refl _
  have hz1 := hB1.size
  repeat (first | (refine M0 ?_; first | refine SL ?_ | refine SB fun _ _ => ?_ | refine Y4 (Ev.call (f := 45) (ck rfl) rfl (fun w5 S5 => hal hG1.task w5 S5 (.tail _ (.head _)) (.tail _ (.tail _ (.head _))))) ?_) | (refine M1 ?_; refine SC ?_) | (refine M2 ?_; refine SE ?_))
  cases hcl : t.called r with
  | false =>
    obtain ⟨d1, d2⟩ := dec_0 hc hcl
    repeat (first | (refine M0 ?_; first | refine SL ?_ | refine SB fun _ _ => ?_) | (refine M1 ?_; refine SC ?_) | (refine M2 ?_; refine SE ?_))
    refine XC.drawRS (trunc w w.heap.size) [(g6, cel 89 [.pointer (some ⟨gr, 0, none⟩)])] [1] [0, 2, 3, 4, 5, 6] mixed (fun _ h => Sys.anchorT hB1 h (fun e he => by rw [List.mem_singleton.1 he]; exact .head _) (by simp) hle) rfl (by kernel_rfl) ?_
    repeat (any_goals (first | (refine M0 ?_; first | refine SL ?_ | refine SB fun _ _ => ?_ | refine Y4 (Ev.load_loc tok 0 (g := g6) (o := 0) rfl rfl rfl rfl) ?_ | refine Y4 (Ev.call (f := 46) (ck rfl) rfl (fun w S => nev_any w)) ?_ | (refine XL.at_call 47 ?_; refine XL.callJ (PksX t nev) (ck rfl) rfl rfl hG1 (by repeat (first | exact List.mem_cons_self | apply List.mem_cons_of_mem)) (fun w5 ks2 S5 hL5 hG5 => peaks_any hG5 ho (S5.own (gr, rulO g r) (by repeat (first | exact List.mem_cons_self | apply List.mem_cons_of_mem))).2 (hL5 (gr, rulO g r) (by repeat (first | exact List.mem_cons_self | apply List.mem_cons_of_mem))) hgrl (nev_ok t) (nev_ins t)) (fun w5 x new hR hG5 hB5 => ?_) ZZMK; obtain ⟨q, rfl, rfl⟩ := hR; simp only [svV]; have hB15 : Below w.heap.size w w5 := hB1.trans hB5)) | (refine M1 ?_; refine SC ?_) | (refine M2 ?_; first | refine SE ?_ | ((with_reducible refine atHeld ?_); refine z7 ?_)) | (refine M3 ?_; first | refine SG ?_ | refine SF ?_ | refine YF (Ev.load_loc tok 0 (g := g6) (o := 0) rfl rfl rfl rfl) ?_ | refine YF (Ev.call (f := 46) (ck rfl) rfl (fun w S => nev_any w)) ?_) | (refine M4 ?_; refine SR ?_) | (refine M5 ?_; first | exact M7 | refine YM ?_ | refine YN ?_ ?_)))
    any_goals (repeat (first | exact AnyR.nil | refine AnyR.skip rfl ?_))
    all_goals
      refine XE.retM0 tok Tryz.results14 rfl (by simp only [and_self, and_true]) (fun w' S => ?_)
      refine ⟨_, _, rfl, ⟨q, ⟨none, 0, 0⟩, by rw [d1, d2]; rfl, rfl⟩, fun x hx => ?_, hB15.trans S.toBelow⟩
      rw [d2] at hx
      simp only [List.mem_cons, List.not_mem_nil, or_false] at hx
      rcases hx with rfl | rfl
      · exact (hG5.sys S (by repeat (first | exact List.mem_cons_self | apply List.mem_cons_of_mem)) ZZMK).fam.get (.head _)
      · exact ListAt.nil
  | true =>
  repeat (first | (refine M0 ?_; first | refine SL ?_ | refine SB fun _ _ => ?_ | refine Y4 (Ev.load_loc tok 2 (g := gr) (o := 0) rfl rfl rfl rfl) ?_) | (refine M1 ?_; refine SC ?_) | (refine M2 ?_; refine SE ?_))
  rename_i g10 hg10
  refine XL.callr (fst := []) (cap := []) (fun w1 x w2 => ∃ gp, x = .func (.func 73) #[] #[.pointer (some ⟨gp, 0, none⟩)] ∧ Sys w1.heap.size w1 [(gp, cel 74 [.pointer (some ⟨g, 0, none⟩)])] w2) (ck rfl) rfl rfl rfl (fun w1 S1 => begs0_any) (fun wX x w2 S1 hR => ?_)
  obtain ⟨gp, rfl, S2⟩ := hR
  refine ⟨_, w2, (S1.join S2 (List.Sublist.refl _)).rebase (List.sublist_cons_self _ _), ?_⟩
  have hB2 : Below w.heap.size w w2 := hB1.trans (S1.toBelow.trans (S2.toBelow.mono (Nat.le_trans S1.base S1.size)))
  have hgpL : ∀ x, x ∈ [g10, g6, gr, g, g5, g4, g3, g2] → x < gp := fun x hx => Nat.lt_of_lt_of_le (S1.keyLt x hx) (S2.own _ (.head _)).1
  have hn106 : g10 ≠ g6 := by
    have := S1.nd
    simp only [List.map_cons, List.nodup_cons, List.mem_cons, not_or] at this
    exact this.1.1
  have hgpc : w2.cell? ⟨gp, 0, none⟩ = some (.pointer (some ⟨g, 0, none⟩)) := by
    have := (S2.own _ (.head _)).2
    simp [World.cell?, this]
  have hgpl : gp < w2.heap.size := S2.lt (.head _)
  have hG2 : Gam t v w.heap.size g gm [g10, g6, gr, g, g5, g4, g3, g2] [⟨II, wtnK5, .slice none 0 0, []⟩] [] w2 := by
    have h1 := (hG1.add S1 (by repeat (first | exact List.mem_cons_self | apply List.mem_cons_of_mem)) ZZMK).made (new := []) S2.toBelow (fun x hx => by cases hx)
    exact (h1.less (fun x hx => List.mem_append_left _ hx) (by simp)).nil wtnK5
  clear S1 S2
  repeat (first | (refine M0 ?_; first | refine SL ?_ | refine SB fun _ _ => ?_) | (refine M1 ?_; refine SC ?_) | (refine M2 ?_; refine SE ?_))
  refine XC.rangeFuncD (cap := [.pointer (some ⟨gp, 0, none⟩)]) rfl (ck rfl) (fun fn a D w3 hD hf S3 => ?_)
  have hfS : Fits 76 [] [(10, .pointer (some ⟨g10, 0, none⟩)), (6, .pointer (some ⟨g6, 0, none⟩)), (5, .pointer (some ⟨g5, 0, none⟩)), (4, .pointer (some ⟨g4, 0, none⟩))] { tmps := a.tmps, defers := [] } := by
    have h4 := Sub.fits (G := [(10, .pointer (some ⟨g10, 0, none⟩)), (6, .pointer (some ⟨g6, 0, none⟩)), (5, .pointer (some ⟨g5, 0, none⟩)), (4, .pointer (some ⟨g4, 0, none⟩))]) ZZSUB hf
    exact ⟨h4.size, rfl, h4.get⟩
  have hG3 : Gam t v w.heap.size g gm [D + 1, D, g10, g6, gr, g, g5, g4, g3, g2] [⟨II, wtnK5, .slice none 0 0, []⟩] [] w3 := by
    have h1 := hG2.add S3 (by repeat (first | exact List.mem_cons_self | apply List.mem_cons_of_mem)) (fun e he => by
      have h5 : e.1 ∈ [D + 1, D, g10, g6, gr, g, g5, g4, g3, g2] := List.mem_map.2 ⟨e, he, rfl⟩
      rcases List.mem_cons.1 h5 with h5 | h5
      · right; omega
      rcases List.mem_cons.1 h5 with h5 | h5
      · right; omega
      · left; exact h5)
    exact h1.less (fun x hx => List.mem_append_left _ hx) (by simp)
  have hB3 : Below w.heap.size w w3 := hB2.trans S3.toBelow
  have hbg := begs_any (B := w.heap.size) (l := D + 1) (gp := gp) (g := g) (gm := gm) (v := v) (t := t) (σ := World × SV × Option (List Value × Int))
    (fun s => [(D + 1, .loop (recO fn a.tmps #[42] _ _ D (match s.2.2 with | none => .ready | some _ => .done) (match s.2.2 with | none => none | some _ => some .ret))), (D, .deferred (some [])), (g10, cel 44 [svV s.2.1]), (g6, cel 89 [.pointer (some ⟨gr, 0, none⟩)]), (gr, rulO g r), (g, gamO v t gm), (g5, cel 35 [.int .i64 (match s.2.2 with | none => 0 | some x => x.2)]), (g4, cel 46 (match s.2.2 with | none => [.int .i64 0, .int .i64 0, .slice none 0 0, .slice none 0 0] | some x => x.1)), (g3, cel 31 [.int .i64 r.count, .int .i64 r.early]), (g2, cel 29 (ctkC v t))])
    (fun s => s.1)
    (fun i s => s.2.2 = none ∧ Gam t v w.heap.size g gm [D + 1, D, g10, g6, gr, g, g5, g4, g3, g2] [⟨II, wtnK5, svV s.2.1, t.downL i⟩] [] s.1 ∧ Below w.heap.size w s.1 ∧ ∀ j, i ≤ j → j < t.beg → t.wit (j : Nat) ≠ none)
    (fun s => ∃ cs e q1 q2, s.2.2 = some (cs, e) ∧ Below w.heap.size w s.1 ∧ cs = decC q1 q2 (t.decD r) ∧ e = t.decE r ∧ Fam s.1 w.heap.size [D + 1, D, g10, g6, gr, g, g5, g4, g3, g2] [] [hList pekK5 q1 (t.decD r).peaks, hList wtnK5 q2 (t.decD r).later])
    (w3, ⟨none, 0, 0⟩, none) ho (S3.rebase (List.Sublist.refl _)) ⟨rfl, by rw [downL_0]; exact hG3, hB3, fun j h1 h2 => by omega⟩ ?_ ?_ ?_ ?_ ?_
  rotate_left
  · have h := S3.farCell (a := ⟨gp, 0, none⟩) hgpl (fun e he => by
      have h5 : e.1 ∈ [D + 1, D, g10, g6, gr, g, g5, g4, g3, g2] := List.mem_map.2 ⟨e, he, rfl⟩
      show e.1 ≠ gp
      rcases List.mem_cons.1 h5 with h5 | h5
      · omega
      rcases List.mem_cons.1 h5 with h5 | h5
      · omega
      · have := hgpL e.1 h5; omega)
    exact h.trans hgpc
  · exact Nat.lt_of_lt_of_le hgpl S3.size
  · intro e he
    have h5 : e.1 ∈ [D + 1, D, g10, g6, gr, g, g5, g4, g3, g2] := List.mem_map.2 ⟨e, he, rfl⟩
    rcases List.mem_cons.1 h5 with h5 | h5
    · omega
    rcases List.mem_cons.1 h5 with h5 | h5
    · omega
    · have := hgpL e.1 h5; omega
  · repeat (first | exact List.mem_cons_self | apply List.mem_cons_of_mem)
  · rintro i ⟨W, q, s⟩ hi ⟨rfl, hGW, hBW, hJ⟩ w1' S1
    simp only at hGW hBW hJ S1
    have hloop := (S1.own _ (.head _)).2
    refine ⟨_, _, _, _, run_yield (args := #[.int .i64 (i : Nat)]) hloop rfl, ?_⟩
    refine round_of (hfS.one5 rfl) S1 ?_
    clear hloop
    have hil : (i : Int) ≤ t.last := by unfold CTk.beg at hi; omega
    have hl1 : -31 ≤ t.last ∧ t.last ≤ 60 := by unfold CTk.last; omega
    simp only [gamO, gamC, ctkC, rulO, rulC, svV]
    repeat (first | (refine M0 ?_; first | refine SL ?_ | refine SB fun _ _ => ?_) | (refine XI.id ?_; first | refine XI.done ?_ | refine XI.one1 rfl ?_) | (refine XR'.id ?_; first | refine XR'.seq ?_ | refine XR'.region ?_ | refine XR'.block ?_ | refine XR'.skip ?_ | refine XR'.ret ?_ | refine XR'.cond_t rfl ?_ | refine XR'.cond_f rfl ?_ | refine XR'.exit ?_) | (refine M1 ?_; first | refine SC ?_ | refine SD ?_) | (refine M2 ?_; first | refine XE.nextI ?_ | refine XE.nextR ?_ | refine SE ?_))
    refine XE.begin (i := 0) rfl rfl rfl ?_
    repeat (first | (refine M0 ?_; first | refine SL ?_ | refine SB fun _ _ => ?_) | (refine XI.id ?_; first | refine XI.done ?_ | refine XI.one1 rfl ?_) | (refine XR'.id ?_; first | refine XR'.seq ?_ | refine XR'.region ?_ | refine XR'.block ?_ | refine XR'.skip ?_ | refine XR'.ret ?_ | refine XR'.cond_t rfl ?_ | refine XR'.cond_f rfl ?_ | refine XR'.exit ?_) | (refine M1 ?_; first | refine SC ?_ | refine SD ?_) | (refine M2 ?_; first | refine XE.nextI ?_ | refine XE.nextR ?_ | refine SE ?_))
    repeat (first | (refine M0 ?_; first | refine SL ?_ | refine SB fun _ _ => ?_ | refine Y4 (Ev.load_loc tok 3 (g := g6) (o := 0) rfl rfl rfl rfl) ?_) | (refine XI.id ?_; first | refine XI.done ?_ | refine XI.one1 rfl ?_) | (refine XR'.id ?_; first | refine XR'.seq ?_ | refine XR'.region ?_ | refine XR'.block ?_ | refine XR'.skip ?_ | refine XR'.ret ?_ | refine XR'.cond_t rfl ?_ | refine XR'.cond_f rfl ?_ | refine XR'.exit ?_) | (refine M1 ?_; first | refine SC ?_ | refine SD ?_) | (refine M2 ?_; first | refine XE.nextI ?_ | refine XE.nextR ?_ | refine SE ?_))
    refine XL.callJ (WitX t (i : Nat)) (ck rfl) rfl rfl hGW (by repeat (first | exact List.mem_cons_self | apply List.mem_cons_of_mem)) (fun w5 ks2 S5 hL5 hG5 => witness_any hG5 ho (S5.own (gr, rulO g r) (by repeat (first | exact List.mem_cons_self | apply List.mem_cons_of_mem))).2 (hL5 (gr, rulO g r) (by repeat (first | exact List.mem_cons_self | apply List.mem_cons_of_mem))) hgrl hil) (fun w5 x new hR hG5 hB5 => ?_) ZZMK
    obtain ⟨rfl, rfl⟩ := hR
    have hBW5 : Below w.heap.size w w5 := hBW.trans hB5
    simp only [iiV]
    have hbl := beg_le ho
    cases hwt : t.wit (i : Nat) with
    | some y =>
      repeat (first | (refine M0 ?_; first | refine SL ?_ | refine SB fun _ _ => ?_) | (refine XI.id ?_; first | refine XI.done ?_ | refine XI.one1 rfl ?_) | (refine XR'.id ?_; first | refine XR'.seq ?_ | refine XR'.region ?_ | refine XR'.block ?_ | refine XR'.skip ?_ | refine XR'.ret ?_ | refine XR'.cond_t rfl ?_ | refine XR'.cond_f rfl ?_ | refine XR'.exit ?_) | (refine M1 ?_; first | refine SC ?_ | refine SD ?_) | (refine M2 ?_; first | refine XE.nextI ?_ | refine XE.nextR ?_ | refine SE ?_))
      rename_i g12 hg12
      repeat (first | (refine M0 ?_; first | refine SL ?_ | refine SB fun _ _ => ?_ | refine Y4 (Ev.load_loc tok 3 (g := g10) (o := 0) rfl rfl rfl rfl) ?_ | refine XL.buildSlice tok rfl rfl rfl rfl rfl rfl rfl rfl rfl (fun _ _ => ?_)) | (refine XI.id ?_; first | refine XI.done ?_ | refine XI.one1 rfl ?_) | (refine XR'.id ?_; first | refine XR'.seq ?_ | refine XR'.region ?_ | refine XR'.block ?_ | refine XR'.skip ?_ | refine XR'.ret ?_ | refine XR'.cond_t rfl ?_ | refine XR'.cond_f rfl ?_ | refine XR'.exit ?_) | (refine M1 ?_; first | refine SC ?_ | refine SD ?_) | (refine M2 ?_; first | refine XE.nextI ?_ | refine XE.nextR ?_ | refine SE ?_))
      rename_i g53 hg53
      refine XL.pushG (K := wtnK5) (a := t.witC (i : Nat)) 0 wtn5_el (by decide) rfl rfl rfl hG5 (by repeat (first | exact List.mem_cons_self | apply List.mem_cons_of_mem)) rfl (.head _) rfl (fun _ => rfl) (by rw [downL_len]; omega) (by decide) (fun w6 r6 hG6 hB6 => ?_) ZZMK
      rw [← downL_push hi] at hG6
      simp only [svV]
      repeat (first | (refine M0 ?_; first | refine SL ?_ | refine SB fun _ _ => ?_ | refine XL.store_at tok 4 (g := g10) (o := 0) (j := 0) (cs := [.slice q.A q.n q.c]) rfl rfl rfl rfl rfl (Nat.le_of_ble_eq_true rfl) rfl ?_) | (refine XI.id ?_; first | refine XI.done ?_ | refine XI.one1 rfl ?_) | (refine XR'.id ?_; first | refine XR'.seq ?_ | refine XR'.region ?_ | refine XR'.block ?_ | refine XR'.skip ?_ | refine XR'.ret ?_ | refine XR'.cond_t rfl ?_ | refine XR'.cond_f rfl ?_ | refine XR'.exit ?_) | (refine M1 ?_; first | refine SC ?_ | refine SD ?_) | (refine M2 ?_; first | refine XE.nextI ?_ | refine XE.nextR ?_ | refine SE ?_))
      refine XE.endR (i := 2) rfl rfl (fun w' S => ?_)
      refine ⟨_, rfl, .inl ⟨rfl, (w', r6, none), ⟨rfl, ?_, (hBW5.trans hB6).trans S.toBelow, fun j h3 h4 => ?_⟩, S.rebase ZZSM⟩⟩
      · exact hG6.on S (by repeat (first | exact List.mem_cons_self | apply List.mem_cons_of_mem)) ZZMK ZZSB (by simp) (fun x hx => by cases hx)
      · rcases Nat.lt_or_ge i j with h5 | h5
        · exact hJ j h5 h4
        · have : i = j := by omega
          subst this
          rw [hwt]; simp
    | none =>
      have hlo : t.lastOk = some i := lastOk_some.2 ⟨hil, hwt, fun j h3 h4 => hJ j (by omega) (beg_lt.2 h4)⟩
      obtain ⟨d1, d2⟩ := dec_some hc hcl hlo
      have hml := fun {L : Lo} (w9 : World) (S9 : Sys w.heap.size w5 L w9) (m1 : (gr, rulO g r) ∈ L) (m2 : (g, gamO v t gm) ∈ L) => may_any (r := r) (i := (i : Nat)) ((hG5.task.below S9.toBelow).more (Nat.le_trans S9.base S9.size)) ho hq (S9.own _ m1).2 (S9.own _ m2).2
      repeat (first | (refine M0 ?_; first | refine SL ?_ | refine SB fun _ _ => ?_) | (refine XI.id ?_; first | refine XI.done ?_ | refine XI.one1 rfl ?_) | (refine XR'.id ?_; first | refine XR'.seq ?_ | refine XR'.region ?_ | refine XR'.block ?_ | refine XR'.skip ?_ | refine XR'.ret ?_ | refine XR'.cond_t rfl ?_ | refine XR'.cond_f rfl ?_ | refine XR'.exit ?_) | (refine M1 ?_; first | refine SC ?_ | refine SD ?_) | (refine M2 ?_; first | refine XE.nextI ?_ | refine XE.nextR ?_ | refine SE ?_))
      rename_i g12 hg12
      repeat (first | (refine M0 ?_; first | refine SL ?_ | refine SB fun _ _ => ?_ | refine Y4 (Ev.load_loc tok 4 (g := g6) (o := 0) rfl rfl rfl rfl) ?_ | refine Y4 (Ev.call (f := 42) (ck rfl) rfl (fun w9 S9 => hml w9 S9 (by repeat (first | exact List.mem_cons_self | apply List.mem_cons_of_mem)) (by repeat (first | exact List.mem_cons_self | apply List.mem_cons_of_mem)))) ?_) | (refine XI.id ?_; first | refine XI.done ?_ | refine XI.one1 rfl ?_) | (refine XR'.id ?_; first | refine XR'.seq ?_ | refine XR'.region ?_ | refine XR'.block ?_ | refine XR'.skip ?_ | refine XR'.ret ?_ | refine XR'.cond_t rfl ?_ | refine XR'.cond_f rfl ?_ | refine XR'.exit ?_) | (refine M1 ?_; first | refine SC ?_ | refine SD ?_) | (refine M2 ?_; first | refine XE.nextI ?_ | refine XE.nextR ?_ | refine SE ?_))
      cases hmy : t.may r (i : Nat) with
      | false =>
        rw [hmy] at d1 d2
        repeat (first | (refine M0 ?_; first | refine SL ?_ | refine SB fun _ _ => ?_ | refine XL.store tok 8 (g := g4) (o := 0) (cs := [.int .i64 0, .int .i64 0, .slice none 0 0, .slice none 0 0]) rfl rfl rfl rfl (.inr rfl) rfl rfl rfl ?_ | refine XL.store_at tok 7 (g := g5) (o := 0) (j := 0) (cs := [.int .i64 0]) rfl rfl rfl rfl rfl (Nat.le_of_ble_eq_true rfl) rfl ?_) | (refine XI.id ?_; first | refine XI.done ?_ | refine XI.one1 rfl ?_) | (refine XR'.id ?_; first | refine XR'.seq ?_ | refine XR'.region ?_ | refine XR'.block ?_ | refine XR'.skip ?_ | refine XR'.ret ?_ | refine XR'.cond_t rfl ?_ | refine XR'.cond_f rfl ?_ | refine XR'.exit ?_) | (refine M1 ?_; first | refine SC ?_ | refine SD ?_) | (refine M2 ?_; first | refine XE.nextI ?_ | refine XE.nextR ?_ | refine SE ?_))
        refine XE.endRet (i := 1) rfl rfl (fun w' S => ?_)
        refine ⟨_, rfl, .inr ⟨rfl, (w', q, some ([.int .i64 0, .int .i64 0, .slice none 0 0, .slice none 0 0], 9)), ⟨_, _, ⟨none, 0, 0⟩, ⟨none, 0, 0⟩, rfl, hBW5.trans S.toBelow, by rw [d2]; rfl, by rw [d1]; rfl, ?_⟩, S.rebase ZZSM⟩⟩
        rw [d2]
        exact ((Fam.start (hBW5.trans S.toBelow).size).hold (ok := fun _ => False) (x := hList wtnK5 ⟨none, 0, 0⟩ []) ListAt.nil (fun _ h => h.elim)).hold (ok := fun _ => False) (x := hList pekK5 ⟨none, 0, 0⟩ []) ListAt.nil (fun _ h => h.elim)
      | true =>
        rw [hmy] at d1 d2
        repeat (first | (refine M0 ?_; first | refine SL ?_ | refine SB fun _ _ => ?_ | refine Y4 (Ev.load_loc tok 3 (g := g10) (o := 0) rfl rfl rfl rfl) ?_) | (refine XI.id ?_; first | refine XI.done ?_ | refine XI.one1 rfl ?_) | (refine XR'.id ?_; first | refine XR'.seq ?_ | refine XR'.region ?_ | refine XR'.block ?_ | refine XR'.skip ?_ | refine XR'.ret ?_ | refine XR'.cond_t rfl ?_ | refine XR'.cond_f rfl ?_ | refine XR'.exit ?_) | (refine M1 ?_; first | refine SC ?_ | refine SD ?_) | (refine M2 ?_; first | refine XE.nextI ?_ | refine XE.nextR ?_ | refine SE ?_))
        have hst : t.strange (t.plan (i : Nat)) = false := (plan_ok ho (Int.natCast_nonneg i) hil).1
        have hal2 := all_ins (wit_none.1 hwt)
        refine XL.callRev rfl rfl hG5 (by repeat (first | exact List.mem_cons_self | apply List.mem_cons_of_mem)) (by rw [downL_len]; omega) (fun w6 hG6 hB6 => ?_) ZZMK
        rw [downL_rev hi] at hG6
        have hG6 := hG6.freeze
        have hBW6 : Below w.heap.size w w6 := hBW5.trans hB6
        have hpl := fun {L : Lo} {B : Nat} {W1 : World} (w9 : World) (S9 : Sys B W1 L w9) (hm : (g, gamO v t gm) ∈ L) => plan_any (v := v) (t := t) (gm := gm) (i := (i : Nat)) (S9.own _ hm).2 ho ⟨by omega, by omega⟩
        repeat (first | (refine M0 ?_; first | refine SL ?_ | refine SB fun _ _ => ?_ | refine Y4 (Ev.load_loc tok 4 (g := g6) (o := 0) rfl rfl rfl rfl) ?_ | refine Y4 (Ev.load_loc tok 5 (g := gr) (o := 0) rfl rfl rfl rfl) ?_ | refine Y4 (Ev.call (f := 33) (ck rfl) rfl (fun w9 S9 => hpl w9 S9 (by repeat (first | exact List.mem_cons_self | apply List.mem_cons_of_mem)))) ?_) | (refine XI.id ?_; first | refine XI.done ?_ | refine XI.one1 rfl ?_) | (refine XR'.id ?_; first | refine XR'.seq ?_ | refine XR'.region ?_ | refine XR'.block ?_ | refine XR'.skip ?_ | refine XR'.ret ?_ | refine XR'.cond_t rfl ?_ | refine XR'.cond_f rfl ?_ | refine XR'.exit ?_) | (refine M1 ?_; first | refine SC ?_ | refine SD ?_) | (refine M2 ?_; first | refine XE.nextI ?_ | refine XE.nextR ?_ | refine SE ?_))
        rename_i g14 hg14
        have hz6 := hB6.size
        have hz5 := hB5.size
        have l10 : g10 < W.heap.size := hGW.lt g10 (by simp)
        have l6 : g6 < W.heap.size := hGW.lt g6 (by simp)
        refine XR'.drawRS (trunc w w.heap.size) [(g14, cel 42 [.int .i64 (t.plan (i : Nat)).close, .int .i64 (t.plan (i : Nat)).open_]), (g10, cel 44 [.slice q.A q.n q.c]), (g6, cel 89 [.pointer (some ⟨gr, 0, none⟩)])] [0, 1, 2, 4] [3, 5, 6, 7] mixed (fun _ h => Sys.anchorT hBW6 h (by intro e he; repeat (first | (cases he; done) | (rcases List.mem_cons.1 he with rfl | he; · repeat (first | exact List.mem_cons_self | apply List.mem_cons_of_mem)))) (by simp; omega) hle) rfl rfl (by kernel_rfl) ?_
        repeat (any_goals (first | (refine M0 ?_; first | refine SL ?_ | refine SB fun _ _ => ?_ | refine Y4 (Ev.load_loc_agg tok 0 (g := g14) (o := 0) rfl rfl rfl rfl) ?_ | refine Y4 (Ev.load_loc tok 1 (g := g10) (o := 0) rfl rfl rfl rfl) ?_ | refine Y4 (Ev.load_loc tok 2 (g := g6) (o := 0) rfl rfl rfl rfl) ?_ | (refine XL.at_call 47 ?_; refine XL.callJ (PksX t (t.plan (i : Nat))) (ck rfl) rfl rfl hG6 (by repeat (first | exact List.mem_cons_self | apply List.mem_cons_of_mem)) (fun w9 ks2 S9 hL9 hG9 => peaks_any hG9 ho (S9.own (gr, rulO g r) (by repeat (first | exact List.mem_cons_self | apply List.mem_cons_of_mem))).2 (hL9 (gr, rulO g r) (by repeat (first | exact List.mem_cons_self | apply List.mem_cons_of_mem))) hgrl hst hal2) (fun w9 x new hR hG9 hB9 => ?_) ZZMK; obtain ⟨q9, rfl, rfl⟩ := hR; simp only [svV]; have hBW9 : Below w.heap.size w w9 := hBW6.trans hB9) | refine XL.store tok 9 (g := g4) (o := 0) (cs := [.int .i64 0, .int .i64 0, .slice none 0 0, .slice none 0 0]) rfl rfl rfl rfl (.inr rfl) rfl rfl rfl ?_ | refine XL.store_at tok 8 (g := g5) (o := 0) (j := 0) (cs := [.int .i64 0]) rfl rfl rfl rfl rfl (Nat.le_of_ble_eq_true rfl) rfl ?_) | (refine M1 ?_; refine SC ?_) | (refine M2 ?_; first | refine SE ?_ | ((with_reducible refine atHeld ?_); refine z7 ?_)) | (refine M3 ?_; first | refine SG ?_ | refine SF ?_ | refine YF (Ev.load_loc_agg tok 0 (g := g14) (o := 0) rfl rfl rfl rfl) ?_ | refine YF (Ev.load_loc tok 1 (g := g10) (o := 0) rfl rfl rfl rfl) ?_ | refine YF (Ev.load_loc tok 2 (g := g6) (o := 0) rfl rfl rfl rfl) ?_) | (refine M4 ?_; refine SR ?_) | (refine M5 ?_; first | exact M7 | refine YM ?_ | refine YN ?_ ?_)))
        any_goals (repeat (first | exact AnyR.nil | refine AnyR.skip rfl ?_))
        all_goals
          refine XE.onlyN ?_
          repeat (first | (refine M0 ?_; first | refine SL ?_ | refine SB fun _ _ => ?_) | (refine XI.id ?_; first | refine XI.done ?_ | refine XI.one1 rfl ?_) | (refine XR'.id ?_; first | refine XR'.seq ?_ | refine XR'.region ?_ | refine XR'.block ?_ | refine XR'.skip ?_ | refine XR'.ret ?_ | refine XR'.cond_t rfl ?_ | refine XR'.cond_f rfl ?_ | refine XR'.exit ?_) | (refine M1 ?_; first | refine SC ?_ | refine SD ?_) | (refine M2 ?_; first | refine XE.nextI ?_ | refine XE.nextR ?_ | refine SE ?_))
          refine XE.endRet (i := 2) rfl rfl (fun w' S => ?_)
          refine ⟨_, rfl, .inr ⟨rfl, (w', q, some ([.int .i64 (t.plan (i : Nat)).close, .int .i64 (t.plan (i : Nat)).open_, .slice q9.A q9.n q9.c, .slice q.A q.n q.c], 0)), ⟨_, _, q9, q, rfl, hBW9.trans S.toBelow, by rw [d2]; rfl, by rw [d1]; rfl, ?_⟩, S.rebase ZZSM⟩⟩
          rw [d2]
          exact Fam.add (ks' := [D + 1, D, g10, g6, gr, g, g5, g4, g3, g2]) (hG9.on (ks := [D + 1, D, g10, g6, gr, g, g5, g4, g3, g2]) S (by repeat (first | exact List.mem_cons_self | apply List.mem_cons_of_mem)) ZZMK ZZSB (by simp) (fun x hx => hx)).fam (fun x hx => .inl (.tail _ hx))
  refine hbg.mono fun e w4 ⟨v4, e4, hz⟩ => ⟨v4, e4, ?_⟩
  rcases hz with ⟨⟨W, q, s⟩, ⟨rfl, hGW, hBW, hall⟩, S4⟩ | ⟨⟨W, q, s⟩, ⟨cs, e, q1, q2, rfl, hBW, rfl, rfl, hF⟩, S4⟩
  · refine ⟨.ready, none, _, W, by decide, S4, ?_⟩
    dsimp only [RFEnd]
    have hlo : t.lastOk = none := lastB_none.2 fun j hj => by
      have := hall j (Nat.zero_le _) hj
      cases hx : t.wit (j : Nat) with
      | none => exact absurd hx this
      | some y => rfl
    obtain ⟨d1, d2⟩ := dec_none hc hcl hlo
    repeat (first | (refine M0 ?_; first | refine SL ?_ | refine SB fun _ _ => ?_) | (refine M1 ?_; refine SC ?_) | (refine M2 ?_; refine SE ?_))
    refine XE.retM (i := 1) tok Tryz.results14 rfl rfl rfl (by simp only [and_self, and_true]) (fun w' S => ?_)
    exact decZ d1 d2 (hBW.trans S.toBelow)
  · refine ⟨.done, some .ret, _, W, by decide, S4, ?_⟩
    dsimp only [RFEnd]
    refine XE.blk_ret (XE.then_ret ?_)
    refine XE.retM (i := 1) tok Tryz.results14 rfl rfl rfl (by simp only [and_self, and_true]) (fun w' S => ?_)
    refine ⟨_, _, rfl, ⟨q1, q2, rfl, rfl⟩, fun x hx => ?_, hBW.trans S.toBelow⟩
    exact (hF.sys S ZZMK).get hx
end Go.Proofs.YtmpaiphakjogjaaGreat.X
namespace Go.Proofs.YtmpaiphakjogjaaGreat.X
open Go Go.RowKit Go.Proofs.YtmpaiphakjogjaaGreat.Bs
structure CtAtP (w : World) (ok : Nat → Prop) (v : CTV) (t : CTk) : Prop where
  bas : BasAtP w ok v.p t.b
  fil : IntsAt w ok v.f t.fil
  his : ∃ es : List (SV × His), ListAt hisK w ok v.h es ∧ es.map (·.2) = t.his
  river : IntsAt w ok v.r t.river
  cap : v.h.n ≤ v.h.c
theorem CtAtP.keep {w w' : World} {ok : Nat → Prop} {v : CTV} {t : CTk} (h : CtAtP w ok v t) (hk : ∀ k, ok k → w'.heap[k]? = w.heap[k]?) : CtAtP w' ok v t := by
  obtain ⟨es, h1, h2⟩ := h.his
  exact ⟨h.bas.keep hk, h.fil.keep hk, ⟨es, h1.keep hk, h2⟩, h.river.keep hk, h.cap⟩
theorem CtAtP.mono {w : World} {ok ok' : Nat → Prop} {v : CTV} {t : CTk} (h : CtAtP w ok v t) (hk : ∀ k, ok k → ok' k) : CtAtP w ok' v t := by
  obtain ⟨es, h1, h2⟩ := h.his
  exact ⟨h.bas.mono hk, h.fil.mono hk, ⟨es, h1.mono hk, h2⟩, h.river.mono hk, h.cap⟩
theorem CtAtP.to {w : World} {ok : Nat → Prop} {v : CTV} {t : CTk} {B : Nat} (h : CtAtP w ok v t) (hk : ∀ k, ok k → k < B) : CtAt w B v t := by
  obtain ⟨es, h1, h2⟩ := h.his
  exact ⟨(h.bas.mono hk).to, h.fil.mono hk, ⟨es, h1.mono hk, h2⟩, h.river.mono hk, h.cap⟩
def hCt (v : CTV) (t : CTk) : Held := ⟨fun w ok => CtAtP w ok v t, CtAtP.keep, CtAtP.mono⟩
def hBas5 (p : BV) (b : Bas) : Held := ⟨fun w ok => BasAtP w ok p b, BasAtP.keep, BasAtP.mono⟩
def Tsk5V (x : Value) (new : List Held) : Prop := ∃ v : CTV, x = ctkV v cxT ∧ new = [hCt v cxT]
def Bas5V (v : Value) (new : List Held) : Prop := ∃ p : BV, v = basV p exB ∧ new = [hBas5 p exB]
theorem Basin5_made (w : World) : Calls Tryz.prog 72 #[] w (Made w Bas5V) := (Basin_any w).mono fun e w' ⟨v, h1, ⟨p, h2, h3⟩, h4⟩ =>
  ⟨v, _, h1, ⟨p, h2, rfl⟩, fun x hx => by rw [List.mem_singleton] at hx; subst hx; exact h3, h4⟩
theorem task5_end {w W w' : World} {B : Nat} {L : Lo} {A A2 : Option Addr} {n c n2 c2 ga gb gh gr : Nat} (hbas : BasAtP w' (Btw w.heap.size w'.heap.size) ⟨A, n, c, A2, n2, c2⟩ exB) (S : Sys B W L w') (hB : Below w.heap.size w w')
    (h3 : (gh, cel 133 [.int .i64 10, .slice (some ⟨ga, 0, none⟩) 6 6, .int .i64 10, .slice (some ⟨gb, 0, none⟩) 6 6]) ∈ L) (h4 : (gr, cel 3 [.int .i64 60000, .int .i64 60000, .int .i64 60000, .int .i64 60000, .int .i64 60000, .int .i64 60000]) ∈ L)
    (h1 : (ga, cel 3 [.int .i64 0, .int .i64 500, .int .i64 1500, .int .i64 2500, .int .i64 1500, .int .i64 500]) ∈ L) (h2 : (gb, cel 3 (ints (List.replicate 6 0))) ∈ L)
    (b1 : w.heap.size ≤ ga) (b2 : w.heap.size ≤ gb) (b3 : w.heap.size ≤ gh) (b4 : w.heap.size ≤ gr) :
    Made w Tsk5V (.returned (.agg ⟨[.slice A n c, .int .i64 100, .int .i64 3000, .int .i64 500, .slice none 0 0, .slice none 0 0, .slice (some ⟨gh, 0, none⟩) 2 2, .slice (some ⟨gr, 0, none⟩) 6 6, .int .i64 0, .int .i64 800, .int .i64 1]⟩)) w' := by
  refine ⟨_, _, rfl, ⟨⟨⟨A, n, c, none, 0, 0⟩, ⟨none, 0, 0⟩, ⟨some ⟨gh, 0, none⟩, 2, 2⟩, ⟨some ⟨gr, 0, none⟩, 6, 6⟩⟩, rfl, rfl⟩, fun x hx => ?_, hB⟩
  rw [List.mem_singleton.1 hx]
  have k1 : IntsAt w' (Btw w.heap.size w'.heap.size) ⟨some ⟨ga, 0, none⟩, 6, 6⟩ [0, 500, 1500, 2500, 1500, 500] := ⟨ReadsP.block (S.own _ h1).2 b1 rfl, by simp⟩
  have k2 : IntsAt w' (Btw w.heap.size w'.heap.size) ⟨some ⟨gb, 0, none⟩, 6, 6⟩ [0, 0, 0, 0, 0, 0] := ⟨ReadsP.block (S.own _ h2).2 b2 rfl, by simp⟩
  have k4 : IntsAt w' (Btw w.heap.size w'.heap.size) ⟨some ⟨gr, 0, none⟩, 6, 6⟩ [60000, 60000, 60000, 60000, 60000, 60000] := ⟨ReadsP.block (S.own _ h4).2 b4 rfl, by simp⟩
  refine ⟨⟨hbas.rows, ReadsP.nil, hbas.cap, hbas.len, by simp, fun d hd => by cases hd⟩, ⟨ReadsP.nil, by simp⟩, ⟨[(⟨some ⟨ga, 0, none⟩, 6, 6⟩, ⟨10, [0, 500, 1500, 2500, 1500, 500]⟩), (⟨some ⟨gb, 0, none⟩, 6, 6⟩, ⟨10, [0, 0, 0, 0, 0, 0]⟩)], ⟨ReadsP.block (S.own _ h3).2 b3 rfl, by simp, fun a ha x hx => ?_⟩, rfl⟩, k4, by simp⟩
  simp only [List.mem_cons, List.not_mem_nil, or_false] at ha
  rcases ha with rfl | rfl
  · rw [List.mem_singleton.1 hx]; exact k1
  · rw [List.mem_singleton.1 hx]; exact k2
theorem ser_el5 : elemOk Tryz.prog 26 3 1 8 = true := by kernel_rfl
set_option maxHeartbeats 4000000 in
theorem Task5_made (w : World) : Calls Tryz.prog 28 #[] w (Made w Tsk5V) := by
  refine enter Tryz.func28 rfl Tryz.ntmps28 rfl ?_; simp only [frame, Nat.zero_add, Nat.reduceAdd]
  repeat (first | (refine M0 ?_; first | refine SL ?_ | refine SB fun _ _ => ?_) | (refine M1 ?_; refine SC ?_) | (refine M2 ?_; refine SE ?_))
  rename_i g0 hg0
  refine XL.callF (ks := []) (rs := []) (hs := []) (b0 := w.heap.size) (wE := w) Bas5V (ck rfl) rfl rfl (Fam.start (Nat.le_refl w.heap.size)) (fun _ h => by cases h) (Below.refl w.heap.size w) (fun w1 S1 _ _ => Basin5_made w1) (fun w2 x new hR hF2 hB2 hk2 => ?_) ZZHL
  obtain ⟨⟨A, n, c, A2, n2, c2⟩, rfl, rfl⟩ := hR
  simp only [basV, basC]
  repeat (first | (refine M0 ?_; first | refine SL ?_ | refine SB fun _ _ => ?_) | (refine M1 ?_; refine SC ?_) | (refine M2 ?_; refine SE ?_))
  rename_i g1 hg1
  have hz2 := hB2.size
  have l0 : g0 < w2.heap.size := hk2 g0 (by simp)
  have hle : w.heap.size ≤ w.heap.size := Nat.le_refl _
  refine XC.drawRS (trunc w w.heap.size) [(g1, cel 25 [.slice A n c, .int .i64 100, .int .i64 3000, .int .i64 500, .slice none 0 0])] [0] [1, 2, 3, 4, 5, 6, 7, 8] mixed (fun _ h => Sys.anchorT hB2 h (fun e he => by rw [List.mem_singleton.1 he]; exact .head _) (by simp) hle) rfl (by kernel_rfl) ?_
  repeat (any_goals (first | (refine M0 ?_; first | refine SL ?_ | refine SB fun _ _ => ?_ | refine Y4 (Ev.load_loc_agg tok 0 (g := g1) (o := 0) rfl rfl rfl rfl) ?_ | refine XL.buildSlice tok rfl rfl rfl rfl rfl rfl rfl rfl rfl (fun _ _ => ?_) | refine XL.makeInts (n := 6) ser_el5 (by kernel_rfl) rfl rfl rfl (by omega) (fun _ _ => ?_)) | (refine M1 ?_; refine SC ?_) | (refine M2 ?_; first | refine SE ?_ | ((with_reducible refine atHeld ?_); refine z7 ?_)) | (refine M3 ?_; first | refine SG ?_ | refine SF ?_ | refine YF (Ev.load_loc_agg tok 0 (g := g1) (o := 0) rfl rfl rfl rfl) ?_) | (refine M4 ?_; refine SR ?_) | (refine M5 ?_; first | exact M7 | refine YM ?_ | refine YN ?_ ?_)))
  any_goals (repeat (first | exact AnyR.nil | refine AnyR.skip rfl ?_))
  all_goals
    refine XE.retg tok Tryz.results28 rfl (by simp only [and_self, and_true]) (fun w' S => ?_)
    apply task5_end (A2 := A2) (n2 := n2) (c2 := c2) (S := S) (hB := hB2.trans S.toBelow)
    case h3 => repeat (first | exact List.mem_cons_self | apply List.mem_cons_of_mem)
    case h4 => repeat (first | exact List.mem_cons_self | apply List.mem_cons_of_mem)
    case h1 => repeat (first | exact List.mem_cons_self | apply List.mem_cons_of_mem)
    case h2 => repeat (first | exact List.mem_cons_self | apply List.mem_cons_of_mem)
    case b1 => omega
    case b2 => omega
    case b3 => omega
    case b4 => omega
    case hbas => exact (hF2.sys S (by intro e he; repeat (first | (cases he; done) | (rcases List.mem_cons.1 he with rfl | he; · first | (left; simp; done) | (right; assumption))))).get (x := hBas5 ⟨A, n, c, A2, n2, c2⟩ exB) (.head _)
set_option maxHeartbeats 4000000 in
theorem Rules5_any (w : World) : Calls Tryz.prog 29 #[] w fun e w' => e = .returned (ruV cxR) ∧ Below w.heap.size w w' := by
  refine enter Tryz.func29 rfl Tryz.ntmps29 rfl ?_; simp only [frame, Nat.zero_add, Nat.reduceAdd]
  repeat (first | (refine M0 ?_; first | refine SL ?_ | refine SB fun _ _ => ?_) | (refine M1 ?_; refine SC ?_) | (refine M2 ?_; refine SE ?_))
  refine XE.retg tok Tryz.results29 rfl (by simp only [and_self, and_true]) (fun w' S => ?_)
  exact ⟨rfl, S.toBelow⟩
end Go.Proofs.YtmpaiphakjogjaaGreat.X
namespace Go.Proofs.YtmpaiphakjogjaaGreat.X
open Go Go.RowKit Go.Proofs.YtmpaiphakjogjaaGreat.Bs
theorem Fam.ct {W : World} {b0 : Nat} {ks : List Nat} {rs : List RowX} {hs : List Held} {v : CTV} {t : CTk} (h : Fam W b0 ks rs hs) (hm : hCt v t ∈ hs) : CtAt W W.heap.size v t := CtAtP.to (h.get hm) fun k hk => hk.2
set_option maxHeartbeats 4000000 in
theorem Awake5_any {w : World} : Calls Tryz.prog 9 #[] w fun e w' => e = .returned (.bool true) ∧ Below w.heap.size w w' := by
  obtain ⟨d1, d2, d3⟩ := cx_dec
  refine enter Tryz.func9 rfl Tryz.ntmps9 rfl ?_; simp only [frame, Nat.zero_add, Nat.reduceAdd]
  repeat (first | (refine M0 ?_; first | refine SL ?_ | refine SB fun _ _ => ?_) | (refine M1 ?_; refine SC ?_) | (refine M2 ?_; refine SE ?_))
  refine XL.callF (ks := []) (rs := []) (hs := []) (b0 := w.heap.size) (wE := w) Tsk5V (ck rfl) rfl rfl (Fam.start (Nat.le_refl w.heap.size)) (fun _ h => by cases h) (Below.refl w.heap.size w) (fun w1 S1 _ _ => Task5_made w1) (fun w1 x new hR hF1 hB1 hk1 => ?_) ZZHL
  obtain ⟨v1, rfl, rfl⟩ := hR
  repeat (first | (refine M0 ?_; first | refine SL ?_ | refine SB fun _ _ => ?_ | refine Y4 (Ev.call (f := 10) (ck rfl) rfl (fun w5 S5 => Last_any (t := cxT) (v := v1) (h0 := 0) ((hF1.sys S5 ZZHL).ct (.head _)))) ?_) | (refine M1 ?_; refine SC ?_) | (refine M2 ?_; refine SE ?_))
  rw [cx_las.1, cx_las.2]
  repeat (first | (refine M0 ?_; first | refine SL ?_ | refine SB fun _ _ => ?_) | (refine M1 ?_; refine SC ?_) | (refine M2 ?_; refine SE ?_))
  refine XL.callF (wE := w) Tsk5V (ck rfl) rfl rfl hF1 hk1 hB1 (fun w1 S1 _ _ => Task5_made w1) (fun w2 x new hR hF2 hB2 hk2 => ?_) ZZHL
  obtain ⟨v2, rfl, rfl⟩ := hR
  repeat (first | (refine M0 ?_; first | refine SL ?_ | refine SB fun _ _ => ?_ | refine Y4 (Ev.call (f := 29) (ck rfl) rfl (fun w5 S5 => Rules5_any w5)) ?_) | (refine M1 ?_; refine SC ?_) | (refine M2 ?_; refine SE ?_))
  refine XL.callF (wE := w) (DecR cxT cxR) (ck rfl) rfl rfl hF2 hk2 hB2 (fun w1 S1 hFx _ => Decide_made (t := cxT) (v := v2) (r := cxR) (hFx.ct (.head _))) (fun w3 x new hR hF3 hB3 hk3 => ?_) ZZHL
  obtain ⟨q1, q2, rfl, rfl⟩ := hR
  have hl2 : ListAt wtnK5 w3 (Free w3 w.heap.size _ []) q2 (cxT.decD cxR).later := hF3.held (hList wtnK5 q2 (cxT.decD cxR).later) (.tail _ (.head _))
  have hq2 := hl2.len (by decide)
  rw [d3] at hq2
  obtain ⟨A2, n2, c2⟩ := q2
  simp only at hq2
  subst hq2
  simp only [decV, decC, d1, d2, svV]
  repeat (first | (refine M0 ?_; first | refine SL ?_ | refine SB fun _ _ => ?_) | (refine M1 ?_; refine SC ?_) | (refine M2 ?_; refine SE ?_))
  rename_i g3 hg3
  refine XL.callF (wE := w) Tsk5V (ck rfl) rfl rfl hF3 hk3 hB3 (fun w1 S1 _ _ => Task5_made w1) (fun w4 x new hR hF4 hB4 hk4 => ?_) ZZHL
  obtain ⟨v4, rfl, rfl⟩ := hR
  have hla := fun (w5 : World) (h5 : CtAt w5 w5.heap.size v4 cxT) => Last_any (t := cxT) (v := v4) (h0 := 2) h5
  obtain ⟨z, hz⟩ : ∃ z, z = cxT.lasN 2 := ⟨_, rfl⟩
  rw [cx_las2, ← hz] at hla
  repeat (first | (refine M0 ?_; first | refine SL ?_ | refine SB fun _ _ => ?_ | refine Y4 (Ev.call (f := 10) (ck rfl) rfl (fun w5 S5 => hla w5 ((hF4.sys S5 ZZHL).ct (.head _)))) ?_) | (refine M1 ?_; refine SC ?_) | (refine M2 ?_; refine SE ?_))
  repeat (first | (refine M0 ?_; first | refine SL ?_ | refine SB fun _ _ => ?_ | refine Y4 (Ev.plnEql rfl rfl) ?_) | (refine M1 ?_; first | refine SC ?_ | refine SD ?_) | (refine M2 ?_; refine SE ?_) | (refine M3 ?_; first | refine SG ?_ | refine SF ?_ | refine YF (Ev.plnEql rfl rfl) ?_) | (refine M4 ?_; refine SR ?_) | (refine M5 ?_; first | exact M7 | refine YM ?_ | refine YN ?_ ?_))
  refine XE.retg tok Tryz.results9 rfl (by simp only [and_self, and_true]) (fun w' S => ?_)
  exact ⟨rfl, hB4.trans S.toBelow⟩
end Go.Proofs.YtmpaiphakjogjaaGreat.X
namespace Go.Proofs.YtmpaiphakjogjaaGreat.X
open Go Go.RowKit Go.Proofs.YtmpaiphakjogjaaGreat.Bs
def pan (v : Value) : List PanicEntry := [{ v := v, recovered := false }]
def mustE (b : Bool) (v : Value) : Ending := if b then .returned (.tuple #[]) else .panicked (pan v)
section
variable {P : Program} {T : TT} {N : Nat} {B : Nat} {w0 : World} {ds : List Deferred} {Q : Exit → Act → World → Prop} {F : Fr} {L : Lo}
variable {ops : Array Oper} {rest : List Oper} {ty : TypeId} {p : String} {af : Array Edge}
theorem XL.panic {x : Operand} {tt : TypeId} {u : Value} {dst : Option Tmp} (hx : evo F x = some (.iface tt u)) (k : XE N B w0 ds Q (.panic (pan (.iface tt u))) F L) :
    XL P N B w0 ds Q ops ({ dst := dst, op := .panic x, type := ty, pos := p, after := af, guard := none } :: rest) F L := by
  refine ⟨fun a w hf hs => wpList_plain rfl fun K hK => ?_⟩
  unfold Oper.wp
  have e := hf.eval hx
  have h1 : (execOp a.eval { dst := dst, op := .panic x, type := ty, pos := p, after := af, guard := none }).run P w = .halt (.panic (.iface tt u)) w := by
    simp [execOp, Instr.panic, e]
  rw [h1]
  exact k.run _ _ hf hs
theorem XL.callP {f : FuncId} {d : Nat} {c : Operand} {fst cap : List Value} {args : Array Operand} {vs : List Value} {ats : Array TypeId} (R : World → Ending → World → Prop) (h : callOk P f = true)
    (hcv : evo F c = some (.func (.func f) fst.toArray cap.toArray)) (ha : evos F args.toList = some vs) (hd : Nat.blt d N = true)
    (hc : ∀ w, Sys B w0 L w → Calls P f (fst ++ vs ++ cap).toArray w fun e w' => e ≠ .outgrown ∧ R w e w')
    (k : ∀ w v w', Sys B w0 L w → R w (.returned v) w' → ∃ L' w1, Sys B w1 L' w' ∧ XL P N B w1 ds Q ops rest ((d, v) :: F) L')
    (kp : ∀ w ch w', Sys B w0 L w → R w (.panicked ch) w' → ∃ L' w1, Sys B w1 L' w' ∧ XE N B w1 ds Q (.panic ch) F L') :
    XL P N B w0 ds Q ops ({ dst := some d, op := .call { callee := .value c, args := args, argTypes := ats }, type := ty, pos := p, after := af, guard := none } :: rest) F L := by
  refine ⟨fun a w hf hs => ?_⟩
  refine wpList_plain rfl fun K hK => ?_
  unfold Oper.wp
  rw [callExec_run h hf hcv ha w]
  refine (hc w hs).mono fun e w' he => ?_
  obtain ⟨hne, hR⟩ := he
  cases e with
  | returned v =>
    obtain ⟨L', w1, hS, hk⟩ := k w v w' hs hR
    exact hK _ _ (hk.run _ _ (hf.put hd) hS)
  | panicked ch =>
    obtain ⟨L', w1, hS, hk⟩ := kp w ch w' hs hR
    exact hk.run _ _ hf hS
  | outgrown => exact absurd rfl hne
theorem XL.callM {f : FuncId} {d : Nat} {args : Array Operand} {vs : List Value} {ats : Array TypeId} (b : Bool) (v : Value) (h : callOk P f = true)
    (ha : evos F args.toList = some vs) (hd : Nat.blt d N = true)
    (hc : ∀ w, Sys B w0 L w → Calls P f vs.toArray w fun e w' => e = mustE b v ∧ Below w.heap.size w w')
    (k : b = true → XL P N B w0 ds Q ops rest ((d, .tuple #[]) :: F) L) (kp : b = false → XE N B w0 ds Q (.panic (pan v)) F L) :
    XL P N B w0 ds Q ops ({ dst := some d, op := .call { callee := .value (.func f), args := args, argTypes := ats }, type := ty, pos := p, after := af, guard := none } :: rest) F L := by
  refine XL.callP (fst := []) (cap := []) (fun w e w' => e = mustE b v ∧ Below w.heap.size w w') h rfl ha hd (fun w S => ?_) (fun w x w' S hR => ?_) (fun w ch w' S hR => ?_)
  · simp only [List.nil_append, List.append_nil]
    exact (hc w S).mono fun e w' he => ⟨by rw [he.1]; unfold mustE; split <;> (intro hh; cases hh), he⟩
  · obtain ⟨e1, hb⟩ := hR
    unfold mustE at e1
    cases b with
    | false => rw [if_neg (by simp)] at e1; cases e1
    | true => rw [if_pos rfl] at e1; cases e1; exact ⟨L, w0, S.below hb, k rfl⟩
  · obtain ⟨e1, hb⟩ := hR
    unfold mustE at e1
    cases b with
    | true => rw [if_pos rfl] at e1; cases e1
    | false => rw [if_neg (by simp)] at e1; cases e1; exact ⟨L, w0, S.below hb, kp rfl⟩
theorem ready_mk {l : List Oper} {D : Array Bool} {i : Nat} {o : Oper} (hsz : D.size = l.length) (ho : l[i]? = some o) (hn : on D i = false) (hb : ∀ j ∈ binds o, on D j = true) : i ∈ Region.ready .any l.toArray D := by
  have hi : i < D.size := by rw [hsz]; exact (List.getElem?_eq_some_iff.1 ho).1
  refine mem_ready.2 ⟨?_, o, by simpa using ho, fun e he hbe => ?_⟩
  · unfold on at hn
    rw [Array.getD_eq_getD_getElem?, Array.getElem?_eq_getElem hi] at hn ⊢
    exact hn
  · exact hb e.on (by unfold binds; exact List.mem_map.2 ⟨e, List.mem_filter.2 ⟨by simpa using he, hbe⟩, rfl⟩)
def guardLow (n : Nat) (o : Oper) : Bool := match o.guard with
  | none => true
  | some (j, _) => Nat.blt j n
theorem wpOp_swap {l l1 : List Oper} {z : Oper} (hl : l = l1 ++ [z]) {i : Nat} {o : Oper} {a : Act} {w : World} {K C C' : Act → World → Prop} (hi : l1[i]? = some o) (hg : guardLow l1.length o = true) (hC : ∀ a w, C a w → C' a w)
    (h : wpOp P l1.toArray (only K) i C a w) : wpOp P l.toArray Q i C' a w := by
  have hlt := (List.getElem?_eq_some_iff.1 hi).1
  have h1 : l1.toArray[i]? = some o := by simpa using hi
  have h2 : l.toArray[i]? = some o := by rw [hl]; simp [List.getElem?_append_left hlt, hi]
  have hw : Region.wanted o (yielded l.toArray a.tmps) = Region.wanted o (yielded l1.toArray a.tmps) := by
    unfold Region.wanted
    unfold guardLow at hg
    split
    · rfl
    · rename_i j want hgd
      rw [hgd] at hg
      have hj : j < l1.length := Nat.le_of_ble_eq_true hg
      unfold yielded
      rw [show l.toArray[j]? = l1.toArray[j]? by rw [hl]; simp [List.getElem?_append_left hj]]
  unfold wpOp at h ⊢
  rw [h1] at h
  rw [h2]
  simp only at h ⊢
  rw [hw]
  split
  · rename_i hw2
    rw [if_pos hw2] at h
    rcases h with h | ⟨_, _, _, h⟩
    · refine .inl ?_
      unfold Oper.wp at h ⊢
      generalize (execOp a.eval o).run P w = r at h ⊢
      cases r with
      | ok n w' =>
        cases n <;> simp only [Oper.upon] at h ⊢ <;> first
          | exact hC _ _ h
          | exact Calls.mono h (fun e w'' he => by
              cases e with
              | returned v => exact hC _ _ he
              | panicked c => exact he.elim
              | outgrown => exact he.elim fun _ h => h.elim fun _ h => h.elim)
          | exact Rows.mono h (fun _ _ he => hC _ _ he)
      | halt x w' => cases x <;> simp only [Oper.upon] at h ⊢ <;> exact h.elim
    · exact h.elim
  · rename_i hw2
    rw [if_neg hw2] at h
    exact hC _ _ h
theorem wpAny_snoc {l l1 : List Oper} {z : Oper} (hl : l = l1 ++ [z]) (hc : (edgesOk l && tailB l) = true) (hg : l1.all (guardLow l1.length) = true) {K : Act → World → Prop} (hK : ∀ a w, K a w → wpList P l.toArray Q [z] a w) :
    ∀ (fuel fuel1 : Nat) (D D1 : Array Bool) (a : Act) (w : World), D.size = l.length → D1.size = l1.length → (∀ i, i < l1.length → on D i = on D1 i) → on D l1.length = false → Closed l D → D.toList.count false ≤ fuel →
      wpAny P .any l1.toArray (only K) fuel1 D1 a w → wpAny P .any l.toArray Q fuel D a w := by
  simp only [Bool.and_eq_true] at hc
  obtain ⟨hc, htl⟩ := hc
  have hll : l.length = l1.length + 1 := by rw [hl]; simp
  have hzi : l[l1.length]? = some z := by rw [hl]; simp
  have hlow : ∀ (i : Nat) (o : Oper), i < l1.length → l[i]? = some o → l1[i]? = some o := fun i o hi ho => by rw [hl, List.getElem?_append_left hi] at ho; exact ho
  have hup : ∀ (i : Nat) (o : Oper), l1[i]? = some o → l[i]? = some o := fun i o ho => by rw [hl, List.getElem?_append_left (List.getElem?_eq_some_iff.1 ho).1]; exact ho
  have hbl : ∀ (i : Nat) (o : Oper), l[i]? = some o → ∀ j ∈ binds o, j < i := fun i o ho j hj => by have := (low_at l 0 i o (edgesOk_low hc) ho).1 j hj; omega
  intro fuel
  induction fuel with
  | zero =>
    intro fuel1 D D1 a w hsz hsz1 hsame hno hcl hcnt h
    have := count_set (D := D) (i := l1.length) (by omega) hno
    omega
  | succ fuel ih =>
    intro fuel1 D D1 a w hsz hsz1 hsame hno hcl hcnt h
    refine ⟨fun hr => (by have := all_done hsz (edgesOk_low hc) hr l1.length (by omega); rw [hno] at this; cases this), fun i hi => ?_⟩
    obtain ⟨o, ho, hn, hb⟩ := ready_spec hsz hi
    have hilt : i < l.length := (List.getElem?_eq_some_iff.1 ho).1
    by_cases hil : i = l1.length
    · subst hil
      rw [hzi] at ho
      obtain rfl := Option.some.inj ho
      have hall : ∀ i, i < l1.length → on D i = true := fun i hi => ahead_closed (edgesOk_low hc) hcl l1.length z hzi hb i (tailB_spec htl hll i hi)
      have hr1 : Region.ready .any l1.toArray D1 = [] := by
        apply List.eq_nil_iff_forall_not_mem.2
        intro j hj
        obtain ⟨o2, ho2, hn2, _⟩ := ready_spec hsz1 hj
        have hj2 := (List.getElem?_eq_some_iff.1 ho2).1
        rw [← hsame j hj2, hall j hj2] at hn2
        cases hn2
      have hKK : K a w := by
        cases fuel1 with
        | zero => exact h.2
        | succ m => exact h.1 hr1
      have hx := hK a w hKK
      have hoi : l.toArray[l1.length]? = some z := by simpa using hzi
      refine wpOp_mono (K := fun a w => Q .normal a w) (fun a'' w'' q => ?_) ?_
      · have hr : Region.ready .any l.toArray (D.setIfInBounds l1.length true) = [] := by
          apply List.eq_nil_iff_forall_not_mem.2
          intro j hj
          obtain ⟨o2, ho2, hn2, _⟩ := ready_spec (by simpa using hsz) hj
          have hj2 := (List.getElem?_eq_some_iff.1 ho2).1
          rw [on_set (by omega)] at hn2
          simp only [Bool.or_eq_false_iff, beq_eq_false_iff_ne] at hn2
          rw [hall j (by omega)] at hn2
          cases hn2.1
        exact wpAny_done hr q fuel
      · unfold wpOp
        rw [hoi]
        unfold wpList at hx
        simp only
        split
        · rename_i hw; rw [if_pos hw] at hx; exact hx
        · rename_i hw; rw [if_neg hw] at hx; exact hx
    · have hil2 : i < l1.length := by omega
      have ho1 := hlow i o hil2 ho
      have hr1 : i ∈ Region.ready .any l1.toArray D1 := ready_mk hsz1 ho1 (by rw [← hsame i hil2]; exact hn) fun j hj => by
        have := hbl i o ho j hj
        rw [← hsame j (by omega)]; exact hb j hj
      cases fuel1 with
      | zero => rw [h.1] at hr1; cases hr1
      | succ m =>
        refine wpOp_swap hl ho1 (List.all_eq_true.1 hg o (List.mem_of_getElem? ho1)) (fun a' w' h' => ?_) (h.2 i hr1)
        refine ih m _ _ a' w' (by simpa using hsz) (by simpa using hsz1) (fun j hj => ?_) ?_ ?_ ?_ h'
        · rw [on_set (by omega), on_set (by omega), hsame j hj]
        · rw [on_set (by omega), hno]
          simp only [Bool.false_or, beq_eq_false_iff_ne]
          omega
        · intro j hj o2 ho2 k hk
          rw [on_set (by omega)] at hj ⊢
          simp only [Bool.or_eq_true, beq_iff_eq] at hj ⊢
          rcases hj with hj | hj
          · exact .inl (hcl j hj o2 ho2 k hk)
          · subst hj
            rw [ho] at ho2
            obtain rfl := Option.some.inj ho2
            exact .inl (hb k hk)
        · have := count_set (D := D) (i := i) (by omega) hn
          omega
theorem XC.drawRT {id : Nat} {l l1 : List Oper} {z : Oper} {rem : List (Nat × Oper)} (wS : World) (Ls : Lo) (p q : List Nat) (hm : P.follows .mixedOrders = true) (hL : ∀ w, Sys B w0 L w → Sys B wS Ls w) (hcut : cutLast l = some (l1, z))
    (hc : (edgesOk l && tailB l) = true) (hg : l1.all (guardLow l1.length) = true) (hr : pickR l1 q = some rem)
    (hp : (pureOk l1.toArray (Array.replicate l1.length false) p && partB l1.length p q) = true)
    (h : Fw P N B wS ds False (fun F' => XR P N B wS w0 ds (fun e a w => match e with | .normal => wpList P l.toArray Q [z] a w | _ => False) Ls l1.toArray rem F' L) l1.toArray Ls (pickO l1.toArray p) F) : XC P N B w0 ds Q (.region id l.toArray true) F L := by
  have hl := cutLast_eq hcut
  refine ⟨fun a w hf hs => ?_⟩
  have h1 := (XH.ofRS (Q := fun e a w => match e with | .normal => wpList P l.toArray Q [z] a w | _ => False) wS Ls p q hr hp h).run l1.toArray.size a { w with drawn := w.drawn + 1 } (by simp) hf hs.drew (hL _ hs.drew)
  refine wp_region_any hm (wpAny_snoc hl hc hg (K := fun a w => wpList P l.toArray Q [z] a w) (fun _ _ h => h) _ _ _ _ a _ (by simp) ?_ (fun i hi => ?_) ?_ ?_ (by simp) (wpAny_of_held _ _ _ _ h1))
  · simp
  · unfold on; simp [hi, hl, Nat.lt_succ_of_lt hi]
  · unfold on; simp [hl]
  · intro i hi
    unfold on at hi
    simp only [Array.getD_eq_getD_getElem?, Array.getElem?_replicate] at hi
    split at hi <;> simp at hi
theorem XE.lastZ {l : Array Oper} {z : Oper} {Q' : Exit → Act → World → Prop} (hq : ∀ a w, wpList P l Q [z] a w → Q' .normal a w) (h : XL P N B w0 ds Q l [z] F L) : XE N B w0 ds Q' .normal F L := ⟨fun a w hf hs => hq a w (h.run a w hf hs)⟩
end
section
variable {P : Program} {N : Nat} {w0 : World} {ds : List Deferred} {Q : Exit → Act → World → Prop} {F : Fr} {L : Lo}
variable {ops : Array Oper} {rest : List Oper} {ty : TypeId} {p : String} {af : Array Edge}
variable {t : CTk} {v : CTV} {b0 g gm : Nat} {ks : List Nat} {rs : List RowX} {hs : List Held} {w w' : World}
def GamE (t : CTk) (b0 gm : Nat) (ks : List Nat) (e0 : Ending) (w : World) (e : Ending) (w' : World) : Prop := e = e0 ∧ Since w gm w' ∧ Mem5 t gm w' (Free w' b0 (gm :: ks) [])
theorem GamE.of {e0 : Ending} {x : Value} {R : Value → List Held → Prop} (h : GamR t b0 gm ks R w (.returned x) w') : GamE t b0 gm ks e0 w e0 w' := by
  obtain ⟨_, _, _, _, a, b, _⟩ := h
  exact ⟨rfl, a, b⟩
theorem XL.callE {f : FuncId} {d : Nat} {c : Operand} {fst cap : List Value} {args : Array Operand} {vs : List Value} {ats : Array TypeId} (e0 : Ending) (hne : e0 ≠ .outgrown) (h : callOk P f = true)
    (hcv : evo F c = some (.func (.func f) fst.toArray cap.toArray)) (ha : evos F args.toList = some vs) (hd : Nat.blt d N = true) (hG : Gam t v b0 g gm ks rs hs w0) (hg : (g, gamO v t gm) ∈ L)
    (hc : ∀ w ks2, Sys b0 w0 L w → (∀ e, e ∈ L → e.1 ∈ ks2) → Gam t v b0 g gm ks2 [] [] w → Calls P f (fst ++ vs ++ cap).toArray w (GamE t b0 gm ks2 e0 w))
    (k : ∀ w' x, e0 = .returned x → Gam t v b0 g gm (L.map (·.1) ++ ks) rs hs w' → Below b0 w0 w' → XL P N b0 w' ds Q ops rest ((d, x) :: F) L)
    (kp : ∀ w' ch, e0 = .panicked ch → Gam t v b0 g gm (L.map (·.1) ++ ks) rs hs w' → Below b0 w0 w' → XE N b0 w' ds Q (.panic ch) F L)
    (hL : ∀ e, e ∈ L → e.1 ∈ ks ∨ w0.heap.size ≤ e.1 := by exact ZZHM) :
    XL P N b0 w0 ds Q ops ({ dst := some d, op := .call { callee := .value c, args := args, argTypes := ats }, type := ty, pos := p, after := af, guard := none } :: rest) F L := by
  have hend : ∀ w w', Sys b0 w0 L w → Gam t v b0 g gm (L.map (·.1) ++ ks) rs hs w' → Since w gm w' → Sys b0 w' L w' ∧ Below b0 w0 w' := fun w w' S hG' e3 => by
    have hne : ∀ e, e ∈ L → e.1 ≠ gm := fun e he e1 => by
      rcases hL e he with h1 | h1
      · exact hG.nin (e1 ▸ h1)
      · have := hG.lt gm (.head _); omega
    exact ⟨Sys.start hG'.fam.base (fun e he => ⟨(S.own e he).1, by rw [e3.old e.1 (S.lt he) (hne e he)]; exact (S.own e he).2⟩) S.nd, S.toBelow.trans (e3.below hG.bm (Nat.le_trans S.base S.size))⟩
  refine XL.callP (fst := fst) (cap := cap) (fun w e w' => e = e0 ∧ Gam t v b0 g gm (L.map (·.1) ++ ks) rs hs w' ∧ Since w gm w') h hcv ha hd (fun w S => ?_) (fun w x w' S hR => ?_) (fun w ch w' S hR => ?_)
  · have hA := hG.add S hg hL
    have := hc w _ S (fun e he => List.mem_append_right _ (List.mem_append_left _ (List.mem_map.2 ⟨e, he, rfl⟩))) hA.down
    exact this.mono fun e w' ⟨e1, e3, e4⟩ => ⟨by rw [e1]; exact hne, e1, by
      have := hA.after (new := []) rfl e3 e4 (fun y hy => by cases hy)
      exact this, e3⟩
  · obtain ⟨e1, hG', e3⟩ := hR
    obtain ⟨S', hb⟩ := hend w w' S hG' e3
    exact ⟨L, w', S', k w' x e1.symm hG' hb⟩
  · obtain ⟨e1, hG', e3⟩ := hR
    obtain ⟨S', hb⟩ := hend w w' S hG' e3
    exact ⟨L, w', S', kp w' ch e1.symm hG' hb⟩
end
end Go.Proofs.YtmpaiphakjogjaaGreat.X
namespace Go.Proofs.YtmpaiphakjogjaaGreat.X
open Go Go.RowKit
section
variable {P : Program} {T : TT} {N : Nat} {B : Nat} {w0 : World} {ds : List Deferred} {Q : Exit → Act → World → Prop} {F : Fr} {L : Lo}
variable {ops : Array Oper} {rest : List Oper} {ty : TypeId} {p : String} {af : Array Edge}
theorem fits_enter {fn : Func} {vs : List Value} (hn : vs.length ≤ fn.ntmps) : Fits fn.ntmps [] (frame 0 vs) { tmps := vs.toArray ++ Array.replicate (fn.ntmps - vs.toArray.size) undef, defers := [] } := by
  refine ⟨?_, rfl, fun t v _ hv => ?_⟩
  · simp; omega
  · obtain ⟨_, h2⟩ := lk_frame vs 0 t v hv
    have hlt : t < vs.length := (List.getElem?_eq_some_iff.1 h2).1
    simp only [Array.getD_eq_getD_getElem?]
    rw [Array.getElem?_append_left (by simpa using hlt)]
    simp at h2 ⊢
    rw [h2]; rfl
theorem enterRec {f : FuncId} {fn : Func} {id d n : Nat} {ats : Array TypeId} {c : Code} {vs : List Value} {w : World} {u u' : FrameMode} {vr : Value} {R : Ending → FrameMode → World → Prop} (hf : P.funcs[f]? = some fn)
    (hb : fn.body = some (.seq (.region id #[{ dst := some d, op := .call { callee := .builtin .recover, args := #[], argTypes := ats }, type := ty, pos := p, after := af, guard := none }] false) c))
    (hN : fn.ntmps = n) (hn : Nat.ble vs.length n = true) (hd : Nat.blt d n = true) (S : Sys B w L w)
    (hrec : ∀ (c₀ : Frame) (cs : List Frame), c₀.mode = u → recoverD (c₀ :: cs) = some (vr, { c₀ with mode := u' } :: cs) ∨ (recoverD (c₀ :: cs) = none ∧ vr = .nilIface ∧ u' = u))
    (h : XC P n B w [] (bodyPost P fn fun e w' => R e u' w') c ((d, vr) :: frame 0 vs) L) : CallsD P f vs.toArray u w R := by
  subst hN
  have hn' := Nat.le_of_ble_eq_true hn
  refine callsD_of_wpS hf hb fun c₀ cs hu => ?_
  refine wpS_seq (wpS_region ?_)
  have hF := (fits_enter (fn := fn) (vs := vs) hn').put (v := vr) hd
  obtain ⟨a, ha⟩ : ∃ a : Act, a = { tmps := vs.toArray ++ Array.replicate (fn.ntmps - vs.toArray.size) undef, defers := [] } := ⟨_, rfl⟩
  rw [← ha] at hF ⊢
  have hgo : ∀ cs', cs' = { c₀ with mode := u' } :: cs → c.wpS P (bodyPostS P fn c₀ cs R) (a.put (some d) vr) cs' w := fun cs' e => by
    subst e
    refine wpS_of_wp (wp_mono (h.run _ w hF S) fun e a' w' q => ?_)
    cases e with
    | normal => exact ⟨q.1, u', rfl, q.2⟩
    | ret => exact ⟨q.1, u', rfl, q.2⟩
    | panic ch => exact ⟨q.1, u', rfl, q.2⟩
    | outgrown => exact ⟨u', q⟩
    | exit id => exact q
    | goto l => exact q
  have hx : ∀ ev : Operand → Value, (execOp ev { dst := some d, op := .call { callee := .builtin .recover, args := #[], argTypes := ats }, type := ty, pos := p, after := af, guard := none }).run P w = .ok .recover w := fun ev => by
    simp [execOp, resolve, invoke, builtin]
  show wpOpsS P _ _ [0] a (c₀ :: cs) w
  unfold wpOpsS
  simp only [List.getElem?_toArray, List.getElem?_cons_zero]
  rw [if_pos (by simp [Region.wanted]), hx]
  rcases hrec c₀ cs hu with e | ⟨e, rfl, rfl⟩
  · rw [e]
    exact hgo _ rfl
  · rw [e]
    refine hgo _ ?_
    rw [← hu]
theorem recP {v : Value} (c₀ : Frame) (cs : List Frame) (h : c₀.mode = .panicking (pan v)) : recoverD (c₀ :: cs) = some (v, { c₀ with mode := .panicking [{ v := v, recovered := true }] } :: cs) ∨ (recoverD (c₀ :: cs) = none ∧ v = .nilIface ∧ FrameMode.panicking [{ v := v, recovered := true }] = .panicking (pan v)) := by
  left
  cases c₀
  simp only at h
  subst h
  rfl
theorem recR (c₀ : Frame) (cs : List Frame) (h : c₀.mode = .returning) : recoverD (c₀ :: cs) = some (.nilIface, { c₀ with mode := .returning } :: cs) ∨ (recoverD (c₀ :: cs) = none ∧ Value.nilIface = .nilIface ∧ FrameMode.returning = .returning) := by
  right
  refine ⟨?_, rfl, rfl⟩
  cases c₀
  simp only at h
  subst h
  rfl
theorem enterD {f : FuncId} {fn : Func} {c : Code} {vs : List Value} {w : World} {R : Ending → World → Prop} {n : Nat} (hf : P.funcs[f]? = some fn) (hb : fn.body = some c) (hN : fn.ntmps = n)
    (hn : Nat.ble vs.length n = true) (h : XC P n w.heap.size w [] (bodyPostD P fn R) c (frame 0 vs) []) : Calls P f vs.toArray w R := by
  subst hN
  exact calls_of_wp_defers hf hb (h.run _ w (fits_enter (Nat.le_of_ble_eq_true hn)) (Sys.enter w))
theorem XL.defer {x : Operand} {f : FuncId} {cap : List Value} {ats : Array TypeId} (hx : evo F x = some (.func (.func f) #[] ⟨cap⟩)) (k : XL P N B w0 ({ target := .fn (.func f) ⟨cap⟩, args := #[] } :: ds) Q ops rest F L) :
    XL P N B w0 ds Q ops ({ dst := none, op := .defer { callee := .value x, args := #[], argTypes := ats }, type := ty, pos := p, after := af, guard := none } :: rest) F L := by
  refine ⟨fun a w hf hs => wpList_plain rfl fun K hK => ?_⟩
  unfold Oper.wp
  have e := hf.eval hx
  have h1 : (execOp a.eval { dst := none, op := .defer { callee := .value x, args := #[], argTypes := ats }, type := ty, pos := p, after := af, guard := none }).run P w = .ok (.defer { target := .fn (.func f) ⟨cap⟩, args := #[] }) w := by
    simp [execOp, resolve, e, Deferred.ofValue]
  rw [h1]
  exact hK _ _ (k.run _ _ ⟨hf.size, by simp [hf.defers, Act.put], hf.get⟩ hs)
theorem XE.retD0 (hT : TOK P T) {fn : Func} {R : Ending → World → Prop} {rs : List ResultVar} {vs : List Value} {c : Prop} (h : fn.results = ⟨rs⟩) (hv : resO T F L rs = some (vs, c)) (hc : c)
    (hR : ∀ w, Sys B w0 L w → R (.returned (tupV vs)) w) : XE N B w0 [] (bodyPostD P fn R) .ret F L :=
  ⟨fun a w hf hw => by
    have hm := (XE.retM0 (P := P) (N := N) (B := B) (w0 := w0) hT (fn := fn) (R := R) h hv hc hR).run a w hf hw
    show Leaves P fn a.tmps R a.defers .returning w
    have hm' : LeavesInM Fence.wide 0 P fn a.tmps R a.defers .returning w := hm
    rw [hf.defers] at hm' ⊢
    exact hm'⟩
theorem leaveD (hT : TOK P T) {fn : Func} {R : Ending → World → Prop} {rs : List ResultVar} {vs : List Value} {c : Prop} {f : FuncId} {cap : List Value} {u : FrameMode} {L' : Lo} {a : Act} {w : World} (hu : u ≠ .run) (hf : Fits N [{ target := .fn (.func f) ⟨cap⟩, args := #[] }] F a)
    (h : fn.results = ⟨rs⟩) (hk : callOk P f = true) (hv : resO T F L' rs = some (vs, c)) (hc : c)
    (hcall : CallsD P f cap.toArray u w fun en u' w' => (∃ x, en = .returned x) ∧ settle u' = .returning ∧ (∃ B' w1, Sys B' w1 L' w') ∧ R (.returned (tupV vs)) w') : Leaves P fn a.tmps R a.defers u w := by
  rw [hf.defers]
  have hi : (invoke (.fn (.func f) ⟨cap⟩) #[]).run P w = .ok (.enter f cap.toArray) w := by
    have : (#[] ++ (⟨cap⟩ : Array Value)) = cap.toArray := by simp
    simp only [invoke, this]
    exact callFunc_run hk _ _
  have hgo : ∀ (en : Ending) u' w', ((∃ x, en = .returned x) ∧ settle u' = .returning ∧ (∃ B' w1, Sys B' w1 L' w') ∧ R (.returned (tupV vs)) w') → (match en with
      | .returned _ => Leaves P fn a.tmps R [] (settle u') w'
      | .panicked chain => Leaves P fn a.tmps R [] (raised u' chain) w'
      | .outgrown => R .outgrown w') := by
    rintro en u' w' ⟨⟨x, rfl⟩, hs, ⟨B', w1, S⟩, hR⟩
    simp only
    rw [hs]
    have hf' : Fits N [] F { a with defers := [] } := ⟨hf.size, rfl, hf.get⟩
    have hm := (XE.retD0 (P := P) (N := N) (B := B') (w0 := w1) hT (fn := fn) (R := fun e w2 => w2 = w' → R e w2) h hv hc (fun w2 S2 e => by subst e; exact hR)).run _ w' hf' S
    obtain ⟨v, h1, h2⟩ := (show Leaves P fn a.tmps (fun e w2 => w2 = w' → R e w2) [] .returning w' from hm)
    exact ⟨v, h1, h2 rfl⟩
  refine ⟨hu, .func f, ⟨cap⟩, f, cap.toArray, rfl, hi, ?_⟩
  intro c0 cs hm
  obtain ⟨e, u', w', fr, q, rest⟩ := hcall c0 cs hm
  refine ⟨e, u', w', fr, ?_, rest⟩
  have := hgo e u' w' q
  cases e <;> exact this
end
end Go.Proofs.YtmpaiphakjogjaaGreat.X
namespace Go.Proofs.YtmpaiphakjogjaaGreat.X
open Go Go.RowKit Go.Proofs.YtmpaiphakjogjaaGreat.Bs
theorem Sys.start3 {B : Nat} {w : World} {g h k : Nat} {o o' o'' : Obj} (hB : B ≤ w.heap.size) (b1 : B ≤ g) (b2 : B ≤ h) (b3 : B ≤ k) (hg : w.heap[g]? = some o) (hh : w.heap[h]? = some o') (hk : w.heap[k]? = some o'') (n1 : g ≠ h) (n2 : g ≠ k) (n3 : h ≠ k) : Sys B w [(g, o), (h, o'), (k, o'')] w :=
  Sys.start hB (fun e he => by
    simp only [List.mem_cons, List.not_mem_nil, or_false] at he
    rcases he with rfl | rfl | rfl
    · exact ⟨b1, hg⟩
    · exact ⟨b2, hh⟩
    · exact ⟨b3, hk⟩) (by simp [n1, n2, n3])
theorem own3 {w W : World} {g gr gc : Nat} {o o' o'' : Obj} {L : Lo} (hg : W.heap[g]? = some o) (hr : W.heap[gr]? = some o') (hc : W.heap[gc]? = some o'') (hL : ∀ e, e ∈ L → e = (g, o) ∨ e = (gr, o') ∨ e = (gc, o'') ∨ w.heap.size ≤ e.1) : ∀ e, e ∈ L → e.1 < w.heap.size → W.heap[e.1]? = some e.2 := fun e he hlt => by
  rcases hL e he with rfl | rfl | rfl | h
  · exact hg
  · exact hr
  · exact hc
  · omega
theorem ZZO4 {p : Prop} (h : p := by (intro e he; repeat (first | (cases he; done) | (rcases List.mem_cons.1 he with rfl | he; · first | (left; rfl) | (right; left; rfl) | (right; right; left; rfl) | (right; right; right; assumption) | (right; right; right; simp only; omega)))) <;> fail) : p := h
theorem XE.panic0 {P : Program} {N B : Nat} {w0 : World} {F : Fr} {L : Lo} {fn : Func} {R : Ending → World → Prop} {ch : List PanicEntry} (hR : ∀ w, Sys B w0 L w → R (.panicked ch) w) : XE N B w0 [] (bodyPost P fn R) (.panic ch) F L :=
  ⟨fun a w hf hw => ⟨hf.defers, hR w hw⟩⟩
def refV (at_ e : Int) : Value := .iface 124 (.agg ⟨[.int .i64 at_, .int .i64 e]⟩)
def chkC (gr : Nat) (q1 q2 : SV) (d : CDe) : List Value := .pointer (some ⟨gr, 0, none⟩) :: decC q1 q2 d
abbrev chkO (gr : Nat) (q1 q2 : SV) (d : CDe) : Obj := cel 127 (chkC gr q1 q2 d)
theorem ref_con : conB (Tryz.prog.underlying 124) = true := by kernel_rfl
theorem must_any (b : Bool) (i e : Int) (w : World) :
    Calls Tryz.prog 92 #[.bool b, .int .i64 i, .int .i64 e] w fun x w' => x = mustE b (refV i e) ∧ Below w.heap.size w w' := by
  refine enter Tryz.func92 rfl Tryz.ntmps92 rfl ?_; simp only [frame, Nat.zero_add, Nat.reduceAdd]
  cases b with
  | true =>
    repeat (first | (refine M0 ?_; first | refine SL ?_ | refine SB fun _ _ => ?_) | (refine M1 ?_; refine SC ?_) | (refine M2 ?_; refine SE ?_))
    exact XE.end0 Tryz.results92 fun w' S => ⟨rfl, S.toBelow⟩
  | false =>
    repeat (first | (refine M0 ?_; first | refine SL ?_ | refine SB fun _ _ => ?_ | refine Y4 (Ev.makeI ref_con rfl) ?_) | (refine M1 ?_; refine SC ?_) | (refine M2 ?_; refine SE ?_))
    refine XL.panic rfl ?_
    exact XE.panic0 fun w' S => ⟨rfl, S.toBelow⟩
section
variable {t : CTk} {v : CTV} {r : CRu} {g gr gc gm : Nat} {w : World} {q1 q2 : SV} {d : CDe}
theorem shut_any (hc : w.heap[gc]? = some (chkO gr q1 q2 d)) :
    Calls Tryz.prog 93 #[.pointer (some ⟨gc, 0, none⟩)] w fun e w' => e = .returned (.bool (decide (d.plan ≠ nev))) ∧ Below w.heap.size w w' := by
  have S0 := Sys.start1 (B := 0) (Nat.zero_le gc) hc
  obtain ⟨⟨c, o⟩, l1, l2⟩ := d
  rw [plan_n]
  simp only [chkO, chkC, decC, svV] at S0
  refine enterL Tryz.func93 rfl Tryz.ntmps93 rfl (S0) ?_; simp only [frame, Nat.zero_add, Nat.reduceAdd]
  refine XC.hint 0 0 ?_
  repeat (first | (refine M0 ?_; first | refine SL ?_ | refine SB fun _ _ => ?_ | refine Y4 (Ev.call (f := 46) (ck rfl) rfl (fun w S => nev_any w)) ?_ | refine Y4 (Ev.plnNeq rfl rfl) ?_) | (refine M1 ?_; first | refine SC ?_ | refine SD ?_) | (refine M2 ?_; refine SE ?_) | (refine M3 ?_; first | refine SG ?_ | refine SF ?_ | refine YF (Ev.call (f := 46) (ck rfl) rfl (fun w S => nev_any w)) ?_ | refine YF (Ev.plnNeq rfl rfl) ?_) | (refine M4 ?_; refine SR ?_) | (refine M5 ?_; first | exact M7 | refine YM ?_ | refine YN ?_ ?_))
  refine XE.retg tok Tryz.results93 rfl (by simp only [and_self, and_true]) (fun w' S => ?_)
  exact ⟨rfl, S.toBelowG (own1 hc ZZO1)⟩
theorem cindex_any (hc : w.heap[gc]? = some (chkO gr q1 q2 d)) (hr : w.heap[gr]? = some (rulO g r)) (hg : w.heap[g]? = some (gamO v t gm)) (hi : i64in (d.plan.close - t.from_)) :
    Calls Tryz.prog 94 #[.pointer (some ⟨gc, 0, none⟩)] w fun e w' => e = .returned (.int .i64 (d.plan.close - t.from_)) ∧ Below w.heap.size w w' := by
  have n1 : gc ≠ gr := fun e => by subst e; rw [hr] at hc; simp [chkO, rulO, chkC, rulC] at hc
  have n2 : gc ≠ g := fun e => by subst e; rw [hg] at hc; simp [chkO, gamO, chkC, gamC] at hc
  have n3 : gr ≠ g := fun e => by subst e; rw [hg] at hr; simp [rulO, gamO, rulC, gamC] at hr
  have S0 := Sys.start3 (B := 0) (Nat.zero_le _) (Nat.zero_le gc) (Nat.zero_le gr) (Nat.zero_le g) hc hr hg n1 n2 n3
  obtain ⟨⟨c, o⟩, l1, l2⟩ := d
  simp only at hi
  simp only [chkO, chkC, decC, svV, rulO, rulC, gamO, gamC] at S0
  refine enterL Tryz.func94 rfl Tryz.ntmps94 rfl (S0) ?_; simp only [frame, Nat.zero_add, Nat.reduceAdd]
  refine XC.hint 0 2 ?_
  repeat (first | (refine M0 ?_; first | refine SL ?_ | refine SB fun _ _ => ?_ | refine Y4 (Ev.load_loc tok 1 (g := gr) (o := 0) rfl rfl rfl rfl) ?_ | refine Y4 (Ev.load_loc tok 2 (g := g) (o := 11) rfl rfl rfl rfl) ?_) | (refine M1 ?_; first | refine SC ?_ | refine SD ?_) | (refine M2 ?_; refine SE ?_) | (refine M3 ?_; first | refine SG ?_ | refine SF ?_ | refine YF (Ev.load_loc tok 1 (g := gr) (o := 0) rfl rfl rfl rfl) ?_ | refine YF (Ev.load_loc tok 2 (g := g) (o := 11) rfl rfl rfl rfl) ?_) | (refine M4 ?_; refine SR ?_) | (refine M5 ?_; first | exact M7 | refine YM ?_ | refine YN ?_ ?_))
  refine XE.retg tok Tryz.results94 rfl (by simp only [and_self, and_true]) (fun w' S => ?_)
  exact ⟨rfl, S.toBelowG (own3 hc hr hg ZZO4)⟩
set_option maxHeartbeats 8000000 in
theorem form_any (hc : w.heap[gc]? = some (chkO gr q1 q2 d)) (hr : w.heap[gr]? = some (rulO g r)) (hg : w.heap[g]? = some (gamO v t gm)) (ho : CtOk t) (hhn : v.h.n = t.m) (hq : q1.n = d.peaks.length) :
    Calls Tryz.prog 65 #[.pointer (some ⟨gc, 0, none⟩)] w fun e w' => e = mustE (!t.strange d.plan && decide (d.peaks.length = t.m)) (refV 0 2) ∧ Below w.heap.size w w' := by
  have n1 : gc ≠ gr := fun e => by subst e; rw [hr] at hc; simp [chkO, rulO, chkC, rulC] at hc
  have n2 : gc ≠ g := fun e => by subst e; rw [hg] at hc; simp [chkO, gamO, chkC, gamC] at hc
  have n3 : gr ≠ g := fun e => by subst e; rw [hg] at hr; simp [rulO, gamO, rulC, gamC] at hr
  have S0 := Sys.start3 (B := 0) (Nat.zero_le _) (Nat.zero_le gc) (Nat.zero_le gr) (Nat.zero_le g) hc hr hg n1 n2 n3
  have hstr := fun {L : Lo} (w5 : World) (S5 : Sys 0 w L w5) (hm : (g, gamO v t gm) ∈ L) => stranger_any (p := d.plan) (S5.own _ hm).2 ho
  have hq' : decide ((q1.n : Int) = (v.h.n : Int)) = decide (d.peaks.length = t.m) := by rw [decide_eq_decide]; omega
  obtain ⟨⟨c, o⟩, l1, l2⟩ := d
  simp only [plnV] at hstr
  simp only at hq'
  simp only [chkO, chkC, decC, svV, rulO, rulC, gamO, gamC] at S0
  refine enterL Tryz.func65 rfl Tryz.ntmps65 rfl (S0) ?_; simp only [frame, Nat.zero_add, Nat.reduceAdd]
  refine XC.hint 0 2 ?_
  cases hst : t.strange ⟨c, o⟩ with
  | true =>
    rw [hst] at hstr
    refine XC.drawT mixed rfl rfl (by kernel_rfl) ?_
    repeat (first | (refine M0 ?_; first | refine SL ?_ | refine SB fun _ _ => ?_ | refine Y4 (Ev.load_loc tok 1 (g := gr) (o := 0) rfl rfl rfl rfl) ?_ | refine Y4 (Ev.load_loc tok 2 (g := g) (o := 6) rfl rfl rfl rfl) ?_ | refine Y4 (Ev.call (f := 59) (ck rfl) rfl (fun w5 S5 => hstr w5 S5 (.tail _ (.tail _ (.head _))))) ?_) | (refine M2 ?_; refine SE ?_) | (refine M3 ?_; first | refine SG ?_ | refine SF ?_ | refine YF (Ev.load_loc tok 1 (g := gr) (o := 0) rfl rfl rfl rfl) ?_ | refine YF (Ev.load_loc tok 2 (g := g) (o := 6) rfl rfl rfl rfl) ?_ | refine YF (Ev.call (f := 59) (ck rfl) rfl (fun w5 S5 => hstr w5 S5 (.tail _ (.tail _ (.head _))))) ?_) | (refine M4 ?_; refine SR ?_) | (refine M5 ?_; first | exact M7 | refine YM ?_ | refine YN ?_ ?_))
    refine XL.callM false (refV 0 2) (ck rfl) rfl rfl (fun w _ => must_any _ _ _ w) (fun h => by cases h) (fun _ => ?_)
    exact XE.panic0 fun w' S => ⟨rfl, S.toBelowG (own3 hc hr hg ZZO4)⟩
  | false =>
    rw [hst] at hstr
    refine XC.drawT mixed rfl rfl (by kernel_rfl) ?_
    repeat (first | (refine M0 ?_; first | refine SL ?_ | refine SB fun _ _ => ?_ | refine Y4 (Ev.load_loc tok 1 (g := gr) (o := 0) rfl rfl rfl rfl) ?_ | refine Y4 (Ev.load_loc tok 2 (g := g) (o := 6) rfl rfl rfl rfl) ?_ | refine Y4 (Ev.call (f := 59) (ck rfl) rfl (fun w5 S5 => hstr w5 S5 (.tail _ (.tail _ (.head _))))) ?_) | (refine M2 ?_; refine SE ?_) | (refine M3 ?_; first | refine SG ?_ | refine SF ?_ | refine YF (Ev.load_loc tok 1 (g := gr) (o := 0) rfl rfl rfl rfl) ?_ | refine YF (Ev.load_loc tok 2 (g := g) (o := 6) rfl rfl rfl rfl) ?_ | refine YF (Ev.call (f := 59) (ck rfl) rfl (fun w5 S5 => hstr w5 S5 (.tail _ (.tail _ (.head _))))) ?_) | (refine M4 ?_; refine SR ?_) | (refine M5 ?_; first | exact M7 | refine YM ?_ | refine YN ?_ ?_))
    rw [hq']
    cases decide (l1.length = t.m) with
    | true =>
      refine XL.callM true (refV 0 2) (ck rfl) rfl rfl (fun w _ => must_any _ _ _ w) (fun _ => ?_) (fun h => by cases h)
      repeat (first | (refine M0 ?_; first | refine SL ?_ | refine SB fun _ _ => ?_) | (refine M1 ?_; refine SC ?_) | (refine M2 ?_; refine SE ?_))
      exact XE.end0 Tryz.results65 fun w' S => ⟨rfl, S.toBelowG (own3 hc hr hg ZZO4)⟩
    | false =>
      refine XL.callM false (refV 0 2) (ck rfl) rfl rfl (fun w _ => must_any _ _ _ w) (fun h => by cases h) (fun _ => ?_)
      exact XE.panic0 fun w' S => ⟨rfl, S.toBelowG (own3 hc hr hg ZZO4)⟩
def _root_.Go.Proofs.YtmpaiphakjogjaaGreat.Bs.CTk.earB (t : CTk) (r : CRu) (d : CDe) : Bool := if d.plan = nev then !t.called r else t.may r (d.plan.close - t.from_)
set_option maxHeartbeats 8000000 in
theorem early_any (hc : w.heap[gc]? = some (chkO gr q1 q2 d)) (hr : w.heap[gr]? = some (rulO g r)) (hg : w.heap[g]? = some (gamO v t gm)) (hT : CtAt w w.heap.size v t) (ho : CtOk t) (hq : RuOk r) (hst : t.strange d.plan = false) :
    Calls Tryz.prog 66 #[.pointer (some ⟨gc, 0, none⟩)] w fun e w' => e = mustE (t.earB r d) (refV 0 150) ∧ Below w.heap.size w w' := by
  have n1 : gc ≠ gr := fun e => by subst e; rw [hr] at hc; simp [chkO, rulO, chkC, rulC] at hc
  have n2 : gc ≠ g := fun e => by subst e; rw [hg] at hc; simp [chkO, gamO, chkC, gamC] at hc
  have n3 : gr ≠ g := fun e => by subst e; rw [hg] at hr; simp [rulO, gamO, rulC, gamC] at hr
  have S0 := Sys.start3 (B := 0) (Nat.zero_le _) (Nat.zero_le gc) (Nat.zero_le gr) (Nat.zero_le g) hc hr hg n1 n2 n3
  have lr := (Array.getElem?_eq_some_iff.1 hr).1
  have lg := (Array.getElem?_eq_some_iff.1 hg).1
  have lc := (Array.getElem?_eq_some_iff.1 hc).1
  have h60 := ho.n60
  have hfr := ho.frm
  have hdl := ho.dly
  have hB5 := fun (w5 : World) (S5 : Sys 0 w [(gc, chkO gr q1 q2 d), (gr, rulO g r), (g, gamO v t gm)] w5) => S5.toBelowG (own3 hc hr hg ZZO4)
  have hal := fun (w5 : World) (S5 : Sys 0 w [(gc, chkO gr q1 q2 d), (gr, rulO g r), (g, gamO v t gm)] w5) => allowed_any (r := r) ((hT.below (hB5 w5 S5)).more (hB5 w5 S5).size) ho hq (S5.own _ (.tail _ (.head _))).2 (S5.own _ (.tail _ (.tail _ (.head _)))).2
  have hsh := fun (w5 : World) (S5 : Sys 0 w [(gc, chkO gr q1 q2 d), (gr, rulO g r), (g, gamO v t gm)] w5) => shut_any (S5.own _ (.head _)).2
  have hml := fun (w5 : World) (S5 : Sys 0 w [(gc, chkO gr q1 q2 d), (gr, rulO g r), (g, gamO v t gm)] w5) => may_any (r := r) (i := d.plan.close - t.from_) ((hT.below (hB5 w5 S5)).more (hB5 w5 S5).size) ho hq (S5.own _ (.tail _ (.head _))).2 (S5.own _ (.tail _ (.tail _ (.head _)))).2
  have hix := fun (hi : i64in (d.plan.close - t.from_)) (w5 : World) (S5 : Sys 0 w [(gc, chkO gr q1 q2 d), (gr, rulO g r), (g, gamO v t gm)] w5) => cindex_any (t := t) (S5.own _ (.head _)).2 (S5.own _ (.tail _ (.head _))).2 (S5.own _ (.tail _ (.tail _ (.head _)))).2 hi
  obtain ⟨⟨c, o⟩, l1, l2⟩ := d
  simp only [chkO, chkC, decC, svV, rulO, rulC, gamO, gamC] at S0
  refine enterL Tryz.func66 rfl Tryz.ntmps66 rfl (S0) ?_; simp only [frame, Nat.zero_add, Nat.reduceAdd]
  refine XC.hint 0 2 ?_
  repeat (first | (refine M0 ?_; first | refine SL ?_ | refine SB fun _ _ => ?_ | refine Y4 (Ev.call (f := 45) (ck rfl) rfl (fun w5 S5 => hal w5 S5)) ?_) | (refine M1 ?_; refine SC ?_) | (refine M2 ?_; refine SE ?_))
  by_cases hn : (⟨c, o⟩ : CPl) = nev
  · obtain ⟨rfl, rfl⟩ : c = -1 ∧ o = -1 := ⟨congrArg CPl.close hn, congrArg CPl.open_ hn⟩
    have e0 : decide ((⟨-1, -1⟩ : CPl) ≠ nev) = false := decide_eq_false fun h => h rfl
    simp only [e0] at hsh
    have e1 : t.earB r ⟨⟨-1, -1⟩, l1, l2⟩ = !t.called r := by unfold CTk.earB; rw [if_pos hn]
    rw [e1]
    refine XC.drawT mixed rfl rfl (by kernel_rfl) ?_
    repeat (first | (refine M0 ?_; first | refine SL ?_ | refine SB fun _ _ => ?_ | refine Y4 (Ev.call (f := 93) (ck rfl) rfl (fun w5 S5 => hsh w5 S5)) ?_) | (refine M2 ?_; refine SE ?_) | (refine M3 ?_; first | refine SG ?_ | refine SF ?_ | refine YF (Ev.call (f := 93) (ck rfl) rfl (fun w5 S5 => hsh w5 S5)) ?_) | (refine M4 ?_; refine SR ?_) | (refine M5 ?_; first | exact M7 | refine YM ?_ | refine YN ?_ ?_))
    cases t.called r with
    | false =>
      refine XL.callM true (refV 0 150) (ck rfl) rfl rfl (fun w _ => must_any _ _ _ w) (fun _ => ?_) (fun h => by cases h)
      repeat (first | (refine M0 ?_; first | refine SL ?_ | refine SB fun _ _ => ?_) | (refine M1 ?_; refine SC ?_) | (refine M2 ?_; refine SE ?_))
      exact XE.end0 Tryz.results66 fun w' S => ⟨rfl, S.toBelowG (own3 hc hr hg ZZO4)⟩
    | true =>
      refine XL.callM false (refV 0 150) (ck rfl) rfl rfl (fun w _ => must_any _ _ _ w) (fun h => by cases h) (fun _ => ?_)
      exact XE.panic0 fun w' S => ⟨rfl, S.toBelowG (own3 hc hr hg ZZO4)⟩
  · obtain ⟨b1, b2⟩ := strange_f hst hn
    simp only at b1 b2
    have hix := @hix (by unfold i64in; simp only; unfold CTk.last at b1; omega)
    have e0 : decide ((⟨c, o⟩ : CPl) ≠ nev) = true := decide_eq_true hn
    simp only [e0] at hsh
    have e1 : t.earB r ⟨⟨c, o⟩, l1, l2⟩ = t.may r (c - t.from_) := by unfold CTk.earB; rw [if_neg hn]
    rw [e1]
    refine XC.drawT mixed rfl rfl (by kernel_rfl) ?_
    cases hm : t.may r (c - t.from_) with
    | true =>
      simp only [hm] at hml
      repeat (first | (refine M0 ?_; first | refine SL ?_ | refine SB fun _ _ => ?_ | refine Y4 (Ev.call (f := 93) (ck rfl) rfl (fun w5 S5 => hsh w5 S5)) ?_ | refine Y4 (Ev.call (f := 94) (ck rfl) rfl (fun w5 S5 => hix w5 S5)) ?_ | refine Y4 (Ev.call (f := 42) (ck rfl) rfl (fun w5 S5 => hml w5 S5)) ?_) | (refine M2 ?_; refine SE ?_) | (refine M3 ?_; first | refine SG ?_ | refine SF ?_ | refine YF (Ev.call (f := 93) (ck rfl) rfl (fun w5 S5 => hsh w5 S5)) ?_ | refine YF (Ev.call (f := 94) (ck rfl) rfl (fun w5 S5 => hix w5 S5)) ?_ | refine YF (Ev.call (f := 42) (ck rfl) rfl (fun w5 S5 => hml w5 S5)) ?_) | (refine M4 ?_; refine SR ?_) | (refine M5 ?_; first | exact M7 | refine YM ?_ | refine YN ?_ ?_))
      refine XL.callM true (refV 0 150) (ck rfl) rfl rfl (fun w _ => must_any _ _ _ w) (fun _ => ?_) (fun h => by cases h)
      repeat (first | (refine M0 ?_; first | refine SL ?_ | refine SB fun _ _ => ?_) | (refine M1 ?_; refine SC ?_) | (refine M2 ?_; refine SE ?_))
      exact XE.end0 Tryz.results66 fun w' S => ⟨rfl, S.toBelowG (own3 hc hr hg ZZO4)⟩
    | false =>
      simp only [hm] at hml
      repeat (first | (refine M0 ?_; first | refine SL ?_ | refine SB fun _ _ => ?_ | refine Y4 (Ev.call (f := 93) (ck rfl) rfl (fun w5 S5 => hsh w5 S5)) ?_ | refine Y4 (Ev.call (f := 94) (ck rfl) rfl (fun w5 S5 => hix w5 S5)) ?_ | refine Y4 (Ev.call (f := 42) (ck rfl) rfl (fun w5 S5 => hml w5 S5)) ?_) | (refine M2 ?_; refine SE ?_) | (refine M3 ?_; first | refine SG ?_ | refine SF ?_ | refine YF (Ev.call (f := 93) (ck rfl) rfl (fun w5 S5 => hsh w5 S5)) ?_ | refine YF (Ev.call (f := 94) (ck rfl) rfl (fun w5 S5 => hix w5 S5)) ?_ | refine YF (Ev.call (f := 42) (ck rfl) rfl (fun w5 S5 => hml w5 S5)) ?_) | (refine M4 ?_; refine SR ?_) | (refine M5 ?_; first | exact M7 | refine YM ?_ | refine YN ?_ ?_))
      refine XL.callM false (refV 0 150) (ck rfl) rfl rfl (fun w _ => must_any _ _ _ w) (fun h => by cases h) (fun _ => ?_)
      exact XE.panic0 fun w' S => ⟨rfl, S.toBelowG (own3 hc hr hg ZZO4)⟩
end
end Go.Proofs.YtmpaiphakjogjaaGreat.X
namespace Go.Proofs.YtmpaiphakjogjaaGreat.X
open Go Go.RowKit Go.Proofs.YtmpaiphakjogjaaGreat.Bs
noncomputable def _root_.Go.Proofs.YtmpaiphakjogjaaGreat.Bs.CTk.hldsB (t : CTk) (d : CDe) : Bool := decide (d.plan = nev) || (decide (d.plan = t.plan (d.plan.close - t.from_)) && !(t.wit (d.plan.close - t.from_)).isSome)
theorem mustE_t (v : Value) : mustE true v = .returned (.tuple #[]) := rfl
section
variable {t : CTk} {v : CTV} {r : CRu} {b0 g gr gc gm : Nat} {ks : List Nat} {w : World} {q1 q2 : SV} {d : CDe}
set_option maxHeartbeats 16000000 in
theorem holdsC_any (hG : Gam t v b0 g gm ks [] [] w) (ho : CtOk t) (hc : w.heap[gc]? = some (chkO gr q1 q2 d)) (hr : w.heap[gr]? = some (rulO g r)) (hgc : gc ∈ ks) (hgr : gr ∈ ks) (hbc : b0 ≤ gc) (hbr : b0 ≤ gr) (hst : t.strange d.plan = false)
    (hm : d.plan ≠ nev → t.may r (d.plan.close - t.from_) = true) :
    Calls Tryz.prog 67 #[.pointer (some ⟨gc, 0, none⟩)] w (GamE t b0 gm ks (mustE (t.hldsB d) (refV 0 151)) w) := by
  have hg : w.heap[g]? = some (gamO v t gm) := hG.game
  have n1 : gc ≠ gr := fun e => by subst e; rw [hr] at hc; simp [chkO, rulO, chkC, rulC] at hc
  have n2 : gc ≠ g := fun e => by subst e; rw [hg] at hc; simp [chkO, gamO, chkC, gamC] at hc
  have n3 : gr ≠ g := fun e => by subst e; rw [hg] at hr; simp [rulO, gamO, rulC, gamC] at hr
  have hb0 : b0 ≤ w.heap.size := hG.fam.base
  have S0 := Sys.start3 (B := b0) hb0 hbc hbr hG.bg hc hr hg n1 n2 n3
  have hrm : gr ≠ gm := fun e => hG.nin (e ▸ hgr)
  have hcm : gc ≠ gm := fun e => hG.nin (e ▸ hgc)
  have hgs := hG.gin
  have h60 := ho.n60
  have hfr := ho.frm
  have hdl := ho.dly
  have hsh := fun {L : Lo} {W : World} (w5 : World) (S5 : Sys b0 W L w5) (m1 : (gc, chkO gr q1 q2 d) ∈ L) => shut_any (S5.own _ m1).2
  have hix := fun (hi : i64in (d.plan.close - t.from_)) {L : Lo} {W : World} (w5 : World) (S5 : Sys b0 W L w5) (m0 : (gc, chkO gr q1 q2 d) ∈ L) (m1 : (gr, rulO g r) ∈ L) (m2 : (g, gamO v t gm) ∈ L) => cindex_any (t := t) (S5.own _ m0).2 (S5.own _ m1).2 (S5.own _ m2).2 hi
  obtain ⟨⟨c, o⟩, l1, l2⟩ := d
  by_cases hn : (⟨c, o⟩ : CPl) = nev
  · obtain ⟨rfl, rfl⟩ : c = -1 ∧ o = -1 := ⟨congrArg CPl.close hn, congrArg CPl.open_ hn⟩
    have e0 : decide ((⟨-1, -1⟩ : CPl) ≠ nev) = false := decide_eq_false fun h => h rfl
    simp only [e0] at hsh
    have e1 : t.hldsB ⟨⟨-1, -1⟩, l1, l2⟩ = true := by unfold CTk.hldsB; rw [decide_eq_true hn]; rfl
    rw [e1, mustE_t]
    simp only [chkO, chkC, decC, svV, rulO, rulC, gamO, gamC] at S0
    refine enterL Tryz.func67 rfl Tryz.ntmps67 rfl (S0) ?_; simp only [frame, Nat.zero_add, Nat.reduceAdd]
    refine XC.hint 0 2 ?_
    repeat (first | (refine M0 ?_; first | refine SL ?_ | refine SB fun _ _ => ?_ | refine Y4 (Ev.call (f := 93) (ck rfl) rfl (fun w5 S5 => hsh w5 S5 (.head _))) ?_) | (refine M1 ?_; refine SC ?_) | (refine M2 ?_; refine SE ?_))
    refine XE.retg tok Tryz.results67 rfl (by simp only [and_self, and_true]) (fun w' S => ?_)
    exact GamE.of (GamR.end2 (kk := []) (R := fun _ _ => True) (x := .nilFunc) hG Since.refl S (.tail _ (.tail _ (.head _))) trivial ZZHM (own3 hg hr hc ZZO4))
  · obtain ⟨b1, b2⟩ := strange_f hst hn
    obtain ⟨c1, c2, c3, c4⟩ := may_in (hm hn)
    simp only at b1 b2 c2 c3 c4
    have hix := @hix (by unfold i64in; simp only; unfold CTk.last at b1; omega)
    have e0 : decide ((⟨c, o⟩ : CPl) ≠ nev) = true := decide_eq_true hn
    simp only [e0] at hsh
    obtain ⟨i, hi⟩ : ∃ i : Nat, c - t.from_ = (i : Nat) := ⟨(c - t.from_).toNat, by omega⟩
    simp only [hi] at hix
    rw [hi] at c3
    have e1 : t.hldsB ⟨⟨c, o⟩, l1, l2⟩ = (decide (c = (t.plan (i : Nat)).close) && decide (o = (t.plan (i : Nat)).open_) && !(t.wit (i : Nat)).isSome) := by
      unfold CTk.hldsB
      simp only
      rw [decide_eq_false hn, hi, Bool.false_or]
      congr 1
      obtain ⟨a, b⟩ := t.plan (i : Nat)
      by_cases x1 : c = a <;> by_cases x2 : o = b <;> simp [x1, x2]
    rw [e1]
    have hl1 : -31 ≤ t.last ∧ t.last ≤ 60 := by unfold CTk.last; omega
    have hpl := fun {L : Lo} {B : Nat} {W1 : World} (w9 : World) (S9 : Sys B W1 L w9) (hm : (g, gamO v t gm) ∈ L) => plan_any (v := v) (t := t) (gm := gm) (i := (i : Nat)) (S9.own _ hm).2 ho ⟨by omega, by omega⟩
    simp only [plnV] at hpl
    simp only [chkO, chkC, decC, svV, rulO, rulC, gamO, gamC] at S0
    refine enterL Tryz.func67 rfl Tryz.ntmps67 rfl (S0) ?_; simp only [frame, Nat.zero_add, Nat.reduceAdd]
    refine XC.hint 0 2 ?_
    repeat (first | (refine M0 ?_; first | refine SL ?_ | refine SB fun _ _ => ?_ | refine Y4 (Ev.call (f := 93) (ck rfl) rfl (fun w5 S5 => hsh w5 S5 (.head _))) ?_) | (refine M1 ?_; refine SC ?_) | (refine M2 ?_; refine SE ?_))
    refine XC.cutn [0] rfl (fun z : World => [(3, .bool (t.wit (i : Nat)).isSome)]) (fun _ => [(gc, cel 127 (chkC gr q1 q2 ⟨⟨c, o⟩, l1, l2⟩)), (gr, rulO g r), (g, gamO v t gm)]) (fun z => z) (fun z => Gam t v b0 g gm ks [] [] z ∧ Since w gm z) ?_ ?_
    · have hB : Below b0 w w := Below.refl b0 w
      simp only [rulO, rulC, gamO, gamC]
      refine XC.drawRS (trunc w b0) [(gc, cel 127 [.pointer (some ⟨gr, 0, none⟩), .int .i64 c, .int .i64 o, .slice q1.A q1.n q1.c, .slice q2.A q2.n q2.c])] [0, 1, 2, 3, 4] [5, 6, 7, 8, 9, 10, 11, 12] mixed (fun _ h => Sys.anchorT hB h (fun e he => by rw [List.mem_singleton.1 he]; exact .head _) (by simp) hb0) rfl (by kernel_rfl) ?_
      repeat (any_goals (first | (refine M0 ?_; first | refine SL ?_ | refine SB fun _ _ => ?_ | refine Y4 (Ev.load_loc tok 0 (g := gc) (o := 0) rfl rfl rfl rfl) ?_ | refine Y4 (Ev.call (f := 94) (ck rfl) rfl (fun w5 S5 => hix w5 S5 (by first | exact .head _ | exact .tail _ (.head _)) (by first | exact .tail _ (.head _) | exact .tail _ (.tail _ (.head _))) (by first | exact .tail _ (.tail _ (.head _)) | exact .tail _ (.tail _ (.tail _ (.head _)))))) ?_ | (refine XL.at_call 48 ?_; refine XL.callI (WitX t (i : Nat)) (ck rfl) rfl rfl hG Since.refl (by first | exact .tail _ (.tail _ (.head _)) | exact .tail _ (.tail _ (.tail _ (.head _)))) (fun w5 ks2 S5 hL5 hG5 => witness_any hG5 ho (S5.own (gr, rulO g r) (by first | exact .tail _ (.head _) | exact .tail _ (.tail _ (.head _)))).2 (hL5 (gr, rulO g r) (by first | exact .tail _ (.head _) | exact .tail _ (.tail _ (.head _)))) hbr c3) (fun w5 x new hR hG5 hS5 => ?_) ZZHM (own3 hg hr hc ZZO4); obtain ⟨rfl, rfl⟩ := hR; have hB5 : Below b0 w w5 := hS5.below hG.bm hb0; have hz5 := hS5.size)) | (refine M1 ?_; refine SC ?_) | (refine M2 ?_; first | refine SE ?_ | ((with_reducible refine atHeld ?_); refine z7 ?_)) | (refine M3 ?_; first | refine SG ?_ | refine SF ?_ | refine YF (Ev.load_loc tok 0 (g := gc) (o := 0) rfl rfl rfl rfl) ?_ | refine YF (Ev.call (f := 94) (ck rfl) rfl (fun w5 S5 => hix w5 S5 (by first | exact .head _ | exact .tail _ (.head _)) (by first | exact .tail _ (.head _) | exact .tail _ (.tail _ (.head _))) (by first | exact .tail _ (.tail _ (.head _)) | exact .tail _ (.tail _ (.tail _ (.head _)))))) ?_) | (refine M4 ?_; refine SR ?_) | (refine M5 ?_; first | exact M7 | refine YM ?_ | refine YN ?_ ?_)))
      any_goals (repeat (first | exact AnyR.nil | refine AnyR.skip rfl ?_))
      all_goals
        exact XE.leafW (fun z9 S9 => ⟨z9, ⟨hG5.on (ks := ks) S9 (by repeat (first | exact List.mem_cons_self | apply List.mem_cons_of_mem)) ZZMK (fun x hx => List.mem_append_right _ (List.mem_append_right _ hx)) hgs (fun x hx => hx), Since.end2 hG5 hS5 S9 ZZMK (own3 (hS5.keep hg hG.ne) (hS5.keep hr hrm) (hS5.keep hc hcm) ZZO4)⟩, ZZSUB, S9.rebase ZZSM⟩)
    rintro z ⟨hGz, hSz⟩
    simp only [chkO, chkC, decC, svV, rulO, rulC, gamO, gamC]
    dsimp only [List.cons_append, List.nil_append]
    cases hb : (decide (c = (t.plan (i : Nat)).close) && decide (o = (t.plan (i : Nat)).open_)) with
    | false =>
      refine XC.drawT mixed rfl rfl (by kernel_rfl) ?_
      repeat (first | (refine M0 ?_; first | refine SL ?_ | refine SB fun _ _ => ?_ | refine Y4 (Ev.load_loc_agg tok 0 (g := gc) (o := 1) rfl rfl rfl rfl) ?_ | refine Y4 (Ev.load_loc tok 1 (g := gr) (o := 0) rfl rfl rfl rfl) ?_ | refine Y4 (Ev.call (f := 94) (ck rfl) rfl (fun w5 S5 => hix w5 S5 (.head _) (.tail _ (.head _)) (.tail _ (.tail _ (.head _))))) ?_ | refine Y4 (Ev.call (f := 33) (ck rfl) rfl (fun w5 S5 => hpl w5 S5 (.tail _ (.tail _ (.head _))))) ?_ | refine Y4 (Ev.plnEql rfl rfl) ?_) | (refine M2 ?_; refine SE ?_) | (refine M3 ?_; first | refine SG ?_ | refine SF ?_ | refine YF (Ev.load_loc_agg tok 0 (g := gc) (o := 1) rfl rfl rfl rfl) ?_ | refine YF (Ev.load_loc tok 1 (g := gr) (o := 0) rfl rfl rfl rfl) ?_ | refine YF (Ev.call (f := 94) (ck rfl) rfl (fun w5 S5 => hix w5 S5 (.head _) (.tail _ (.head _)) (.tail _ (.tail _ (.head _))))) ?_ | refine YF (Ev.call (f := 33) (ck rfl) rfl (fun w5 S5 => hpl w5 S5 (.tail _ (.tail _ (.head _))))) ?_ | refine YF (Ev.plnEql rfl rfl) ?_) | (refine M4 ?_; refine SR ?_) | (refine M5 ?_; first | exact M7 | refine YM ?_ | refine YN ?_ ?_))
      rw [hb]
      repeat (first | (refine M0 ?_; first | refine SL ?_ | refine SB fun _ _ => ?_) | (refine M2 ?_; refine SE ?_) | (refine M3 ?_; first | refine SG ?_ | refine SF ?_) | (refine M4 ?_; refine SR ?_) | (refine M5 ?_; first | exact M7 | refine YM ?_ | refine YN ?_ ?_))
      refine XL.callM false (refV 0 151) (ck rfl) rfl rfl (fun w _ => must_any _ _ _ w) (fun h => by cases h) (fun _ => ?_)
      exact XE.panic0 fun w' S => GamE.of (GamR.end2 (kk := []) (R := fun _ _ => True) (x := .nilFunc) hGz hSz S (.tail _ (.tail _ (.head _))) trivial ZZHM (own3 hGz.game (hSz.keep hr hrm) (hSz.keep hc hcm) ZZO4))
    | true =>
      cases hw : (t.wit (i : Nat)).isSome with
      | false =>
        refine XC.drawT mixed rfl rfl (by kernel_rfl) ?_
        repeat (first | (refine M0 ?_; first | refine SL ?_ | refine SB fun _ _ => ?_ | refine Y4 (Ev.load_loc_agg tok 0 (g := gc) (o := 1) rfl rfl rfl rfl) ?_ | refine Y4 (Ev.load_loc tok 1 (g := gr) (o := 0) rfl rfl rfl rfl) ?_ | refine Y4 (Ev.call (f := 94) (ck rfl) rfl (fun w5 S5 => hix w5 S5 (.head _) (.tail _ (.head _)) (.tail _ (.tail _ (.head _))))) ?_ | refine Y4 (Ev.call (f := 33) (ck rfl) rfl (fun w5 S5 => hpl w5 S5 (.tail _ (.tail _ (.head _))))) ?_ | refine Y4 (Ev.plnEql rfl rfl) ?_) | (refine M2 ?_; refine SE ?_) | (refine M3 ?_; first | refine SG ?_ | refine SF ?_ | refine YF (Ev.load_loc_agg tok 0 (g := gc) (o := 1) rfl rfl rfl rfl) ?_ | refine YF (Ev.load_loc tok 1 (g := gr) (o := 0) rfl rfl rfl rfl) ?_ | refine YF (Ev.call (f := 94) (ck rfl) rfl (fun w5 S5 => hix w5 S5 (.head _) (.tail _ (.head _)) (.tail _ (.tail _ (.head _))))) ?_ | refine YF (Ev.call (f := 33) (ck rfl) rfl (fun w5 S5 => hpl w5 S5 (.tail _ (.tail _ (.head _))))) ?_ | refine YF (Ev.plnEql rfl rfl) ?_) | (refine M4 ?_; refine SR ?_) | (refine M5 ?_; first | exact M7 | refine YM ?_ | refine YN ?_ ?_))
        rw [hb]
        repeat (first | (refine M0 ?_; first | refine SL ?_ | refine SB fun _ _ => ?_) | (refine M2 ?_; refine SE ?_) | (refine M3 ?_; first | refine SG ?_ | refine SF ?_) | (refine M4 ?_; refine SR ?_) | (refine M5 ?_; first | exact M7 | refine YM ?_ | refine YN ?_ ?_))
        refine XL.callM true (refV 0 151) (ck rfl) rfl rfl (fun w _ => must_any _ _ _ w) (fun _ => ?_) (fun h => by cases h)
        repeat (first | (refine M0 ?_; first | refine SL ?_ | refine SB fun _ _ => ?_) | (refine M1 ?_; refine SC ?_) | (refine M2 ?_; refine SE ?_))
        exact XE.end0 Tryz.results67 fun w' S => GamE.of (GamR.end2 (kk := []) (R := fun _ _ => True) (x := .nilFunc) hGz hSz S (.tail _ (.tail _ (.head _))) trivial ZZHM (own3 hGz.game (hSz.keep hr hrm) (hSz.keep hc hcm) ZZO4))
      | true =>
        refine XC.drawT mixed rfl rfl (by kernel_rfl) ?_
        repeat (first | (refine M0 ?_; first | refine SL ?_ | refine SB fun _ _ => ?_ | refine Y4 (Ev.load_loc_agg tok 0 (g := gc) (o := 1) rfl rfl rfl rfl) ?_ | refine Y4 (Ev.load_loc tok 1 (g := gr) (o := 0) rfl rfl rfl rfl) ?_ | refine Y4 (Ev.call (f := 94) (ck rfl) rfl (fun w5 S5 => hix w5 S5 (.head _) (.tail _ (.head _)) (.tail _ (.tail _ (.head _))))) ?_ | refine Y4 (Ev.call (f := 33) (ck rfl) rfl (fun w5 S5 => hpl w5 S5 (.tail _ (.tail _ (.head _))))) ?_ | refine Y4 (Ev.plnEql rfl rfl) ?_) | (refine M2 ?_; refine SE ?_) | (refine M3 ?_; first | refine SG ?_ | refine SF ?_ | refine YF (Ev.load_loc_agg tok 0 (g := gc) (o := 1) rfl rfl rfl rfl) ?_ | refine YF (Ev.load_loc tok 1 (g := gr) (o := 0) rfl rfl rfl rfl) ?_ | refine YF (Ev.call (f := 94) (ck rfl) rfl (fun w5 S5 => hix w5 S5 (.head _) (.tail _ (.head _)) (.tail _ (.tail _ (.head _))))) ?_ | refine YF (Ev.call (f := 33) (ck rfl) rfl (fun w5 S5 => hpl w5 S5 (.tail _ (.tail _ (.head _))))) ?_ | refine YF (Ev.plnEql rfl rfl) ?_) | (refine M4 ?_; refine SR ?_) | (refine M5 ?_; first | exact M7 | refine YM ?_ | refine YN ?_ ?_))
        rw [hb]
        repeat (first | (refine M0 ?_; first | refine SL ?_ | refine SB fun _ _ => ?_) | (refine M2 ?_; refine SE ?_) | (refine M3 ?_; first | refine SG ?_ | refine SF ?_) | (refine M4 ?_; refine SR ?_) | (refine M5 ?_; first | exact M7 | refine YM ?_ | refine YN ?_ ?_))
        refine XL.callM false (refV 0 151) (ck rfl) rfl rfl (fun w _ => must_any _ _ _ w) (fun h => by cases h) (fun _ => ?_)
        exact XE.panic0 fun w' S => GamE.of (GamR.end2 (kk := []) (R := fun _ _ => True) (x := .nilFunc) hGz hSz S (.tail _ (.tail _ (.head _))) trivial ZZHM (own3 hGz.game (hSz.keep hr hrm) (hSz.keep hc hcm) ZZO4))
end
end Go.Proofs.YtmpaiphakjogjaaGreat.X
namespace Go.Proofs.YtmpaiphakjogjaaGreat.X
open Go Go.RowKit Go.Proofs.YtmpaiphakjogjaaGreat.Bs
noncomputable def _root_.Go.Proofs.YtmpaiphakjogjaaGreat.Bs.CTk.hgtE (t : CTk) (d : CDe) : Ending := match firstB (fun k => decide (d.peaks[k]?.getD (0, 0) ≠ t.peak d.plan k)) t.m with
  | none => .returned (.tuple #[])
  | some k => .panicked (pan (refV (k : Nat) 152))
section
variable {t : CTk} {v : CTV} {r : CRu} {b0 g gr gc gm : Nat} {ks : List Nat} {w : World} {q1 q2 : SV} {d : CDe}
set_option maxHeartbeats 16000000 in
theorem heights_any (hG : Gam t v b0 g gm ks [] [] w) (ho : CtOk t) (hc : w.heap[gc]? = some (chkO gr q1 q2 d)) (hr : w.heap[gr]? = some (rulO g r)) (hgc : gc ∈ ks) (hgr : gr ∈ ks) (hbc : b0 ≤ gc) (hbr : b0 ≤ gr) (hst : t.strange d.plan = false)
    (hall : ∀ k i, k < t.m → i < t.n → (t.ins k d.plan i).isSome = true) (hL1 : ListAt pekK5 w (Lt b0) q1 d.peaks) (hlen : d.peaks.length = t.m) :
    Calls Tryz.prog 68 #[.pointer (some ⟨gc, 0, none⟩)] w (GamE t b0 gm ks (t.hgtE d) w) := by
  have hg : w.heap[g]? = some (gamO v t gm) := hG.game
  have n1 : gc ≠ gr := fun e => by subst e; rw [hr] at hc; simp [chkO, rulO, chkC, rulC] at hc
  have n2 : gc ≠ g := fun e => by subst e; rw [hg] at hc; simp [chkO, gamO, chkC, gamC] at hc
  have n3 : gr ≠ g := fun e => by subst e; rw [hg] at hr; simp [rulO, gamO, rulC, gamC] at hr
  have hb0 : b0 ≤ w.heap.size := hG.fam.base
  have S0 := Sys.start3 (B := b0) hb0 hbc hbr hG.bg hc hr hg n1 n2 n3
  have hrm : gr ≠ gm := fun e => hG.nin (e ▸ hgr)
  have hcm : gc ≠ gm := fun e => hG.nin (e ▸ hgc)
  have hgs := hG.gin
  have hm8 := ho.m8
  have lgc := hG.lt gc (.tail _ hgc)
  have lgr := hG.lt gr (.tail _ hgr)
  have lg := hG.lt g (.tail _ hgs)
  have hpk := fun (k : Nat) (hk : k < t.m) (w5 : World) (ks2 : List Nat) (hG5 : Gam t v b0 g gm ks2 [] [] w5) (hr5 : w5.heap[gr]? = some (rulO g r)) (h5 : gr ∈ ks2) => peak_any hG5 ho hr5 h5 hbr hk hst (hall k · hk)
  have hn1 := hL1.len (by decide)
  obtain ⟨q1A, q1n, q1c⟩ := q1
  simp only at hn1
  rw [hlen] at hn1
  subst hn1
  obtain ⟨⟨c, o⟩, l1, l2⟩ := d
  simp only at hlen hL1
  simp only [plnV] at hpk
  simp only [chkO, chkC, decC, svV, rulO, rulC, gamO, gamC] at S0
  refine enterL Tryz.func68 rfl Tryz.ntmps68 rfl (S0) ?_; simp only [frame, Nat.zero_add, Nat.reduceAdd]
  refine XC.hint 0 2 ?_
  repeat (first | (refine M0 ?_; first | refine SL ?_ | refine SB fun _ _ => ?_) | (refine M1 ?_; refine SC ?_) | (refine M2 ?_; refine SE ?_))
  refine XC.loopk [0, 8, 9] rfl (fun z : Nat × World => [(10, .int .i64 (z.1 : Nat))]) (fun _ => [(gc, cel 127 (chkC gr ⟨q1A, t.m, q1c⟩ q2 ⟨⟨c, o⟩, l1, l2⟩)), (gr, rulO g r), (g, gamO v t gm)]) (fun z => z.2)
    (fun z => z.1 ≤ t.m ∧ Gam t v b0 g gm ks [] [] z.2 ∧ Since w gm z.2 ∧ ∀ j, j < z.1 → l1[j]?.getD (0, 0) = t.peak ⟨c, o⟩ j) (fun z => t.m - z.1) (0, w) ⟨Nat.zero_le _, hG, Since.refl, fun j hj => absurd hj (by simp)⟩ ZZSUB (fun _ h => h) ?_
  rintro ⟨k, W⟩ ⟨hk, hGW, hSW, hno⟩
  simp only at hk hGW hSW hno
  have hgW := hGW.game
  have hrW := hSW.keep hr hrm
  have hcW := hSW.keep hc hcm
  have hzW := hSW.size
  have hBW : Below b0 w W := hSW.below hG.bm hb0
  simp only [chkO, chkC, decC, svV, rulO, rulC, gamO, gamC]
  dsimp only [List.cons_append, List.nil_append]
  repeat (first | (refine M0 ?_; first | refine SL ?_ | refine SB fun _ _ => ?_) | (refine M1 ?_; refine SC ?_) | (refine M2 ?_; refine SE ?_))
  refine XC.cond _ rfl (fun h1 => ?_) (fun h1 => ?_)
  rotate_left
  · have hkm : k = t.m := by have := of_decide_eq_false h1; omega
    subst hkm
    repeat (first | (refine M0 ?_; first | refine SL ?_ | refine SB fun _ _ => ?_) | (refine M1 ?_; refine SC ?_) | (refine M2 ?_; refine SE ?_))
    refine XE.end0 Tryz.results68 fun w' S => ?_
    have e1 : t.hgtE ⟨⟨c, o⟩, l1, l2⟩ = .returned (.tuple #[]) := by
      unfold CTk.hgtE
      rw [firstB_none.2 fun j hj => by simp only [decide_eq_false_iff_not]; exact fun h => h (hno j hj)]
    rw [e1]
    exact GamE.of (GamR.end2 (kk := []) (R := fun _ _ => True) (x := .nilFunc) hGW hSW S (.tail _ (.tail _ (.head _))) trivial ZZHM (own3 hgW hrW hcW ZZO4))
  have hkm : k < t.m := by have := of_decide_eq_true h1; omega
  have hL1W := hL1.below hBW
  obtain ⟨ad, rfl, hlt⟩ := hL1.addr (by decide) (by omega)
  have hkl : k < l1.length := by omega
  obtain ⟨⟨pa, pb⟩, hpe⟩ : ∃ x, l1[k]? = some x := ⟨_, List.getElem?_eq_getElem hkl⟩
  have hel := hL1W.elem hpe
  repeat (first | (refine M0 ?_; first | refine SL ?_ | refine SB fun _ _ => ?_ | refine Y4 (Ev.load_old_agg tok [.int .i64 pa, .int .i64 pb] rfl rfl rfl (add_lt hlt) hel) ?_) | (refine M1 ?_; refine SC ?_) | (refine M2 ?_; refine SE ?_))
  rename_i g3 hg3
  refine XC.drawRT (trunc w b0) [(g3, cel 68 [.int .i64 pa, .int .i64 pb]), (gc, cel 127 [.pointer (some ⟨gr, 0, none⟩), .int .i64 c, .int .i64 o, .slice (some ad) t.m q1c, .slice q2.A q2.n q2.c]), (gr, rulO g r), (g, gamO v t gm)] [0, 1, 2, 3, 4, 5, 6, 7, 8, 9, 10, 13] [11, 12] mixed (fun _ h => Sys.anchorT hBW h (by intro e he; repeat (first | (cases he; done) | (rcases List.mem_cons.1 he with rfl | he; · repeat (first | exact List.mem_cons_self | apply List.mem_cons_of_mem)))) (by simp [n1, n2, n3]; omega) hb0) rfl rfl (by kernel_rfl) rfl (by kernel_rfl) ?_
  repeat (first | (refine M0 ?_; first | refine SL ?_ | refine SB fun _ _ => ?_ | refine Y4 (Ev.load_loc_agg tok 0 (g := g3) (o := 0) rfl rfl rfl rfl) ?_ | refine Y4 (Ev.load_loc tok 1 (g := gc) (o := 0) rfl rfl rfl rfl) ?_ | refine Y4 (Ev.load_loc_agg tok 1 (g := gc) (o := 1) rfl rfl rfl rfl) ?_) | (refine M2 ?_; refine SE ?_) | (refine M3 ?_; first | refine SG ?_ | refine SF ?_ | refine YF (Ev.load_loc_agg tok 0 (g := g3) (o := 0) rfl rfl rfl rfl) ?_ | refine YF (Ev.load_loc tok 1 (g := gc) (o := 0) rfl rfl rfl rfl) ?_ | refine YF (Ev.load_loc_agg tok 1 (g := gc) (o := 1) rfl rfl rfl rfl) ?_) | (refine M4 ?_; refine SR ?_) | (refine M5 ?_; first | exact M7 | refine YM ?_ | refine YN ?_ ?_))
  refine XL.callI (PekX t k ⟨c, o⟩) (ck rfl) rfl rfl hGW hSW (.tail _ (.tail _ (.tail _ (.head _)))) (fun w5 ks2 S5 hL5 hG5 => hpk k hkm w5 ks2 hG5 (S5.own (gr, rulO g r) (.tail _ (.tail _ (.head _)))).2 (hL5 (gr, rulO g r) (.tail _ (.tail _ (.head _))))) (fun w5 x new hR hG5 hS5 => ?_) ZZMK (own3 hgW hrW hcW ZZO4)
  obtain ⟨rfl, rfl⟩ := hR
  have hz5 := hS5.size
  have hB5 : Below b0 w w5 := hS5.below hG.bm hb0
  have hg5 := hG5.game
  have hr5 := hS5.keep hr hrm
  have hc5 := hS5.keep hc hcm
  simp only [iiV]
  repeat (first | (refine M0 ?_; first | refine SL ?_ | refine SB fun _ _ => ?_ | refine Y4 (Ev.pekEql rfl rfl) ?_) | (refine M2 ?_; refine SE ?_) | (refine M3 ?_; first | refine SG ?_ | refine SF ?_ | refine YF (Ev.pekEql rfl rfl) ?_) | (refine M4 ?_; refine SR ?_) | (refine M5 ?_; first | exact M7 | refine YM ?_ | refine YN ?_ ?_))
  refine z7 ?_
  repeat (first | (refine M0 ?_; first | refine SL ?_ | refine SB fun _ _ => ?_ | refine Y4 (Ev.pekEql rfl rfl) ?_) | (refine M2 ?_; refine SE ?_) | (refine M3 ?_; first | refine SG ?_ | refine SF ?_ | refine YF (Ev.pekEql rfl rfl) ?_) | (refine M4 ?_; refine SR ?_) | (refine M5 ?_; first | exact M7 | refine YM ?_ | refine YN ?_ ?_))
  refine z7 ?_
  repeat (first | (refine M0 ?_; first | refine SL ?_ | refine SB fun _ _ => ?_) | (refine M2 ?_; refine SE ?_) | (refine M3 ?_; first | refine SG ?_ | refine SF ?_) | (refine M4 ?_; refine SR ?_) | (refine M5 ?_; first | exact M7 | refine YM ?_ | refine YN ?_ ?_))
  refine XE.lastZ (fun _ _ h => h) ?_
  cases hb : (decide (pa = (t.peak ⟨c, o⟩ k).1) && decide (pb = (t.peak ⟨c, o⟩ k).2)) with
  | true =>
    have hpq : l1[k]?.getD (0, 0) = t.peak ⟨c, o⟩ k := by
      rw [hpe]
      simp only [Bool.and_eq_true, decide_eq_true_eq] at hb
      exact Prod.ext hb.1 hb.2
    refine XL.callM true (refV (k : Nat) 152) (ck rfl) rfl rfl (fun w _ => must_any _ _ _ w) (fun _ => ?_) (fun h => by cases h)
    repeat (first | (refine M0 ?_; first | refine SL ?_ | refine SB fun _ _ => ?_) | (refine M1 ?_; refine SC ?_) | (refine M2 ?_; refine SE ?_))
    refine XE.roundW (s := (k, W)) (fun w9 S9 => ⟨(k + 1, w9), ⟨hkm, hG5.on (ks := ks) S9 (by repeat (first | exact List.mem_cons_self | apply List.mem_cons_of_mem)) ZZMK (fun x hx => List.mem_append_right _ (List.mem_append_right _ hx)) hgs (fun x hx => hx), Since.end2 hG5 hS5 S9 ZZMK (own3 hg5 hr5 hc5 ZZO4), fun j hj => ?_⟩, by simp only; omega, ZZSUB, S9.rebase ZZSM⟩)
    rcases Nat.lt_or_ge j k with h2 | h2
    · exact hno j h2
    · have : j = k := by omega
      subst this
      exact hpq
  | false =>
    refine XL.callM false (refV (k : Nat) 152) (ck rfl) rfl rfl (fun w _ => must_any _ _ _ w) (fun h => by cases h) (fun _ => ?_)
    refine ⟨fun a w' hf S => And.intro hf.defers ?_⟩
    have e1 : t.hgtE ⟨⟨c, o⟩, l1, l2⟩ = .panicked (pan (refV (k : Nat) 152)) := by
      unfold CTk.hgtE
      rw [firstB_some.2 ⟨hkm, ?_, fun j hj => by simp only [decide_eq_false_iff_not]; exact fun h => h (hno j hj)⟩]
      simp only [decide_eq_true_eq]
      rw [hpe]
      intro h
      simp only [Option.getD_some] at h
      rw [← h] at hb
      simp at hb
    rw [e1]
    exact GamE.of (GamR.end2 (kk := _) (R := fun _ _ => True) (x := .nilFunc) hG5 hS5 S (.tail _ (.tail _ (.tail _ (.head _)))) trivial ZZMK (own3 hg5 hr5 hc5 ZZO4))
  any_goals (repeat (first | exact AnyR.nil | refine AnyR.skip rfl ?_))
end
end Go.Proofs.YtmpaiphakjogjaaGreat.X
namespace Go.Proofs.YtmpaiphakjogjaaGreat.X
open Go Go.RowKit Go.Proofs.YtmpaiphakjogjaaGreat.Bs
noncomputable def _root_.Go.Proofs.YtmpaiphakjogjaaGreat.Bs.CTk.manyI (t : CTk) (d : CDe) : Int := if d.plan = nev then 0 else t.last - (d.plan.close - t.from_)
noncomputable def _root_.Go.Proofs.YtmpaiphakjogjaaGreat.Bs.CTk.latE (t : CTk) (d : CDe) : Ending := if (d.later.length : Int) ≠ t.manyI d then .panicked (pan (refV 0 2)) else
  match firstB (fun k => !t.rules (d.plan.close - t.from_ + 1 + (k : Nat)) (d.later[k]?.getD (0, 0))) d.later.length with
  | none => .returned (.tuple #[])
  | some k => .panicked (pan (refV (k : Nat) 153))
section
variable {t : CTk} {v : CTV} {r : CRu} {b0 g gr gc gm : Nat} {ks : List Nat} {w : World} {q1 q2 : SV} {d : CDe}
set_option maxHeartbeats 16000000 in
theorem later_any (hG : Gam t v b0 g gm ks [] [] w) (ho : CtOk t) (hc : w.heap[gc]? = some (chkO gr q1 q2 d)) (hr : w.heap[gr]? = some (rulO g r)) (hgc : gc ∈ ks) (hgr : gr ∈ ks) (hbc : b0 ≤ gc) (hbr : b0 ≤ gr) (hst : t.strange d.plan = false)
    (hm : d.plan ≠ nev → t.may r (d.plan.close - t.from_) = true) (hL2 : ListAt wtnK5 w (Lt b0) q2 d.later) :
    Calls Tryz.prog 69 #[.pointer (some ⟨gc, 0, none⟩)] w (GamE t b0 gm ks (t.latE d) w) := by
  have hg : w.heap[g]? = some (gamO v t gm) := hG.game
  have n1 : gc ≠ gr := fun e => by subst e; rw [hr] at hc; simp [chkO, rulO, chkC, rulC] at hc
  have n2 : gc ≠ g := fun e => by subst e; rw [hg] at hc; simp [chkO, gamO, chkC, gamC] at hc
  have n3 : gr ≠ g := fun e => by subst e; rw [hg] at hr; simp [rulO, gamO, rulC, gamC] at hr
  have hb0 : b0 ≤ w.heap.size := hG.fam.base
  have S0 := Sys.start3 (B := b0) hb0 hbc hbr hG.bg hc hr hg n1 n2 n3
  have hrm : gr ≠ gm := fun e => hG.nin (e ▸ hgr)
  have hcm : gc ≠ gm := fun e => hG.nin (e ▸ hgc)
  have hgs := hG.gin
  have hm8 := ho.m8
  have h60 := ho.n60
  have hfr := ho.frm
  have hdl := ho.dly
  have hl1 : -31 ≤ t.last ∧ t.last ≤ 60 := by unfold CTk.last; omega
  have lgc := hG.lt gc (.tail _ hgc)
  have lgr := hG.lt gr (.tail _ hgr)
  have lg := hG.lt g (.tail _ hgs)
  have hhn := hG.task.hn
  have hn2 := hL2.len (by decide)
  have hx2 := hL2.max
  have hsh := fun {L : Lo} {W : World} (w5 : World) (S5 : Sys b0 W L w5) (m1 : (gc, chkO gr q1 q2 d) ∈ L) => shut_any (S5.own _ m1).2
  have hix := fun (hi : i64in (d.plan.close - t.from_)) {L : Lo} {W : World} (w5 : World) (S5 : Sys b0 W L w5) (m0 : (gc, chkO gr q1 q2 d) ∈ L) (m1 : (gr, rulO g r) ∈ L) (m2 : (g, gamO v t gm) ∈ L) => cindex_any (t := t) (S5.own _ m0).2 (S5.own _ m1).2 (S5.own _ m2).2 hi
  have hla := fun {L : Lo} {W : World} (w5 : World) (S5 : Sys b0 W L w5) (m2 : (g, gamO v t gm) ∈ L) => last_any (v := v) (t := t) (gm := gm) (S5.own _ m2).2 ho
  have hidx : d.plan ≠ nev → ∃ i : Nat, d.plan.close - t.from_ = (i : Nat) ∧ (i : Int) ≤ t.last := fun hn => by
    obtain ⟨c1, c2, c3, c4⟩ := may_in (hm hn)
    exact ⟨(d.plan.close - t.from_).toNat, by omega, by omega⟩
  obtain ⟨vp, vf, ⟨Ah, nh, ch'⟩, vr⟩ := v
  simp only at hhn
  subst hhn
  obtain ⟨q2A, q2n, q2c⟩ := q2
  simp only at hn2 hx2
  subst hn2
  obtain ⟨⟨c, o⟩, l1, l2⟩ := d
  simp only at hL2 hidx hx2
  simp only [chkO, chkC, decC, svV, rulO, rulC, gamO, gamC] at S0
  refine enterL Tryz.func69 rfl Tryz.ntmps69 rfl (S0) ?_; simp only [frame, Nat.zero_add, Nat.reduceAdd]
  refine XC.hint 0 2 ?_
  repeat (first | (refine M0 ?_; first | refine SL ?_ | refine SB fun _ _ => ?_ | refine Y4 (Ev.call (f := 93) (ck rfl) rfl (fun w5 S5 => hsh w5 S5 (.head _))) ?_) | (refine M1 ?_; refine SC ?_) | (refine M2 ?_; refine SE ?_))
  refine XC.cutn [0] rfl (fun _ : World => [(2, .int .i64 (t.manyI ⟨⟨c, o⟩, l1, l2⟩))]) (fun _ => [(gc, cel 127 (chkC gr q1 ⟨q2A, l2.length, q2c⟩ ⟨⟨c, o⟩, l1, l2⟩)), (gr, rulO g r), (g, gamO ⟨vp, vf, ⟨Ah, t.m, ch'⟩, vr⟩ t gm)]) (fun z => z) (fun z => Gam t ⟨vp, vf, ⟨Ah, t.m, ch'⟩, vr⟩ b0 g gm ks [] [] z ∧ Since w gm z) ?_ ?_
  · by_cases hn : (⟨c, o⟩ : CPl) = nev
    · rw [show decide ((⟨c, o⟩ : CPl) ≠ nev) = false from decide_eq_false fun h => h hn]
      have e1 : t.manyI ⟨⟨c, o⟩, l1, l2⟩ = 0 := by unfold CTk.manyI; rw [if_pos hn]
      rw [e1]
      repeat (first | (refine M0 ?_; first | refine SL ?_ | refine SB fun _ _ => ?_) | (refine M1 ?_; refine SC ?_) | (refine M2 ?_; refine SE ?_))
      exact XE.leafW (fun z9 S9 => ⟨z9, ⟨hG.on (ks := ks) S9 (.tail _ (.tail _ (.head _))) ZZMK (fun x hx => List.mem_append_right _ hx) hgs (fun x hx => hx), Since.end2 hG Since.refl S9 ZZMK (own3 hg hr hc ZZO4)⟩, ZZSUB, S9.rebase ZZSM⟩)
    · rw [show decide ((⟨c, o⟩ : CPl) ≠ nev) = true from decide_eq_true hn]
      obtain ⟨i, hi, hil⟩ := hidx hn
      have hix := @hix (by unfold i64in; simp only; omega)
      simp only [hi] at hix
      have e1 : t.manyI ⟨⟨c, o⟩, l1, l2⟩ = t.last - (i : Nat) := by unfold CTk.manyI; rw [if_neg hn]; simp only; rw [hi]
      rw [e1]
      repeat (first | (refine M0 ?_; first | refine SL ?_ | refine SB fun _ _ => ?_ | refine Y4 (Ev.load_loc tok 1 (g := gr) (o := 0) rfl rfl rfl rfl) ?_ | refine Y4 (Ev.call (f := 74) (ck rfl) rfl (fun w5 S5 => hla w5 S5 (.tail _ (.tail _ (.head _))))) ?_ | refine Y4 (Ev.call (f := 94) (ck rfl) rfl (fun w5 S5 => hix w5 S5 (.head _) (.tail _ (.head _)) (.tail _ (.tail _ (.head _))))) ?_) | (refine M1 ?_; refine SC ?_) | (refine M2 ?_; refine SE ?_))
      exact XE.leafW (fun z9 S9 => ⟨z9, ⟨hG.on (ks := ks) S9 (.tail _ (.tail _ (.head _))) ZZMK (fun x hx => List.mem_append_right _ hx) hgs (fun x hx => hx), Since.end2 hG Since.refl S9 ZZMK (own3 hg hr hc ZZO4)⟩, ZZSUB, S9.rebase ZZSM⟩)
  rintro z ⟨hGz, hSz⟩
  simp only [chkC, decC, svV, rulO, rulC, gamO, gamC]
  dsimp only [List.cons_append, List.nil_append]
  repeat (first | (refine M0 ?_; first | refine SL ?_ | refine SB fun _ _ => ?_) | (refine M1 ?_; refine SC ?_) | (refine M2 ?_; refine SE ?_))
  have hgz := hGz.game
  have hrz := hSz.keep hr hrm
  have hcz := hSz.keep hc hcm
  by_cases hmn : (l2.length : Int) = t.manyI ⟨⟨c, o⟩, l1, l2⟩
  rotate_left
  · rw [show decide ((l2.length : Int) = t.manyI ⟨⟨c, o⟩, l1, l2⟩) = false from decide_eq_false hmn]
    refine XL.callM false (refV 0 2) (ck rfl) rfl rfl (fun w _ => must_any _ _ _ w) (fun h => by cases h) (fun _ => ?_)
    refine ⟨fun a w' hf S => And.intro hf.defers ?_⟩
    have e1 : t.latE ⟨⟨c, o⟩, l1, l2⟩ = .panicked (pan (refV 0 2)) := by unfold CTk.latE; rw [if_pos hmn]
    rw [e1]
    exact GamE.of (GamR.end2 (kk := []) (R := fun _ _ => True) (x := .nilFunc) hGz hSz S (.tail _ (.tail _ (.head _))) trivial ZZHM (own3 hgz hrz hcz ZZO4))
  rw [show decide ((l2.length : Int) = t.manyI ⟨⟨c, o⟩, l1, l2⟩) = true from decide_eq_true hmn]
  refine XL.callM true (refV 0 2) (ck rfl) rfl rfl (fun w _ => must_any _ _ _ w) (fun _ => ?_) (fun h => by cases h)
  repeat (first | (refine M0 ?_; first | refine SL ?_ | refine SB fun _ _ => ?_) | (refine M1 ?_; refine SC ?_) | (refine M2 ?_; refine SE ?_))
  refine XC.loopk [0, 32, 33] rfl (fun z : Nat × World => [(34, .int .i64 (z.1 : Nat))]) (fun _ => [(gc, cel 127 (chkC gr q1 ⟨q2A, l2.length, q2c⟩ ⟨⟨c, o⟩, l1, l2⟩)), (gr, rulO g r), (g, gamO ⟨vp, vf, ⟨Ah, t.m, ch'⟩, vr⟩ t gm)]) (fun z => z.2)
    (fun z => z.1 ≤ l2.length ∧ Gam t ⟨vp, vf, ⟨Ah, t.m, ch'⟩, vr⟩ b0 g gm ks [] [] z.2 ∧ Since w gm z.2 ∧ ∀ j, j < z.1 → t.rules (c - t.from_ + 1 + (j : Nat)) (l2[j]?.getD (0, 0)) = true) (fun z => l2.length - z.1) (0, z) ⟨Nat.zero_le _, hGz, hSz, fun j hj => absurd hj (by simp)⟩ ZZSUB (fun _ h => h) ?_
  rintro ⟨k, W⟩ ⟨hk, hGW, hSW, hno⟩
  simp only at hk hGW hSW hno
  have hgW := hGW.game
  have hrW := hSW.keep hr hrm
  have hcW := hSW.keep hc hcm
  have hzW := hSW.size
  have hBW : Below b0 w W := hSW.below hG.bm hb0
  simp only [chkC, decC, svV, rulO, rulC, gamO, gamC]
  dsimp only [List.cons_append, List.nil_append]
  repeat (first | (refine M0 ?_; first | refine SL ?_ | refine SB fun _ _ => ?_) | (refine M1 ?_; refine SC ?_) | (refine M2 ?_; refine SE ?_))
  refine XC.cond _ rfl (fun h1 => ?_) (fun h1 => ?_)
  rotate_left
  · have hkm : k = l2.length := by have := of_decide_eq_false h1; omega
    subst hkm
    repeat (first | (refine M0 ?_; first | refine SL ?_ | refine SB fun _ _ => ?_) | (refine M1 ?_; refine SC ?_) | (refine M2 ?_; refine SE ?_))
    refine XE.end0 Tryz.results69 fun w' S => ?_
    have e1 : t.latE ⟨⟨c, o⟩, l1, l2⟩ = .returned (.tuple #[]) := by
      unfold CTk.latE
      rw [if_neg (fun h => h hmn)]
      simp only
      rw [firstB_none.2 fun j hj => by rw [hno j hj]; rfl]
    rw [e1]
    exact GamE.of (GamR.end2 (kk := []) (R := fun _ _ => True) (x := .nilFunc) hGW hSW S (.tail _ (.tail _ (.head _))) trivial ZZHM (own3 hgW hrW hcW ZZO4))
  have hkl : k < l2.length := by have := of_decide_eq_true h1; omega
  have hn : ¬ (⟨c, o⟩ : CPl) = nev := fun h => by
    unfold CTk.manyI at hmn
    rw [if_pos h] at hmn
    omega
  obtain ⟨i, hi, hil⟩ := hidx hn
  have hik : (i : Int) + 1 + (k : Nat) ≤ t.last := by
    unfold CTk.manyI at hmn
    rw [if_neg hn] at hmn
    simp only at hmn
    omega
  have hix := @hix (by unfold i64in; simp only; omega)
  simp only [hi] at hix
  have hL2W := hL2.below hBW
  obtain ⟨ad, rfl, hlt⟩ := hL2.addr (by decide) (by omega)
  obtain ⟨⟨pa, pb⟩, hpe⟩ : ∃ x, l2[k]? = some x := ⟨_, List.getElem?_eq_getElem hkl⟩
  have hel := hL2W.elem hpe
  have hbad : t.rules (c - t.from_ + 1 + (k : Nat)) (pa, pb) = false → t.latE ⟨⟨c, o⟩, l1, l2⟩ = .panicked (pan (refV (k : Nat) 153)) := fun h => by
    unfold CTk.latE
    rw [if_neg (fun h => h hmn)]
    simp only
    rw [firstB_some.2 ⟨hkl, by rw [hpe]; simp only [Option.getD_some]; rw [h]; rfl, fun j hj => by rw [hno j hj]; rfl⟩]
  have hrul : t.rules (c - t.from_ + 1 + (k : Nat)) (pa, pb) = (!outB pa 0 ((t.m : Int) - 1) && (!outB pb t.from_ (t.from_ + t.n - 1) && t.above pa.toNat (t.plan ((i : Int) + 1 + (k : Nat))) (pb - t.from_).toNat)) := by
    unfold CTk.rules
    rw [hi]
  repeat (first | (refine M0 ?_; first | refine SL ?_ | refine SB fun _ _ => ?_ | refine Y4 (Ev.load_old_agg tok [.int .i64 pa, .int .i64 pb] rfl rfl rfl (add_lt hlt) hel) ?_) | (refine M1 ?_; refine SC ?_) | (refine M2 ?_; refine SE ?_))
  rename_i g4 hg4
  refine XC.drawT mixed rfl rfl (by kernel_rfl) ?_
  cases hb1 : outB pa 0 ((t.m : Int) - 1) with
  | true =>
    rw [hb1] at hrul
    repeat (first | (refine M0 ?_; first | refine SL ?_ | refine SB fun _ _ => ?_ | refine Y4 (Ev.load_loc tok 1 (g := gc) (o := 0) rfl rfl rfl rfl) ?_ | refine Y4 (Ev.load_loc tok 2 (g := gr) (o := 0) rfl rfl rfl rfl) ?_ | refine Y4 (Ev.load_loc tok 3 (g := g) (o := 6) rfl rfl rfl rfl) ?_ | refine Y4 (Ev.call (f := 41) (ck rfl) rfl (fun w S => cout_any _ _ _ w)) ?_) | (refine M2 ?_; refine SE ?_) | (refine M3 ?_; first | refine SG ?_ | refine SF ?_ | refine YF (Ev.load_loc tok 1 (g := gc) (o := 0) rfl rfl rfl rfl) ?_ | refine YF (Ev.load_loc tok 2 (g := gr) (o := 0) rfl rfl rfl rfl) ?_ | refine YF (Ev.load_loc tok 3 (g := g) (o := 6) rfl rfl rfl rfl) ?_ | refine YF (Ev.call (f := 41) (ck rfl) rfl (fun w S => cout_any _ _ _ w)) ?_) | (refine M4 ?_; refine SR ?_) | (refine M5 ?_; first | exact M7 | refine YM ?_ | refine YN ?_ ?_))
    rw [hb1]
    repeat (first | (refine M0 ?_; first | refine SL ?_ | refine SB fun _ _ => ?_) | (refine M2 ?_; refine SE ?_) | (refine M3 ?_; first | refine SG ?_ | refine SF ?_) | (refine M4 ?_; refine SR ?_) | (refine M5 ?_; first | exact M7 | refine YM ?_ | refine YN ?_ ?_))
    repeat (first | (refine M0 ?_; first | refine SL ?_ | refine SB fun _ _ => ?_) | (refine M1 ?_; refine SC ?_) | (refine M2 ?_; refine SE ?_))
    refine XC.drawT mixed rfl rfl (by kernel_rfl) ?_
    repeat (first | (refine M0 ?_; first | refine SL ?_ | refine SB fun _ _ => ?_) | (refine M2 ?_; refine SE ?_) | (refine M3 ?_; first | refine SG ?_ | refine SF ?_) | (refine M4 ?_; refine SR ?_) | (refine M5 ?_; first | exact M7 | refine YM ?_ | refine YN ?_ ?_))
    refine XL.callM false (refV (k : Nat) 153) (ck rfl) rfl rfl (fun w _ => must_any _ _ _ w) (fun h => by cases h) (fun _ => ?_)
    refine ⟨fun a w' hf S => And.intro hf.defers ?_⟩
    rw [hbad hrul]
    exact GamE.of (GamR.end2 (kk := []) (R := fun _ _ => True) (x := .nilFunc) hGW hSW S (.tail _ (.tail _ (.tail _ (.head _)))) trivial ZZMK (own3 hgW hrW hcW ZZO4))
  | false =>
    cases hb2 : outB pb t.from_ (t.from_ + t.n - 1) with
    | true =>
      rw [hb1, hb2] at hrul
      repeat (first | (refine M0 ?_; first | refine SL ?_ | refine SB fun _ _ => ?_ | refine Y4 (Ev.load_loc tok 1 (g := gc) (o := 0) rfl rfl rfl rfl) ?_ | refine Y4 (Ev.load_loc tok 2 (g := gr) (o := 0) rfl rfl rfl rfl) ?_ | refine Y4 (Ev.load_loc tok 3 (g := g) (o := 6) rfl rfl rfl rfl) ?_ | refine Y4 (Ev.call (f := 41) (ck rfl) rfl (fun w S => cout_any _ _ _ w)) ?_) | (refine M2 ?_; refine SE ?_) | (refine M3 ?_; first | refine SG ?_ | refine SF ?_ | refine YF (Ev.load_loc tok 1 (g := gc) (o := 0) rfl rfl rfl rfl) ?_ | refine YF (Ev.load_loc tok 2 (g := gr) (o := 0) rfl rfl rfl rfl) ?_ | refine YF (Ev.load_loc tok 3 (g := g) (o := 6) rfl rfl rfl rfl) ?_ | refine YF (Ev.call (f := 41) (ck rfl) rfl (fun w S => cout_any _ _ _ w)) ?_) | (refine M4 ?_; refine SR ?_) | (refine M5 ?_; first | exact M7 | refine YM ?_ | refine YN ?_ ?_))
      rw [hb1]
      repeat (first | (refine M0 ?_; first | refine SL ?_ | refine SB fun _ _ => ?_ | refine Y4 (Ev.load_loc tok 0 (g := g4) (o := 1) rfl rfl rfl rfl) ?_ | refine Y4 (Ev.load_loc tok 1 (g := gc) (o := 0) rfl rfl rfl rfl) ?_ | refine Y4 (Ev.load_loc tok 2 (g := gr) (o := 0) rfl rfl rfl rfl) ?_ | refine Y4 (Ev.load_loc tok 3 (g := g) (o := 11) rfl rfl rfl rfl) ?_ | refine Y4 (Ev.load_loc tok 3 (g := g) (o := 12) rfl rfl rfl rfl) ?_ | refine Y4 (Ev.call (f := 41) (ck rfl) rfl (fun w S => cout_any _ _ _ w)) ?_) | (refine M2 ?_; refine SE ?_) | (refine M3 ?_; first | refine SG ?_ | refine SF ?_ | refine YF (Ev.load_loc tok 0 (g := g4) (o := 1) rfl rfl rfl rfl) ?_ | refine YF (Ev.load_loc tok 1 (g := gc) (o := 0) rfl rfl rfl rfl) ?_ | refine YF (Ev.load_loc tok 2 (g := gr) (o := 0) rfl rfl rfl rfl) ?_ | refine YF (Ev.load_loc tok 3 (g := g) (o := 11) rfl rfl rfl rfl) ?_ | refine YF (Ev.load_loc tok 3 (g := g) (o := 12) rfl rfl rfl rfl) ?_ | refine YF (Ev.call (f := 41) (ck rfl) rfl (fun w S => cout_any _ _ _ w)) ?_) | (refine M4 ?_; refine SR ?_) | (refine M5 ?_; first | exact M7 | refine YM ?_ | refine YN ?_ ?_))
      rw [hb2]
      repeat (first | (refine M0 ?_; first | refine SL ?_ | refine SB fun _ _ => ?_) | (refine M2 ?_; refine SE ?_) | (refine M3 ?_; first | refine SG ?_ | refine SF ?_) | (refine M4 ?_; refine SR ?_) | (refine M5 ?_; first | exact M7 | refine YM ?_ | refine YN ?_ ?_))
      repeat (first | (refine M0 ?_; first | refine SL ?_ | refine SB fun _ _ => ?_) | (refine M1 ?_; refine SC ?_) | (refine M2 ?_; refine SE ?_))
      refine XC.drawT mixed rfl rfl (by kernel_rfl) ?_
      repeat (first | (refine M0 ?_; first | refine SL ?_ | refine SB fun _ _ => ?_) | (refine M2 ?_; refine SE ?_) | (refine M3 ?_; first | refine SG ?_ | refine SF ?_) | (refine M4 ?_; refine SR ?_) | (refine M5 ?_; first | exact M7 | refine YM ?_ | refine YN ?_ ?_))
      refine XL.callM false (refV (k : Nat) 153) (ck rfl) rfl rfl (fun w _ => must_any _ _ _ w) (fun h => by cases h) (fun _ => ?_)
      refine ⟨fun a w' hf S => And.intro hf.defers ?_⟩
      rw [hbad hrul]
      exact GamE.of (GamR.end2 (kk := []) (R := fun _ _ => True) (x := .nilFunc) hGW hSW S (.tail _ (.tail _ (.tail _ (.head _)))) trivial ZZMK (own3 hgW hrW hcW ZZO4))
    | false =>
      have hr1 := outB_f.1 hb1
      have hr2 := outB_f.1 hb2
      obtain ⟨hh, rfl⟩ : ∃ hh : Nat, pa = (hh : Nat) := ⟨pa.toNat, by omega⟩
      obtain ⟨aa, haa⟩ : ∃ aa : Nat, pb - t.from_ = (aa : Nat) := ⟨(pb - t.from_).toNat, by omega⟩
      rw [hb1, hb2, haa, Int.toNat_natCast, Int.toNat_natCast] at hrul
      have hhm : hh < t.m := by omega
      have han : aa < t.n := by omega
      have hstk : t.strange (t.plan ((i : Int) + 1 + (k : Nat))) = false := (plan_ok ho (by omega) hik).1
      have hpl := fun {L : Lo} {B : Nat} {W1 : World} (w9 : World) (S9 : Sys B W1 L w9) (hm : (g, gamO ⟨vp, vf, ⟨Ah, t.m, ch'⟩, vr⟩ t gm) ∈ L) => plan_any (v := ⟨vp, vf, ⟨Ah, t.m, ch'⟩, vr⟩) (t := t) (gm := gm) (i := (i : Int) + 1 + (k : Nat)) (S9.own _ hm).2 ho ⟨by omega, by omega⟩
      have hab := fun (w5 : World) (ks2 : List Nat) (hG5 : Gam t ⟨vp, vf, ⟨Ah, t.m, ch'⟩, vr⟩ b0 g gm ks2 [] [] w5) => cabove_any (p := t.plan ((i : Int) + 1 + (k : Nat))) hG5 ho hhm han hstk
      simp only [plnV] at hpl hab
      repeat (first | (refine M0 ?_; first | refine SL ?_ | refine SB fun _ _ => ?_ | refine Y4 (Ev.load_loc tok 1 (g := gc) (o := 0) rfl rfl rfl rfl) ?_ | refine Y4 (Ev.load_loc tok 2 (g := gr) (o := 0) rfl rfl rfl rfl) ?_ | refine Y4 (Ev.load_loc tok 3 (g := g) (o := 6) rfl rfl rfl rfl) ?_ | refine Y4 (Ev.call (f := 41) (ck rfl) rfl (fun w S => cout_any _ _ _ w)) ?_) | (refine M2 ?_; refine SE ?_) | (refine M3 ?_; first | refine SG ?_ | refine SF ?_ | refine YF (Ev.load_loc tok 1 (g := gc) (o := 0) rfl rfl rfl rfl) ?_ | refine YF (Ev.load_loc tok 2 (g := gr) (o := 0) rfl rfl rfl rfl) ?_ | refine YF (Ev.load_loc tok 3 (g := g) (o := 6) rfl rfl rfl rfl) ?_ | refine YF (Ev.call (f := 41) (ck rfl) rfl (fun w S => cout_any _ _ _ w)) ?_) | (refine M4 ?_; refine SR ?_) | (refine M5 ?_; first | exact M7 | refine YM ?_ | refine YN ?_ ?_))
      rw [hb1]
      repeat (first | (refine M0 ?_; first | refine SL ?_ | refine SB fun _ _ => ?_ | refine Y4 (Ev.load_loc tok 0 (g := g4) (o := 1) rfl rfl rfl rfl) ?_ | refine Y4 (Ev.load_loc tok 1 (g := gc) (o := 0) rfl rfl rfl rfl) ?_ | refine Y4 (Ev.load_loc tok 2 (g := gr) (o := 0) rfl rfl rfl rfl) ?_ | refine Y4 (Ev.load_loc tok 3 (g := g) (o := 11) rfl rfl rfl rfl) ?_ | refine Y4 (Ev.load_loc tok 3 (g := g) (o := 12) rfl rfl rfl rfl) ?_ | refine Y4 (Ev.call (f := 41) (ck rfl) rfl (fun w S => cout_any _ _ _ w)) ?_) | (refine M2 ?_; refine SE ?_) | (refine M3 ?_; first | refine SG ?_ | refine SF ?_ | refine YF (Ev.load_loc tok 0 (g := g4) (o := 1) rfl rfl rfl rfl) ?_ | refine YF (Ev.load_loc tok 1 (g := gc) (o := 0) rfl rfl rfl rfl) ?_ | refine YF (Ev.load_loc tok 2 (g := gr) (o := 0) rfl rfl rfl rfl) ?_ | refine YF (Ev.load_loc tok 3 (g := g) (o := 11) rfl rfl rfl rfl) ?_ | refine YF (Ev.load_loc tok 3 (g := g) (o := 12) rfl rfl rfl rfl) ?_ | refine YF (Ev.call (f := 41) (ck rfl) rfl (fun w S => cout_any _ _ _ w)) ?_) | (refine M4 ?_; refine SR ?_) | (refine M5 ?_; first | exact M7 | refine YM ?_ | refine YN ?_ ?_))
      rw [hb2]
      repeat (first | (refine M0 ?_; first | refine SL ?_ | refine SB fun _ _ => ?_) | (refine M2 ?_; refine SE ?_) | (refine M3 ?_; first | refine SG ?_ | refine SF ?_) | (refine M4 ?_; refine SR ?_) | (refine M5 ?_; first | exact M7 | refine YM ?_ | refine YN ?_ ?_))
      repeat (first | (refine M0 ?_; first | refine SL ?_ | refine SB fun _ _ => ?_) | (refine M1 ?_; refine SC ?_) | (refine M2 ?_; refine SE ?_))
      refine XC.drawRT (trunc w b0) [(g4, cel 70 [.int .i64 (hh : Nat), .int .i64 pb]), (gc, cel 127 [.pointer (some ⟨gr, 0, none⟩), .int .i64 c, .int .i64 o, .slice q1.A q1.n q1.c, .slice (some ad) l2.length q2c]), (gr, rulO g r), (g, gamO ⟨vp, vf, ⟨Ah, t.m, ch'⟩, vr⟩ t gm)] [0, 1, 2, 3, 4, 5, 6, 7, 8, 9, 10, 11, 12, 13, 14, 15, 16, 17, 18, 21, 24, 25, 26, 27, 28, 29, 30, 31, 32, 33, 34, 35, 36, 39] [19, 20, 22, 23, 37, 38] mixed (fun _ h => Sys.anchorT hBW h (by intro e he; repeat (first | (cases he; done) | (rcases List.mem_cons.1 he with rfl | he; · repeat (first | exact List.mem_cons_self | apply List.mem_cons_of_mem)))) (by simp [n1, n2, n3]; omega) hb0) rfl rfl (by kernel_rfl) rfl (by kernel_rfl) ?_
      repeat (first | (refine M0 ?_; first | refine SL ?_ | refine SB fun _ _ => ?_ | refine Y4 (Ev.load_loc tok 0 (g := g4) (o := 0) rfl rfl rfl rfl) ?_ | refine Y4 (Ev.load_loc tok 0 (g := g4) (o := 1) rfl rfl rfl rfl) ?_ | refine Y4 (Ev.load_loc tok 1 (g := gc) (o := 0) rfl rfl rfl rfl) ?_ | refine Y4 (Ev.load_loc tok 2 (g := gr) (o := 0) rfl rfl rfl rfl) ?_ | refine Y4 (Ev.load_loc tok 3 (g := g) (o := 11) rfl rfl rfl rfl) ?_ | refine Y4 (Ev.call (f := 94) (ck rfl) rfl (fun w5 S5 => hix w5 S5 (.tail _ (.head _)) (.tail _ (.tail _ (.head _))) (.tail _ (.tail _ (.tail _ (.head _)))))) ?_) | (refine M2 ?_; refine SE ?_) | (refine M3 ?_; first | refine SG ?_ | refine SF ?_ | refine YF (Ev.load_loc tok 0 (g := g4) (o := 0) rfl rfl rfl rfl) ?_ | refine YF (Ev.load_loc tok 0 (g := g4) (o := 1) rfl rfl rfl rfl) ?_ | refine YF (Ev.load_loc tok 1 (g := gc) (o := 0) rfl rfl rfl rfl) ?_ | refine YF (Ev.load_loc tok 2 (g := gr) (o := 0) rfl rfl rfl rfl) ?_ | refine YF (Ev.load_loc tok 3 (g := g) (o := 11) rfl rfl rfl rfl) ?_ | refine YF (Ev.call (f := 94) (ck rfl) rfl (fun w5 S5 => hix w5 S5 (.tail _ (.head _)) (.tail _ (.tail _ (.head _))) (.tail _ (.tail _ (.tail _ (.head _)))))) ?_) | (refine M4 ?_; refine SR ?_) | (refine M5 ?_; first | exact M7 | refine YM ?_ | refine YN ?_ ?_))
      rw [haa]
      refine z7 ?_
      repeat (first | (refine M0 ?_; first | refine SL ?_ | refine SB fun _ _ => ?_) | (refine M2 ?_; refine SE ?_) | (refine M3 ?_; first | refine SG ?_ | refine SF ?_) | (refine M4 ?_; refine SR ?_) | (refine M5 ?_; first | exact M7 | refine YM ?_ | refine YN ?_ ?_))
      refine z7 ?_
      repeat (first | (refine M0 ?_; first | refine SL ?_ | refine SB fun _ _ => ?_) | (refine M2 ?_; refine SE ?_) | (refine M3 ?_; first | refine SG ?_ | refine SF ?_) | (refine M4 ?_; refine SR ?_) | (refine M5 ?_; first | exact M7 | refine YM ?_ | refine YN ?_ ?_))
      refine z7 ?_
      repeat (first | (refine M0 ?_; first | refine SL ?_ | refine SB fun _ _ => ?_ | refine Y4 (Ev.call (f := 33) (ck rfl) rfl (fun w5 S5 => hpl w5 S5 (.tail _ (.tail _ (.tail _ (.head _)))))) ?_) | (refine M2 ?_; refine SE ?_) | (refine M3 ?_; first | refine SG ?_ | refine SF ?_ | refine YF (Ev.call (f := 33) (ck rfl) rfl (fun w5 S5 => hpl w5 S5 (.tail _ (.tail _ (.tail _ (.head _)))))) ?_) | (refine M4 ?_; refine SR ?_) | (refine M5 ?_; first | exact M7 | refine YM ?_ | refine YN ?_ ?_))
      refine z7 ?_
      repeat (first | (refine M0 ?_; first | refine SL ?_ | refine SB fun _ _ => ?_) | (refine M2 ?_; refine SE ?_) | (refine M3 ?_; first | refine SG ?_ | refine SF ?_) | (refine M4 ?_; refine SR ?_) | (refine M5 ?_; first | exact M7 | refine YM ?_ | refine YN ?_ ?_))
      refine XL.callI (BoolR (t.above hh (t.plan ((i : Int) + 1 + (k : Nat))) aa)) (ck rfl) rfl rfl hGW hSW (.tail _ (.tail _ (.tail _ (.head _)))) (fun w5 ks2 _ _ hG5 => hab w5 ks2 hG5) (fun w5 x new hR hG5 hS5 => ?_) ZZMK (own3 hgW hrW hcW ZZO4)
      obtain ⟨rfl, rfl⟩ := hR
      have hz5 := hS5.size
      have hB5 : Below b0 w w5 := hS5.below hG.bm hb0
      have hg5 := hG5.game
      have hr5 := hS5.keep hr hrm
      have hc5 := hS5.keep hc hcm
      repeat (first | (refine M0 ?_; first | refine SL ?_ | refine SB fun _ _ => ?_) | (refine M2 ?_; refine SE ?_) | (refine M3 ?_; first | refine SG ?_ | refine SF ?_) | (refine M4 ?_; refine SR ?_) | (refine M5 ?_; first | exact M7 | refine YM ?_ | refine YN ?_ ?_))
      refine z7 ?_
      repeat (first | (refine M0 ?_; first | refine SL ?_ | refine SB fun _ _ => ?_) | (refine M2 ?_; refine SE ?_) | (refine M3 ?_; first | refine SG ?_ | refine SF ?_) | (refine M4 ?_; refine SR ?_) | (refine M5 ?_; first | exact M7 | refine YM ?_ | refine YN ?_ ?_))
      refine z7 ?_
      repeat (first | (refine M0 ?_; first | refine SL ?_ | refine SB fun _ _ => ?_) | (refine M2 ?_; refine SE ?_) | (refine M3 ?_; first | refine SG ?_ | refine SF ?_) | (refine M4 ?_; refine SR ?_) | (refine M5 ?_; first | exact M7 | refine YM ?_ | refine YN ?_ ?_))
      refine XE.lastZ (fun _ _ h => h) ?_
      cases hbv : t.above hh (t.plan ((i : Int) + 1 + (k : Nat))) aa with
      | true =>
        rw [hbv] at hrul
        refine XL.callM true (refV (k : Nat) 153) (ck rfl) rfl rfl (fun w _ => must_any _ _ _ w) (fun _ => ?_) (fun h => by cases h)
        repeat (first | (refine M0 ?_; first | refine SL ?_ | refine SB fun _ _ => ?_) | (refine M1 ?_; refine SC ?_) | (refine M2 ?_; refine SE ?_))
        refine XE.roundW (s := (k, W)) (fun w9 S9 => ⟨(k + 1, w9), ⟨hkl, hG5.on (ks := ks) S9 (by repeat (first | exact List.mem_cons_self | apply List.mem_cons_of_mem)) ZZMK (fun x hx => List.mem_append_right _ (List.mem_append_right _ hx)) hgs (fun x hx => hx), Since.end2 hG5 hS5 S9 ZZMK (own3 hg5 hr5 hc5 ZZO4), fun j hj => ?_⟩, by simp only; omega, ZZSUB, S9.rebase ZZSM⟩)
        rcases Nat.lt_or_ge j k with h2 | h2
        · exact hno j h2
        · have : j = k := by omega
          subst this
          rw [hpe]
          exact hrul
      | false =>
        rw [hbv] at hrul
        refine XL.callM false (refV (k : Nat) 153) (ck rfl) rfl rfl (fun w _ => must_any _ _ _ w) (fun h => by cases h) (fun _ => ?_)
        refine ⟨fun a w' hf S => And.intro hf.defers ?_⟩
        rw [hbad hrul]
        exact GamE.of (GamR.end2 (kk := _) (R := fun _ _ => True) (x := .nilFunc) hG5 hS5 S (.tail _ (.tail _ (.tail _ (.head _)))) trivial ZZMK (own3 hg5 hr5 hc5 ZZO4))
      any_goals (repeat (first | exact AnyR.nil | refine AnyR.skip rfl ?_))
end
end Go.Proofs.YtmpaiphakjogjaaGreat.X
namespace Go.Proofs.YtmpaiphakjogjaaGreat.X
open Go Go.RowKit Go.Proofs.YtmpaiphakjogjaaGreat.Bs
theorem any_if5 : isIf (Tryz.prog.underlying 20) = true := by kernel_rfl
section
variable {w : World} {b g6 g7 : Nat} {x y : Int}
theorem catch_ret (hb : b ≤ w.heap.size) (h6 : w.heap[g6]? = some (cel 3 [.int .i64 x])) (h7 : w.heap[g7]? = some (cel 35 [.int .i64 y])) (b6 : b ≤ g6) (b7 : b ≤ g7) (hne : g6 ≠ g7) :
    CallsD Tryz.prog 64 #[.pointer (some ⟨g6, 0, none⟩), .pointer (some ⟨g7, 0, none⟩)] .returning w fun en u' w' => (∃ v, en = .returned v) ∧ u' = .returning ∧ Sys b w [(g6, cel 3 [.int .i64 x]), (g7, cel 35 [.int .i64 y])] w' := by
  have S0 := Sys.start2 b6 b7 h6 h7 hne
  refine enterRec Tryz.func64 rfl Tryz.ntmps64 rfl rfl S0 recR ?_
  simp only [frame, Nat.zero_add, Nat.reduceAdd]
  repeat (first | (refine M0 ?_; first | refine SL ?_ | refine SB fun _ _ => ?_ | refine Y4 (Ev.ifEql rfl rfl any_if5) ?_) | (refine M1 ?_; refine SC ?_) | (refine M2 ?_; refine SE ?_))
  exact XE.end0 Tryz.results64 fun w' S => ⟨⟨_, rfl⟩, trivial, S⟩
theorem catch_ref {i e : Int} (hb : b ≤ w.heap.size) (h6 : w.heap[g6]? = some (cel 3 [.int .i64 x])) (h7 : w.heap[g7]? = some (cel 35 [.int .i64 y])) (b6 : b ≤ g6) (b7 : b ≤ g7) (hne : g6 ≠ g7) :
    CallsD Tryz.prog 64 #[.pointer (some ⟨g6, 0, none⟩), .pointer (some ⟨g7, 0, none⟩)] (.panicking (pan (refV i e))) w fun en u' w' => (∃ v, en = .returned v) ∧ settle u' = .returning ∧ Sys b w [(g6, cel 3 [.int .i64 i]), (g7, cel 35 [.int .i64 e])] w' := by
  have S0 := Sys.start2 b6 b7 h6 h7 hne
  have l6 := (Array.getElem?_eq_some_iff.1 h6).1
  have l7 := (Array.getElem?_eq_some_iff.1 h7).1
  refine enterRec Tryz.func64 rfl Tryz.ntmps64 rfl rfl S0 recP ?_
  simp only [frame, Nat.zero_add, Nat.reduceAdd, refV]
  refine XC.hint 0 1 (XC.hint 1 0 ?_)
  repeat (first | (refine M0 ?_; first | refine SL ?_ | refine SB fun _ _ => ?_ | refine Y4 (Ev.ifEql rfl rfl any_if5) ?_ | refine Y4 (Ev.assertOk rfl ref_con tok rfl (.tuple ⟨[.agg ⟨[.int .i64 i, .int .i64 e]⟩, .bool true]⟩) rfl) ?_) | (refine M1 ?_; refine SC ?_) | (refine M2 ?_; refine SE ?_))
  rename_i g3 hg3
  have hBw : Below b w w := Below.refl b w
  refine XC.drawRS (trunc w b) [(g3, cel 124 [.int .i64 i, .int .i64 e])] [0, 1, 2, 3] [4, 5] mixed (fun _ h => Sys.anchorT hBw h (fun e he => by rw [List.mem_singleton.1 he]; exact .head _) (by simp) hb) rfl (by kernel_rfl) ?_
  repeat (first | (refine M0 ?_; first | refine SL ?_ | refine SB fun _ _ => ?_ | refine Y4 (Ev.load_loc tok 0 (g := g3) (o := 0) rfl rfl rfl rfl) ?_ | refine Y4 (Ev.load_loc tok 0 (g := g3) (o := 1) rfl rfl rfl rfl) ?_) | (refine M2 ?_; refine SE ?_) | (refine M3 ?_; first | refine SG ?_ | refine SF ?_ | refine YF (Ev.load_loc tok 0 (g := g3) (o := 0) rfl rfl rfl rfl) ?_ | refine YF (Ev.load_loc tok 0 (g := g3) (o := 1) rfl rfl rfl rfl) ?_) | (refine M4 ?_; refine SR ?_) | (refine M5 ?_; first | exact M7 | refine YM ?_ | refine YN ?_ ?_))
  repeat (any_goals (first | (refine M0 ?_; first | refine SL ?_ | refine SB fun _ _ => ?_) | (refine M1 ?_; refine SC ?_) | (refine M2 ?_; first | refine SE ?_ | ((with_reducible refine atHeld ?_); refine z7 ?_)) | (refine M3 ?_; first | refine SG ?_ | refine SF ?_) | (refine M4 ?_; refine SR ?_) | (refine M5 ?_; first | exact M7 | refine YM ?_ | refine YN ?_ ?_)))
  any_goals (repeat (first | exact AnyR.nil | refine AnyR.skip rfl ?_))
  all_goals
    exact XE.end0 Tryz.results64 fun w' S => ⟨⟨_, rfl⟩, rfl, S.pick (fun e he => by simp only [List.mem_cons, List.not_mem_nil, or_false] at he; rcases he with rfl | rfl <;> simp) (by simp [hne]) (fun e he => by simp only [List.mem_cons, List.not_mem_nil, or_false] at he; rcases he with rfl | rfl | rfl <;> simp [hg3])⟩
end
end Go.Proofs.YtmpaiphakjogjaaGreat.X
namespace Go.Proofs.YtmpaiphakjogjaaGreat.X
open Go Go.RowKit Go.Proofs.YtmpaiphakjogjaaGreat.Bs
section
variable {t : CTk} {v : CTV} {r : CRu} {b0 g gm : Nat} {ks : List Nat} {w w' : World} {d : CDe}
theorem GamE.ofBelow {e e0 : Ending} (hG : Gam t v b0 g gm ks [] [] w) (h : e = e0 ∧ Below w.heap.size w w') : GamE t b0 gm ks e0 w e w' :=
  ⟨h.1, Since.refl.made h.2, (hG.made (new := []) h.2 (fun x hx => by cases hx)).memo⟩
theorem acc_form (h : ruE t r = 0) (hb : (!t.strange d.plan && decide (d.peaks.length = t.m)) = false) : t.acc r d = (0, 2) := by
  unfold CTk.acc
  rw [if_neg (by simp [h]), if_pos]
  cases hs : t.strange d.plan with
  | true => exact .inl rfl
  | false =>
    rw [hs] at hb
    right
    simpa using hb
theorem acc_early (h : ruE t r = 0) (hs : t.strange d.plan = false) (hl : d.peaks.length = t.m) (hb : t.earB r d = false) : t.acc r d = (0, 150) := by
  unfold CTk.acc
  rw [if_neg (by simp [h]), if_neg (by simp [hs, hl]), if_pos]
  unfold CTk.earB at hb
  by_cases hn : d.plan = nev
  · rw [if_pos hn] at hb ⊢; simpa using hb
  · rw [if_neg hn] at hb ⊢; simpa using hb
theorem acc_3 (h : ruE t r = 0) (hs : t.strange d.plan = false) (hl : d.peaks.length = t.m) (hb : t.earB r d = true) : t.acc r d = (if d.plan ≠ nev ∧ (d.plan ≠ t.plan (d.plan.close - t.from_) ∨ t.wit (d.plan.close - t.from_) ≠ none) then (0, 151) else
  match firstB (fun k => decide (d.peaks[k]?.getD (0, 0) ≠ t.peak d.plan k)) t.m with
  | some k => (((k : Nat) : Int), (152 : Int))
  | none =>
    if (d.later.length : Int) ≠ (if d.plan = nev then 0 else t.last - (d.plan.close - t.from_)) then (0, 2) else
    match firstB (fun k => !t.rules (d.plan.close - t.from_ + 1 + (k : Nat)) (d.later[k]?.getD (0, 0))) d.later.length with
    | some k => (((k : Nat) : Int), 153)
    | none => (0, 0)) := by
  unfold CTk.acc
  rw [if_neg (by simp [h]), if_neg (by simp [hs, hl]), if_neg]
  · rfl
  unfold CTk.earB at hb
  by_cases hn : d.plan = nev
  · rw [if_pos hn] at hb ⊢; simpa using hb
  · rw [if_neg hn] at hb ⊢; simpa using hb
theorem hlds_t (hb : t.hldsB d = true) : ¬ (d.plan ≠ nev ∧ (d.plan ≠ t.plan (d.plan.close - t.from_) ∨ t.wit (d.plan.close - t.from_) ≠ none)) := by
  unfold CTk.hldsB at hb
  simp only [Bool.or_eq_true, Bool.and_eq_true, decide_eq_true_eq, Bool.not_eq_true', Option.isSome_eq_false_iff, Option.isNone_iff_eq_none] at hb
  rintro ⟨h1, h2⟩
  rcases hb with hb | hb
  · exact h1 hb
  · rcases h2 with h2 | h2
    · exact h2 hb.1
    · exact h2 hb.2
theorem hlds_f (hb : t.hldsB d = false) : d.plan ≠ nev ∧ (d.plan ≠ t.plan (d.plan.close - t.from_) ∨ t.wit (d.plan.close - t.from_) ≠ none) := by
  refine Classical.byContradiction fun h => ?_
  have : t.hldsB d = true := by
    unfold CTk.hldsB
    by_cases hn : d.plan = nev
    · simp [hn]
    · have h1 : d.plan = t.plan (d.plan.close - t.from_) := Decidable.byContradiction fun h2 => h ⟨hn, .inl h2⟩
      have h2 : t.wit (d.plan.close - t.from_) = none := Classical.byContradiction fun h2 => h ⟨hn, .inr h2⟩
      simp only [Bool.or_eq_true, Bool.and_eq_true, decide_eq_true_eq]
      exact .inr ⟨h1, by rw [h2]; rfl⟩
  rw [hb] at this; cases this
theorem acc_holds (h : ruE t r = 0) (hs : t.strange d.plan = false) (hl : d.peaks.length = t.m) (hb : t.earB r d = true) (hh : t.hldsB d = false) : t.acc r d = (0, 151) := by
  rw [acc_3 h hs hl hb, if_pos (hlds_f hh)]
theorem acc_heights (h : ruE t r = 0) (hs : t.strange d.plan = false) (hl : d.peaks.length = t.m) (hb : t.earB r d = true) (hh : t.hldsB d = true) {k : Nat} (hk : firstB (fun k => decide (d.peaks[k]?.getD (0, 0) ≠ t.peak d.plan k)) t.m = some k) : t.acc r d = (((k : Nat) : Int), 152) := by
  rw [acc_3 h hs hl hb, if_neg (hlds_t hh), hk]
theorem acc_many (h : ruE t r = 0) (hs : t.strange d.plan = false) (hl : d.peaks.length = t.m) (hb : t.earB r d = true) (hh : t.hldsB d = true) (hk : firstB (fun k => decide (d.peaks[k]?.getD (0, 0) ≠ t.peak d.plan k)) t.m = none) (hm : (d.later.length : Int) ≠ t.manyI d) : t.acc r d = (0, 2) := by
  rw [acc_3 h hs hl hb, if_neg (hlds_t hh), hk]
  simp only
  unfold CTk.manyI at hm
  rw [if_pos hm]
theorem acc_later (h : ruE t r = 0) (hs : t.strange d.plan = false) (hl : d.peaks.length = t.m) (hb : t.earB r d = true) (hh : t.hldsB d = true) (hk : firstB (fun k => decide (d.peaks[k]?.getD (0, 0) ≠ t.peak d.plan k)) t.m = none) (hm : ¬ (d.later.length : Int) ≠ t.manyI d) {k : Nat}
    (hf : firstB (fun k => !t.rules (d.plan.close - t.from_ + 1 + (k : Nat)) (d.later[k]?.getD (0, 0))) d.later.length = some k) : t.acc r d = (((k : Nat) : Int), 153) := by
  rw [acc_3 h hs hl hb, if_neg (hlds_t hh), hk]
  simp only
  unfold CTk.manyI at hm
  rw [if_neg hm, hf]
theorem acc_ok (h : ruE t r = 0) (hs : t.strange d.plan = false) (hl : d.peaks.length = t.m) (hb : t.earB r d = true) (hh : t.hldsB d = true) (hk : firstB (fun k => decide (d.peaks[k]?.getD (0, 0) ≠ t.peak d.plan k)) t.m = none) (hm : ¬ (d.later.length : Int) ≠ t.manyI d)
    (hf : firstB (fun k => !t.rules (d.plan.close - t.from_ + 1 + (k : Nat)) (d.later[k]?.getD (0, 0))) d.later.length = none) : t.acc r d = (0, 0) := by
  rw [acc_3 h hs hl hb, if_neg (hlds_t hh), hk]
  simp only
  unfold CTk.manyI at hm
  rw [if_neg hm, hf]
theorem form_t {a : Bool} {n m : Nat} (h : (!a && decide (n = m)) = true) : a = false ∧ n = m := by
  simp only [Bool.and_eq_true, Bool.not_eq_true', decide_eq_true_eq] at h
  exact h
theorem ear_may (h : t.earB r d = true) : d.plan ≠ nev → t.may r (d.plan.close - t.from_) = true := fun hn => by
  unfold CTk.earB at h
  rw [if_neg hn] at h
  exact h
theorem mustE_ret {b : Bool} {v x : Value} (h : mustE b v = .returned x) : b = true := by
  cases b with
  | true => rfl
  | false => cases h
theorem mustE_pan {b : Bool} {v : Value} {ch : List PanicEntry} (h : mustE b v = .panicked ch) : b = false ∧ ch = pan v := by
  cases b with
  | true => cases h
  | false => exact ⟨rfl, (Ending.panicked.inj h).symm⟩
theorem hgt_p {ch : List PanicEntry} (h : t.hgtE d = .panicked ch) : ∃ k : Nat, firstB (fun k => decide (d.peaks[k]?.getD (0, 0) ≠ t.peak d.plan k)) t.m = some k ∧ ch = pan (refV (k : Nat) 152) := by
  unfold CTk.hgtE at h
  split at h
  · cases h
  · rename_i k hk
    exact ⟨k, hk, (Ending.panicked.inj h).symm⟩
theorem lat_r {x : Value} (h : t.latE d = .returned x) : ¬ (d.later.length : Int) ≠ t.manyI d ∧ firstB (fun k => !t.rules (d.plan.close - t.from_ + 1 + (k : Nat)) (d.later[k]?.getD (0, 0))) d.later.length = none := by
  unfold CTk.latE at h
  split at h
  · cases h
  · rename_i hm
    split at h
    · rename_i hf; exact ⟨hm, hf⟩
    · cases h
theorem lat_p {ch : List PanicEntry} (h : t.latE d = .panicked ch) : ((d.later.length : Int) ≠ t.manyI d ∧ ch = pan (refV 0 2)) ∨ (¬ (d.later.length : Int) ≠ t.manyI d ∧ ∃ k : Nat, firstB (fun k => !t.rules (d.plan.close - t.from_ + 1 + (k : Nat)) (d.later[k]?.getD (0, 0))) d.later.length = some k ∧ ch = pan (refV (k : Nat) 153)) := by
  unfold CTk.latE at h
  split at h
  · rename_i hm; exact .inl ⟨hm, (Ending.panicked.inj h).symm⟩
  · rename_i hm
    split at h
    · cases h
    · rename_i k hk; exact .inr ⟨hm, k, hk, (Ending.panicked.inj h).symm⟩
theorem hgt_r {x : Value} (h : t.hgtE d = .returned x) : firstB (fun k => decide (d.peaks[k]?.getD (0, 0) ≠ t.peak d.plan k)) t.m = none := by
  unfold CTk.hgtE at h
  split at h
  · assumption
  · cases h
theorem hlds_ins (ho : CtOk t) (hb : t.hldsB d = true) : ∀ k i, k < t.m → i < t.n → (t.ins k d.plan i).isSome = true := by
  by_cases hn : d.plan = nev
  · rw [hn]; exact nev_ins t
  · have h1 := hlds_t hb
    have h2 : d.plan = t.plan (d.plan.close - t.from_) := Decidable.byContradiction fun h2 => h1 ⟨hn, .inl h2⟩
    have h3 : t.wit (d.plan.close - t.from_) = none := Classical.byContradiction fun h2 => h1 ⟨hn, .inr h2⟩
    have h4 := wit_none.1 h3
    rw [← h2] at h4
    exact all_ins h4
end
theorem Sys.turned2 {B : Nat} {w0 w5 w6 : World} {L L1 L2 : Lo} {B' g f : Nat} {o o' q q' : Obj} (S : Sys B w0 L w5) (i j : Nat) (hi : L[i]? = some (g, o)) (s1 : setN L i (g, o') = some L1) (hj : L1[j]? = some (f, q)) (s2 : setN L1 j (f, q') = some L2) (h' : Sys B' w5 [(g, o'), (f, q')] w6) : Sys B w6 L2 w6 := by
  obtain ⟨e1, _⟩ := setN_spec _ _ _ _ s1
  obtain ⟨e2, _⟩ := setN_spec _ _ _ _ s2
  subst e1
  subst e2
  obtain ⟨k1, k2⟩ := set_cases (o' := o') S.nd hi
  obtain ⟨k3, k4⟩ := set_cases (o' := q') (by rw [k1]; exact S.nd) hj
  have bg : B ≤ g := (S.own _ (List.mem_of_getElem? hi)).1
  have bf : B ≤ f := by
    rcases k2 _ (List.mem_of_getElem? hj) with h | ⟨h, _⟩
    · have : f = g := congrArg Prod.fst h
      omega
    · exact (S.own _ h).1
  refine Sys.start (Nat.le_trans S.base (Nat.le_trans S.size h'.size)) (fun x hx => ?_) (by rw [k3, k1]; exact S.nd)
  rcases k4 x hx with rfl | ⟨hx, hne⟩
  · exact ⟨bf, (h'.own _ (.tail _ (.head _))).2⟩
  · rcases k2 x hx with rfl | ⟨hm, hne2⟩
    · exact ⟨bg, (h'.own _ (.head _)).2⟩
    · refine ⟨(S.own x hm).1, ?_⟩
      rw [h'.old x.1 (S.lt hm) (fun y hy e => ?_)]
      · exact (S.own x hm).2
      · simp only [List.mem_cons, List.not_mem_nil, or_false] at hy
        rcases hy with rfl | rfl
        · exact hne2 e.symm
        · exact hne e.symm
theorem accept_pan {N : Nat} {F : Fr} {L L1 L2 : Lo} {W w : World} {Q : Exit → Act → World → Prop} {rs : List ResultVar} {g6 g7 : Nat} {i e x y : Int} {c : Prop} {r0 : Int × Int} (hB : Below w.heap.size w W) (h : Tryz.f26.results = ⟨rs⟩) (hr : r0 = (i, e)) (i6 i7 : Nat)
    (m6 : L[i6]? = some (g6, cel 3 [.int .i64 x])) (s6 : setN L i6 (g6, cel 3 [.int .i64 i]) = some L1) (m7 : L1[i7]? = some (g7, cel 35 [.int .i64 y])) (s7 : setN L1 i7 (g7, cel 35 [.int .i64 e]) = some L2) (m8 : (g7, cel 35 [.int .i64 y]) ∈ L) (hne : g6 ≠ g7)
    (hv : resO TB F L2 rs = some ([.int .i64 i, .int .i64 e], c)) (hc : c)
    (hQ : ∀ a w', bodyPostD Tryz.prog Tryz.f26 (fun e w' => e = .returned (.tuple ⟨[.int .i64 r0.1, .int .i64 r0.2]⟩) ∧ Below w.heap.size w w') (.panic (pan (refV i e))) a w' → Q (.panic (pan (refV i e))) a w') :
    XE N w.heap.size W [{ target := .fn (.func 64) ⟨[.pointer (some ⟨g6, 0, none⟩), .pointer (some ⟨g7, 0, none⟩)]⟩, args := #[] }] Q (.panic (pan (refV i e))) F L := by
  subst hr
  refine ⟨fun a w' hf S => hQ a w' (leaveD (P := Tryz.prog) (T := TB) (L' := L2) tok (by intro h; cases h) hf h (ck rfl) hv hc ?_)⟩
  have o6 := S.own _ (List.mem_of_getElem? m6)
  have o7 := S.own _ m8
  refine (catch_ref (b := w.heap.size) (Nat.le_trans hB.size S.size) o6.2 o7.2 o6.1 o7.1 hne).mono fun en u' w2 hx => ?_
  obtain ⟨h1, h2, S2⟩ := hx
  exact ⟨h1, h2, ⟨_, _, S.turned2 i6 i7 m6 s6 m7 s7 S2⟩, rfl, (hB.trans S.toBelow).trans S2.toBelow⟩
theorem accept_ret {N : Nat} {F : Fr} {L L1 L2 : Lo} {W w : World} {Q : Exit → Act → World → Prop} {rs : List ResultVar} {g6 g7 : Nat} {i e : Int} {c : Prop} {r0 : Int × Int} (hB : Below w.heap.size w W) (h : Tryz.f26.results = ⟨rs⟩) (hr : r0 = (i, e)) (i6 i7 : Nat)
    (m6 : L[i6]? = some (g6, cel 3 [.int .i64 i])) (s6 : setN L i6 (g6, cel 3 [.int .i64 i]) = some L1) (m7 : L1[i7]? = some (g7, cel 35 [.int .i64 e])) (s7 : setN L1 i7 (g7, cel 35 [.int .i64 e]) = some L2) (m8 : (g7, cel 35 [.int .i64 e]) ∈ L) (hne : g6 ≠ g7)
    (hv : resO TB F L2 rs = some ([.int .i64 i, .int .i64 e], c)) (hc : c)
    (hQ : ∀ a w', bodyPostD Tryz.prog Tryz.f26 (fun e w' => e = .returned (.tuple ⟨[.int .i64 r0.1, .int .i64 r0.2]⟩) ∧ Below w.heap.size w w') .ret a w' → Q .ret a w') :
    XE N w.heap.size W [{ target := .fn (.func 64) ⟨[.pointer (some ⟨g6, 0, none⟩), .pointer (some ⟨g7, 0, none⟩)]⟩, args := #[] }] Q .ret F L := by
  subst hr
  refine ⟨fun a w' hf S => hQ a w' (leaveD (P := Tryz.prog) (T := TB) (L' := L2) tok (by intro h; cases h) hf h (ck rfl) hv hc ?_)⟩
  have o6 := S.own _ (List.mem_of_getElem? m6)
  have o7 := S.own _ m8
  refine (catch_ret (b := w.heap.size) (Nat.le_trans hB.size S.size) o6.2 o7.2 o6.1 o7.1 hne).mono fun en u' w2 hx => ?_
  obtain ⟨h1, rfl, S2⟩ := hx
  exact ⟨h1, rfl, ⟨_, _, S.turned2 i6 i7 m6 s6 m7 s7 S2⟩, rfl, (hB.trans S.toBelow).trans S2.toBelow⟩
theorem fn5_size : (Tryz.prog.info? 1).map (·.size) = some 1 := by kernel_rfl
theorem fn5_one : lkG TB.one 1 = some () := by kernel_rfl
set_option maxHeartbeats 16000000 in
theorem Accept_any {v : CTV} {t : CTk} {r : CRu} {q1 q2 : SV} {d : CDe} {w : World} (h : CtAt w w.heap.size v t) (hL1 : ListAt pekK5 w (Lt w.heap.size) q1 d.peaks) (hL2 : ListAt wtnK5 w (Lt w.heap.size) q2 d.later) :
    Calls Tryz.prog 26 #[ctkV v t, ruV r, decV q1 q2 d] w fun e w' => e = .returned (.tuple ⟨[.int .i64 (t.acc r d).1, .int .i64 (t.acc r d).2]⟩) ∧ Below w.heap.size w w' := by
  simp only [ctkV, ctkC, ruV, decV, decC, svV]
  refine enterD Tryz.func26 rfl Tryz.ntmps26 rfl ?_; simp only [frame, Nat.zero_add, Nat.reduceAdd]
  repeat (first | (refine M0 ?_; first | refine SL ?_ | refine SB fun _ _ => ?_) | (refine M1 ?_; refine SC ?_) | (refine M2 ?_; refine SE ?_))
  rename_i g3 hg3 g4 hg4 g5 hg5 g6 hg6 g7 hg7
  have hle : w.heap.size ≤ w.heap.size := Nat.le_refl _
  refine XL.with5 (v := v) (t := t) (r := r) h rfl rfl (fun hc w1 hB1 => ?_) (fun hc ho hq w1 gr g gm hG1 hB1 hgl hgrl => ?_)
  · have e1 : t.acc r d = (0, ruE t r) := by unfold CTk.acc; rw [if_pos hc]
    rw [e1]
    repeat (first | (refine M0 ?_; first | refine SL ?_ | refine SB fun _ _ => ?_ | refine XL.store_at tok 0 (g := g7) (o := 0) (j := 0) (cs := [.int .i64 0]) rfl rfl rfl rfl rfl (Nat.le_of_ble_eq_true rfl) rfl ?_) | (refine M1 ?_; refine SC ?_) | (refine M2 ?_; refine SE ?_))
    rw [show decide (ruE t r ≠ 0) = true from decide_eq_true hc]
    repeat (first | (refine M0 ?_; first | refine SL ?_ | refine SB fun _ _ => ?_) | (refine M1 ?_; refine SC ?_) | (refine M2 ?_; refine SE ?_))
    refine XC.drawRS (trunc w w.heap.size) [] [] [0, 1, 2] mixed (fun _ h => Sys.anchorT hB1 h (fun e he => by cases he) (by simp) hle) rfl (by kernel_rfl) ?_
    repeat (any_goals (first | (refine M0 ?_; first | refine SL ?_ | refine SB fun _ _ => ?_) | (refine M1 ?_; refine SC ?_) | (refine M2 ?_; first | refine SE ?_ | ((with_reducible refine atHeld ?_); refine z7 ?_)) | (refine M3 ?_; first | refine SG ?_ | refine SF ?_) | (refine M4 ?_; refine SR ?_) | (refine M5 ?_; first | exact M7 | refine YM ?_ | refine YN ?_ ?_)))
    any_goals (repeat (first | exact AnyR.nil | refine AnyR.skip rfl ?_))
    all_goals
      refine XE.retD0 tok Tryz.results26 rfl (by simp only [and_self, and_true]) (fun w' S => ?_)
      exact ⟨rfl, hB1.trans S.toBelow⟩
  repeat (first | (refine M0 ?_; first | refine SL ?_ | refine SB fun _ _ => ?_ | refine Y4 (Ev.makeFunc rfl rfl) ?_) | (refine M1 ?_; refine SC ?_) | (refine M2 ?_; refine SE ?_))
  refine XL.defer rfl ?_
  repeat (first | (refine M0 ?_; first | refine SL ?_ | refine SB fun _ _ => ?_ | refine Y4 (Ev.makeFunc rfl rfl) ?_) | (refine M1 ?_; refine SC ?_) | (refine M2 ?_; refine SE ?_))
  rename_i gc hgc
  refine XL.step _ (Ev.buildArr tok Tryz.underlying128 fn5_size rfl rfl rfl) rfl ?_
  repeat (first | (refine M0 ?_; first | refine SL ?_ | refine SB fun _ _ => ?_) | (refine M1 ?_; refine SC ?_) | (refine M2 ?_; refine SE ?_))
  refine XC.rebase (List.Sublist.refl _) (fun W0 S0 => ?_)
  have hG0 : Gam t v w.heap.size g gm [gc, gr, g, g7, g6, g5, g4, g3] [] [] W0 := hG1.on (ks := [gc, gr, g, g7, g6, g5, g4, g3]) S0 (.tail _ (.tail _ (.head _))) ZZMK ZZSB (by simp) (fun x hx => hx)
  have hB0 : Below w.heap.size w W0 := hB1.trans S0.toBelow
  have hn67 : g6 ≠ g7 := by
    have := S0.nd
    simp only [List.map_cons, List.map_nil, List.nodup_cons, List.mem_cons, not_or] at this
    exact fun e => this.2.2.2.1.1 e.symm
  have hbc : w.heap.size ≤ gc := (S0.own _ (.head _)).1
  have hlen1 := hL1.len (by decide)
  refine XC.loopk [6, 7, 36] rfl (fun z : Nat × World => [(37, .int .i64 (z.1 : Nat))]) (fun _ => [(gc, chkO gr q1 q2 d), (gr, rulO g r), (g, gamO v t gm), (g7, cel 35 [.int .i64 0]), (g6, cel 3 [.int .i64 0]), (g5, cel 46 (decC q1 q2 d)), (g4, cel 31 [.int .i64 r.count, .int .i64 r.early]), (g3, cel 29 (ctkC v t))]) (fun z => z.2)
    (fun z => z.1 ≤ 5 ∧ Gam t v w.heap.size g gm [gc, gr, g, g7, g6, g5, g4, g3] [] [] z.2 ∧ Below w.heap.size w z.2 ∧ (1 ≤ z.1 → t.strange d.plan = false ∧ d.peaks.length = t.m) ∧ (2 ≤ z.1 → t.earB r d = true) ∧ (3 ≤ z.1 → t.hldsB d = true) ∧ (4 ≤ z.1 → firstB (fun k => decide (d.peaks[k]?.getD (0, 0) ≠ t.peak d.plan k)) t.m = none) ∧
      (5 ≤ z.1 → ¬ (d.later.length : Int) ≠ t.manyI d ∧ firstB (fun k => !t.rules (d.plan.close - t.from_ + 1 + (k : Nat)) (d.later[k]?.getD (0, 0))) d.later.length = none)) (fun z => 5 - z.1) (0, W0)
    ⟨Nat.zero_le _, hG0, hB0, fun h => absurd h (by simp), fun h => absurd h (by simp), fun h => absurd h (by simp), fun h => absurd h (by simp), fun h => absurd h (by simp)⟩ ZZSUB (fun _ h => h) ?_
  rintro ⟨k, W⟩ ⟨hk, hGW, hBW, a1, a2, a3, a4, a5⟩
  simp only at hk hGW hBW a1 a2 a3 a4 a5
  dsimp only [List.cons_append, List.nil_append]
  repeat (first | (refine M0 ?_; first | refine SL ?_ | refine SB fun _ _ => ?_) | (refine M1 ?_; refine SC ?_) | (refine M2 ?_; refine SE ?_))
  refine XC.cond _ rfl (fun h5 => ?_) (fun h5 => ?_)
  · have hk4 : k ≤ 4 := by simp only [decide_eq_true_eq] at h5; omega
    rcases k with _ | _ | _ | _ | _ | k
    · repeat (first | (refine M0 ?_; first | refine SL ?_ | refine SB fun _ _ => ?_) | (refine M1 ?_; refine SC ?_) | (refine M2 ?_; refine SE ?_))
      refine XL.step _ (Ev.indexArr tok Tryz.underlying128 fn5_one rfl (j := 0) rfl (by decide) rfl) rfl ?_
      repeat (first | (refine M0 ?_; first | refine SL ?_ | refine SB fun _ _ => ?_) | (refine M1 ?_; refine SC ?_) | (refine M2 ?_; refine SE ?_))
      refine XL.callE (fst := [.pointer (some ⟨gc, 0, none⟩)]) (cap := []) (vs := []) (mustE (!t.strange d.plan && decide (d.peaks.length = t.m)) (refV 0 2)) (by unfold mustE; split <;> (intro hh; cases hh)) (ck rfl) rfl rfl rfl hGW (.tail _ (.tail _ (.head _))) (fun w5 ks2 S5 hk5 hG5 => (form_any (S5.own (gc, chkO gr q1 q2 d) (.head _)).2 (S5.own (gr, rulO g r) (.tail _ (.head _))).2 hG5.game ho hG5.task.hn hlen1).mono fun e w' hx => GamE.ofBelow hG5 hx) (fun w6 x he hG6 hB6 => ?_) (fun w6 ch he hG6 hB6 => ?_) ZZMK
      · have hfact := form_t (mustE_ret he)
        repeat (first | (refine M0 ?_; first | refine SL ?_ | refine SB fun _ _ => ?_) | (refine M1 ?_; refine SC ?_) | (refine M2 ?_; refine SE ?_))
        refine XE.roundW (s := (0, W)) (fun w9 S9 => ⟨(0 + 1, w9), ⟨by omega, hG6.on (ks := [gc, gr, g, g7, g6, g5, g4, g3]) S9 (.tail _ (.tail _ (.head _))) ZZMK ZZSB (by simp) (fun x hx => hx), (hBW.trans hB6).trans S9.toBelow, fun _ => hfact, fun hh => absurd hh (by omega), fun hh => absurd hh (by omega), fun hh => absurd hh (by omega), fun hh => absurd hh (by omega)⟩, by simp only; omega, ZZSUB, S9.rebase ZZSM⟩)
      · obtain ⟨hb, rfl⟩ := mustE_pan he
        exact accept_pan (i := 0) (e := 2) (hBW.trans hB6) Tryz.results26 (acc_form hc hb) 4 3 rfl rfl rfl rfl (.tail _ (.tail _ (.tail _ (.head _)))) hn67 rfl (by simp only [and_self, and_true]) (fun _ _ h => h)
    · repeat (first | (refine M0 ?_; first | refine SL ?_ | refine SB fun _ _ => ?_) | (refine M1 ?_; refine SC ?_) | (refine M2 ?_; refine SE ?_))
      refine XL.step _ (Ev.indexArr tok Tryz.underlying128 fn5_one rfl (j := 1) rfl (by decide) rfl) rfl ?_
      repeat (first | (refine M0 ?_; first | refine SL ?_ | refine SB fun _ _ => ?_) | (refine M1 ?_; refine SC ?_) | (refine M2 ?_; refine SE ?_))
      refine XL.callE (fst := [.pointer (some ⟨gc, 0, none⟩)]) (cap := []) (vs := []) (mustE (t.earB r d) (refV 0 150)) (by unfold mustE; split <;> (intro hh; cases hh)) (ck rfl) rfl rfl rfl hGW (.tail _ (.tail _ (.head _))) (fun w5 ks2 S5 hk5 hG5 => (early_any (S5.own (gc, chkO gr q1 q2 d) (.head _)).2 (S5.own (gr, rulO g r) (.tail _ (.head _))).2 hG5.game (hG5.task.more hG5.fam.base) ho hq (a1 (by omega)).1).mono fun e w' hx => GamE.ofBelow hG5 hx) (fun w6 x he hG6 hB6 => ?_) (fun w6 ch he hG6 hB6 => ?_) ZZMK
      · have hfact := mustE_ret he
        repeat (first | (refine M0 ?_; first | refine SL ?_ | refine SB fun _ _ => ?_) | (refine M1 ?_; refine SC ?_) | (refine M2 ?_; refine SE ?_))
        refine XE.roundW (s := (1, W)) (fun w9 S9 => ⟨(1 + 1, w9), ⟨by omega, hG6.on (ks := [gc, gr, g, g7, g6, g5, g4, g3]) S9 (.tail _ (.tail _ (.head _))) ZZMK ZZSB (by simp) (fun x hx => hx), (hBW.trans hB6).trans S9.toBelow, fun _ => a1 (by omega), fun _ => hfact, fun hh => absurd hh (by omega), fun hh => absurd hh (by omega), fun hh => absurd hh (by omega)⟩, by simp only; omega, ZZSUB, S9.rebase ZZSM⟩)
      · obtain ⟨hb, rfl⟩ := mustE_pan he
        exact accept_pan (i := 0) (e := 150) (hBW.trans hB6) Tryz.results26 (acc_early hc (a1 (by omega)).1 (a1 (by omega)).2 hb) 4 3 rfl rfl rfl rfl (.tail _ (.tail _ (.tail _ (.head _)))) hn67 rfl (by simp only [and_self, and_true]) (fun _ _ h => h)
    · repeat (first | (refine M0 ?_; first | refine SL ?_ | refine SB fun _ _ => ?_) | (refine M1 ?_; refine SC ?_) | (refine M2 ?_; refine SE ?_))
      refine XL.step _ (Ev.indexArr tok Tryz.underlying128 fn5_one rfl (j := 2) rfl (by decide) rfl) rfl ?_
      repeat (first | (refine M0 ?_; first | refine SL ?_ | refine SB fun _ _ => ?_) | (refine M1 ?_; refine SC ?_) | (refine M2 ?_; refine SE ?_))
      refine XL.callE (fst := [.pointer (some ⟨gc, 0, none⟩)]) (cap := []) (vs := []) (mustE (t.hldsB d) (refV 0 151)) (by unfold mustE; split <;> (intro hh; cases hh)) (ck rfl) rfl rfl rfl hGW (.tail _ (.tail _ (.head _))) (fun w5 ks2 S5 hk5 hG5 => holdsC_any hG5 ho (S5.own (gc, chkO gr q1 q2 d) (.head _)).2 (S5.own (gr, rulO g r) (.tail _ (.head _))).2 (hk5 (gc, chkO gr q1 q2 d) (.head _)) (hk5 (gr, rulO g r) (.tail _ (.head _))) hbc hgrl (a1 (by omega)).1 (ear_may (a2 (by omega)))) (fun w6 x he hG6 hB6 => ?_) (fun w6 ch he hG6 hB6 => ?_) ZZMK
      · have hfact := mustE_ret he
        repeat (first | (refine M0 ?_; first | refine SL ?_ | refine SB fun _ _ => ?_) | (refine M1 ?_; refine SC ?_) | (refine M2 ?_; refine SE ?_))
        refine XE.roundW (s := (2, W)) (fun w9 S9 => ⟨(2 + 1, w9), ⟨by omega, hG6.on (ks := [gc, gr, g, g7, g6, g5, g4, g3]) S9 (.tail _ (.tail _ (.head _))) ZZMK ZZSB (by simp) (fun x hx => hx), (hBW.trans hB6).trans S9.toBelow, fun _ => a1 (by omega), fun _ => a2 (by omega), fun _ => hfact, fun hh => absurd hh (by omega), fun hh => absurd hh (by omega)⟩, by simp only; omega, ZZSUB, S9.rebase ZZSM⟩)
      · obtain ⟨hb, rfl⟩ := mustE_pan he
        exact accept_pan (i := 0) (e := 151) (hBW.trans hB6) Tryz.results26 (acc_holds hc (a1 (by omega)).1 (a1 (by omega)).2 (a2 (by omega)) hb) 4 3 rfl rfl rfl rfl (.tail _ (.tail _ (.tail _ (.head _)))) hn67 rfl (by simp only [and_self, and_true]) (fun _ _ h => h)
    · repeat (first | (refine M0 ?_; first | refine SL ?_ | refine SB fun _ _ => ?_) | (refine M1 ?_; refine SC ?_) | (refine M2 ?_; refine SE ?_))
      refine XL.step _ (Ev.indexArr tok Tryz.underlying128 fn5_one rfl (j := 3) rfl (by decide) rfl) rfl ?_
      repeat (first | (refine M0 ?_; first | refine SL ?_ | refine SB fun _ _ => ?_) | (refine M1 ?_; refine SC ?_) | (refine M2 ?_; refine SE ?_))
      refine XL.callE (fst := [.pointer (some ⟨gc, 0, none⟩)]) (cap := []) (vs := []) (t.hgtE d) (by unfold CTk.hgtE; split <;> (intro hh; cases hh)) (ck rfl) rfl rfl rfl hGW (.tail _ (.tail _ (.head _))) (fun w5 ks2 S5 hk5 hG5 => heights_any hG5 ho (S5.own (gc, chkO gr q1 q2 d) (.head _)).2 (S5.own (gr, rulO g r) (.tail _ (.head _))).2 (hk5 (gc, chkO gr q1 q2 d) (.head _)) (hk5 (gr, rulO g r) (.tail _ (.head _))) hbc hgrl (a1 (by omega)).1 (hlds_ins ho (a3 (by omega))) (hL1.below (hBW.trans S5.toBelow)) (a1 (by omega)).2) (fun w6 x he hG6 hB6 => ?_) (fun w6 ch he hG6 hB6 => ?_) ZZMK
      · have hfact := hgt_r he
        repeat (first | (refine M0 ?_; first | refine SL ?_ | refine SB fun _ _ => ?_) | (refine M1 ?_; refine SC ?_) | (refine M2 ?_; refine SE ?_))
        refine XE.roundW (s := (3, W)) (fun w9 S9 => ⟨(3 + 1, w9), ⟨by omega, hG6.on (ks := [gc, gr, g, g7, g6, g5, g4, g3]) S9 (.tail _ (.tail _ (.head _))) ZZMK ZZSB (by simp) (fun x hx => hx), (hBW.trans hB6).trans S9.toBelow, fun _ => a1 (by omega), fun _ => a2 (by omega), fun _ => a3 (by omega), fun _ => hfact, fun hh => absurd hh (by omega)⟩, by simp only; omega, ZZSUB, S9.rebase ZZSM⟩)
      · obtain ⟨n, hn, rfl⟩ := hgt_p he
        exact accept_pan (i := ((n : Nat) : Int)) (e := 152) (hBW.trans hB6) Tryz.results26 (acc_heights hc (a1 (by omega)).1 (a1 (by omega)).2 (a2 (by omega)) (a3 (by omega)) hn) 4 3 rfl rfl rfl rfl (.tail _ (.tail _ (.tail _ (.head _)))) hn67 rfl (by simp only [and_self, and_true]) (fun _ _ h => h)
    · repeat (first | (refine M0 ?_; first | refine SL ?_ | refine SB fun _ _ => ?_) | (refine M1 ?_; refine SC ?_) | (refine M2 ?_; refine SE ?_))
      refine XL.step _ (Ev.indexArr tok Tryz.underlying128 fn5_one rfl (j := 4) rfl (by decide) rfl) rfl ?_
      repeat (first | (refine M0 ?_; first | refine SL ?_ | refine SB fun _ _ => ?_) | (refine M1 ?_; refine SC ?_) | (refine M2 ?_; refine SE ?_))
      refine XL.callE (fst := [.pointer (some ⟨gc, 0, none⟩)]) (cap := []) (vs := []) (t.latE d) (by unfold CTk.latE; split <;> (first | (intro hh; cases hh; done) | (split <;> (intro hh; cases hh)))) (ck rfl) rfl rfl rfl hGW (.tail _ (.tail _ (.head _))) (fun w5 ks2 S5 hk5 hG5 => later_any hG5 ho (S5.own (gc, chkO gr q1 q2 d) (.head _)).2 (S5.own (gr, rulO g r) (.tail _ (.head _))).2 (hk5 (gc, chkO gr q1 q2 d) (.head _)) (hk5 (gr, rulO g r) (.tail _ (.head _))) hbc hgrl (a1 (by omega)).1 (ear_may (a2 (by omega))) (hL2.below (hBW.trans S5.toBelow))) (fun w6 x he hG6 hB6 => ?_) (fun w6 ch he hG6 hB6 => ?_) ZZMK
      · have hfact := lat_r he
        repeat (first | (refine M0 ?_; first | refine SL ?_ | refine SB fun _ _ => ?_) | (refine M1 ?_; refine SC ?_) | (refine M2 ?_; refine SE ?_))
        refine XE.roundW (s := (4, W)) (fun w9 S9 => ⟨(4 + 1, w9), ⟨by omega, hG6.on (ks := [gc, gr, g, g7, g6, g5, g4, g3]) S9 (.tail _ (.tail _ (.head _))) ZZMK ZZSB (by simp) (fun x hx => hx), (hBW.trans hB6).trans S9.toBelow, fun _ => a1 (by omega), fun _ => a2 (by omega), fun _ => a3 (by omega), fun _ => a4 (by omega), fun _ => hfact⟩, by simp only; omega, ZZSUB, S9.rebase ZZSM⟩)
      · rcases lat_p he with ⟨hm, rfl⟩ | ⟨hm, n, hn, rfl⟩
        · exact accept_pan (i := 0) (e := 2) (hBW.trans hB6) Tryz.results26 (acc_many hc (a1 (by omega)).1 (a1 (by omega)).2 (a2 (by omega)) (a3 (by omega)) (a4 (by omega)) hm) 4 3 rfl rfl rfl rfl (.tail _ (.tail _ (.tail _ (.head _)))) hn67 rfl (by simp only [and_self, and_true]) (fun _ _ h => h)
        · exact accept_pan (i := ((n : Nat) : Int)) (e := 153) (hBW.trans hB6) Tryz.results26 (acc_later hc (a1 (by omega)).1 (a1 (by omega)).2 (a2 (by omega)) (a3 (by omega)) (a4 (by omega)) hm hn) 4 3 rfl rfl rfl rfl (.tail _ (.tail _ (.tail _ (.head _)))) hn67 rfl (by simp only [and_self, and_true]) (fun _ _ h => h)
    · omega
  · have hk5 : k = 5 := by simp only [decide_eq_false_iff_not] at h5; omega
    subst hk5
    repeat (first | (refine M0 ?_; first | refine SL ?_ | refine SB fun _ _ => ?_) | (refine M1 ?_; refine SC ?_) | (refine M2 ?_; refine SE ?_))
    exact accept_ret (i := 0) (e := 0) hBW Tryz.results26 (acc_ok hc (a1 (by omega)).1 (a1 (by omega)).2 (a2 (by omega)) (a3 (by omega)) (a4 (by omega)) (a5 (by omega)).1 (a5 (by omega)).2) 4 3 rfl rfl rfl rfl (.tail _ (.tail _ (.tail _ (.head _)))) hn67 rfl (by simp only [and_self, and_true]) (fun _ _ h => h)
end Go.Proofs.YtmpaiphakjogjaaGreat.X
namespace Go.Proofs.YtmpaiphakjogjaaGreat.Bs
open Go Go.Proofs.YtmpaiphakjogjaaGreat.X
theorem any_all {l : List Int} {f : Int → Bool} : (l.all fun x => !f x) = !l.any f := by
  induction l with
  | nil => rfl
  | cons a l ih => simp [ih, Bool.not_or]
theorem take_all {l : List Int} {f : Int → Bool} {k : Nat} (hk : k < l.length) : (l.take (k + 1)).all f = ((l.take k).all f && f (at0 l k)) := by
  rw [List.take_succ_eq_append_getElem hk, List.all_append]
  unfold at0
  rw [List.getElem?_eq_getElem hk]
  simp
theorem from_in {f : Int} {n : Nat} (hn : 1 ≤ n) : (!outB f 0 200000 && !outB (f + n - 1) 0 200000) = !outB f 0 (200000 - n + 1) := by
  rw [Bool.eq_iff_iff]
  simp only [Bool.and_eq_true, Bool.not_eq_true', outB_f]
  omega
end Go.Proofs.YtmpaiphakjogjaaGreat.Bs
namespace Go.Proofs.YtmpaiphakjogjaaGreat.X
open Go Go.RowKit Go.Proofs.YtmpaiphakjogjaaGreat.Bs
theorem in5_any (n lo hi : Int) (w : World) : Calls Tryz.prog 35 #[.int .i64 n, .int .i64 lo, .int .i64 hi] w fun e w' => e = .returned (.bool (!outB n lo hi)) ∧ Below w.heap.size w w' := by
  refine enter Tryz.func35 rfl Tryz.ntmps35 rfl ?_; simp only [frame, Nat.zero_add, Nat.reduceAdd]
  by_cases h1 : lo ≤ n
  · have e : (!outB n lo hi) = decide (n ≤ hi) := by
      unfold outB
      rw [decide_eq_false (by omega), Bool.false_or]
      by_cases h2 : n ≤ hi
      · rw [decide_eq_true h2, decide_eq_false (by omega)]; rfl
      · rw [decide_eq_false h2, decide_eq_true (by omega)]; rfl
    repeat (first | (refine M0 ?_; first | refine SL ?_ | refine SB fun _ _ => ?_) | (refine M1 ?_; refine SC ?_) | (refine M2 ?_; refine SE ?_))
    rw [show decide (lo ≤ n) = true from decide_eq_true h1]
    repeat (first | (refine M0 ?_; first | refine SL ?_ | refine SB fun _ _ => ?_) | (refine M1 ?_; refine SC ?_) | (refine M2 ?_; refine SE ?_))
    refine XE.retg tok Tryz.results35 rfl (by simp only [and_self, and_true]) (fun w' S => ?_)
    rw [e]
    exact ⟨rfl, S.toBelow⟩
  · have e : (!outB n lo hi) = false := by
      unfold outB
      rw [decide_eq_true (by omega)]; rfl
    repeat (first | (refine M0 ?_; first | refine SL ?_ | refine SB fun _ _ => ?_) | (refine M1 ?_; refine SC ?_) | (refine M2 ?_; refine SE ?_))
    rw [show decide (lo ≤ n) = false from decide_eq_false h1]
    repeat (first | (refine M0 ?_; first | refine SL ?_ | refine SB fun _ _ => ?_) | (refine M1 ?_; refine SC ?_) | (refine M2 ?_; refine SE ?_))
    refine XE.retg tok Tryz.results35 rfl (by simp only [and_self, and_true]) (fun w' S => ?_)
    rw [e]
    exact ⟨rfl, S.toBelow⟩
set_option maxHeartbeats 8000000 in
theorem refHis_any {v : CTV} {t : CTk} {k : Nat} {w : World} (hT : CtAt w w.heap.size v t) (hk : k < t.m) (hn1 : 1 ≤ t.n) (hn60 : t.n ≤ 60) :
    Calls Tryz.prog 97 #[ctkV v t, .int .i64 (k : Nat)] w fun e w' => e = .returned (.int .i64 (hisErr t k)) ∧ Below w.heap.size w w' := by
  have hhn := hT.hn
  have hhm := hT.hmax
  obtain ⟨ad, q, e1, hlt, hc, hq⟩ := hT.hisAt hk
  obtain ⟨ad', q0, e1', hlt', hc', hq0⟩ := hT.hisAt (k := 0) (by omega)
  obtain ⟨vp, vf, ⟨Ah, nh, ch⟩, vr⟩ := v
  simp only at hhn hhm e1 e1'
  subst hhn
  obtain rfl := e1
  obtain rfl : ad = ad' := Option.some.inj e1'
  have hql := hq.len
  have hq0l := hq0.len
  have hqm := hq.max
  obtain ⟨qA, qn, qc⟩ := q
  obtain ⟨pA, pn, pc⟩ := q0
  simp only at hql hq0l hqm
  subst hql hq0l
  have hbw := Below.refl w.heap.size w
  have en : (t.h 0).vals.length = t.n := rfl
  have ef : (t.h 0).from_ = t.from_ := rfl
  simp only [ctkV, ctkC]
  refine enter Tryz.func97 rfl Tryz.ntmps97 rfl ?_; simp only [frame, Nat.zero_add, Nat.reduceAdd]
  repeat (first | (refine M0 ?_; first | refine SL ?_ | refine SB fun _ _ => ?_) | (refine M1 ?_; refine SC ?_) | (refine M2 ?_; refine SE ?_))
  rename_i g2 hg2
  refine XC.cutn [1, 2] rfl (fun g : Nat × Nat => [(5, .pointer (some ⟨g.1, 0, none⟩)), (6, .pointer (some ⟨g.2, 0, none⟩))]) (fun g => [(g.2, cel 133 [.int .i64 (t.h 0).from_, .slice pA (t.h 0).vals.length pc]), (g.1, cel 133 [.int .i64 (t.h k).from_, .slice qA (t.h k).vals.length qc]), (g2, cel 29 (ctkC ⟨vp, vf, ⟨some ad, t.m, ch⟩, vr⟩ t))]) (fun _ => w) (fun g => w.heap.size ≤ g.1 ∧ w.heap.size ≤ g.2) ?_ ?_
  · refine XC.drawR _ [0, 1, 2, 3, 4, 5, 6, 7, 8] [9, 10, 11, 12] mixed (fun _ h => h) rfl (by kernel_rfl) ?_
    repeat (any_goals (first | (refine M0 ?_; first | refine SL ?_ | refine SB fun _ _ => ?_ | refine Y4 (Ev.load_old_agg tok (hisC ⟨qA, (t.h k).vals.length, qc⟩ (t.h k)) rfl rfl rfl (add_lt hlt) hc) ?_ | refine Y4 (Ev.load_old_agg tok (hisC ⟨pA, (t.h 0).vals.length, pc⟩ (t.h 0)) rfl rfl rfl (add_lt hlt) hc') ?_) | (refine M1 ?_; refine SC ?_) | (refine M2 ?_; refine SE ?_) | (refine M3 ?_; first | refine SG ?_ | refine SF ?_ | refine YF (Ev.load_old_agg tok (hisC ⟨qA, (t.h k).vals.length, qc⟩ (t.h k)) rfl rfl rfl (add_lt hlt) hc) ?_ | refine YF (Ev.load_old_agg tok (hisC ⟨pA, (t.h 0).vals.length, pc⟩ (t.h 0)) rfl rfl rfl (add_lt hlt) hc') ?_) | (refine M4 ?_; refine SR ?_) | (refine M5 ?_; first | exact M7 | refine YM ?_ | refine YN ?_ ?_)))
    any_goals (repeat (first | exact AnyR.nil | refine AnyR.skip rfl ?_))
    all_goals exact XE.leaf (_, _) ZZSUB (fun _ S' => by first | exact S' | exact S'.perm (by repeat (first | exact List.Perm.refl _ | refine perm1 ?_ | refine List.Perm.cons _ ?_ | refine perm2 ?_)) | exact (S'.pop (by assumption)) | exact (S'.pop2 (by assumption))) ⟨by assumption, by assumption⟩
  rintro ⟨g5, g6⟩ ⟨hg5, hg6⟩
  simp only at hg5 hg6
  dsimp only [List.cons_append, List.nil_append]
  refine XC.hint 6 2 (XC.hint 5 1 ?_)
  by_cases hf : (t.h k).from_ = (t.h 0).from_
  rotate_left
  · repeat (first | (refine M0 ?_; first | refine SL ?_ | refine SB fun _ _ => ?_) | (refine M1 ?_; refine SC ?_) | (refine M2 ?_; refine SE ?_))
    rw [show decide ((t.h k).from_ ≠ (t.h 0).from_) = true from decide_eq_true hf]
    repeat (first | (refine M0 ?_; first | refine SL ?_ | refine SB fun _ _ => ?_) | (refine M1 ?_; refine SC ?_) | (refine M2 ?_; refine SE ?_))
    refine XE.retg tok Tryz.results97 rfl (by simp only [and_self, and_true]) (fun w' S => ?_)
    exact ⟨by unfold hisErr; rw [if_pos (.inl hf)]; rfl, S.toBelow⟩
  repeat (first | (refine M0 ?_; first | refine SL ?_ | refine SB fun _ _ => ?_) | (refine M1 ?_; refine SC ?_) | (refine M2 ?_; refine SE ?_))
  rw [show decide ((t.h k).from_ ≠ (t.h 0).from_) = false from decide_eq_false (fun h => h hf)]
  repeat (first | (refine M0 ?_; first | refine SL ?_ | refine SB fun _ _ => ?_) | (refine M1 ?_; refine SC ?_) | (refine M2 ?_; refine SE ?_))
  by_cases hl : (t.h k).vals.length = t.n
  rotate_left
  · rw [show decide (((t.h k).vals.length : Int) ≠ ((t.h 0).vals.length : Int)) = true from decide_eq_true (by rw [en]; omega)]
    repeat (first | (refine M0 ?_; first | refine SL ?_ | refine SB fun _ _ => ?_) | (refine M1 ?_; refine SC ?_) | (refine M2 ?_; refine SE ?_))
    refine XE.retg tok Tryz.results97 rfl (by simp only [and_self, and_true]) (fun w' S => ?_)
    exact ⟨by unfold hisErr; rw [if_pos (.inr hl)]; rfl, S.toBelow⟩
  rw [show decide (((t.h k).vals.length : Int) ≠ ((t.h 0).vals.length : Int)) = false from decide_eq_false (by rw [en]; omega)]
  have hE : hisErr t k = if outB (t.h k).from_ 0 (200000 - t.n + 1) || (t.h k).vals.any highB then 7 else 0 := by
    unfold hisErr
    rw [if_neg (fun h => h.elim (fun h => h hf) (fun h => h hl))]
  have hfi := from_in (f := (t.h k).from_) hn1
  obtain ⟨b0, hb0⟩ : ∃ b0, b0 = !outB (t.h k).from_ 0 (200000 - t.n + 1) := ⟨_, rfl⟩
  rw [← hb0] at hfi
  obtain ⟨l, hll⟩ : ∃ l, l = (t.h k).vals := ⟨_, rfl⟩
  have hbb : (!(outB (t.h k).from_ 0 (200000 - t.n + 1) || l.any highB)) = (b0 && l.all fun x => !highB x) := by rw [any_all, Bool.not_or, hb0]
  repeat (first | (refine M0 ?_; first | refine SL ?_ | refine SB fun _ _ => ?_) | (refine M2 ?_; refine SE ?_) | (refine M3 ?_; first | refine SG ?_ | refine SF ?_) | (refine M4 ?_; refine SR ?_) | (refine M5 ?_; first | exact M7 | refine YM ?_ | refine YN ?_ ?_))
  refine SC ?_
  refine SC ?_
  refine SE ?_
  refine XC.seq ?_
  refine XC.cutn [2, 5, 6] rfl (fun _ : Unit => [(7, .bool b0)]) (fun _ => [(g6, cel 133 [.int .i64 (t.h 0).from_, .slice pA (t.h 0).vals.length pc]), (g5, cel 133 [.int .i64 (t.h k).from_, .slice qA (t.h k).vals.length qc]), (g2, cel 29 (ctkC ⟨vp, vf, ⟨some ad, t.m, ch⟩, vr⟩ t))]) (fun _ => w) (fun _ => True) ?_ (fun _ _ => ?_)
  · cases hx : outB (t.h k).from_ 0 200000 with
    | true =>
      rw [hx] at hfi
      have hb : b0 = false := hfi.symm
      subst hb
      repeat (first | (refine M0 ?_; first | refine SL ?_ | refine SB fun _ _ => ?_ | refine Y4 (Ev.call (f := 35) (ck rfl) rfl (fun w _ => in5_any _ _ _ w)) ?_) | (refine M1 ?_; refine SC ?_) | (refine M2 ?_; refine SE ?_))
      rw [hx]
      repeat (first | (refine M0 ?_; first | refine SL ?_ | refine SB fun _ _ => ?_) | (refine M1 ?_; refine SC ?_) | (refine M2 ?_; refine SE ?_))
      exact XE.leaf () ZZSUB (fun _ h => h) trivial
    | false =>
      rw [hx, Bool.not_false, Bool.true_and, ← hl] at hfi
      have hbd := outB_f.1 hx
      repeat (first | (refine M0 ?_; first | refine SL ?_ | refine SB fun _ _ => ?_ | refine Y4 (Ev.call (f := 35) (ck rfl) rfl (fun w _ => in5_any _ _ _ w)) ?_) | (refine M1 ?_; refine SC ?_) | (refine M2 ?_; refine SE ?_))
      rw [hx]
      repeat (first | (refine M0 ?_; first | refine SL ?_ | refine SB fun _ _ => ?_ | refine Y4 (Ev.call (f := 35) (ck rfl) rfl (fun w _ => in5_any _ _ _ w)) ?_) | (refine M1 ?_; refine SC ?_) | (refine M2 ?_; refine SE ?_))
      rw [hfi]
      exact XE.leaf () ZZSUB (fun _ h => h) trivial
  dsimp only [List.cons_append, List.nil_append]
  have hmx : (t.h k).vals.length ≤ 60 := by omega
  rw [← hll] at hq hmx hE ⊢
  repeat (first | (refine M0 ?_; first | refine SL ?_ | refine SB fun _ _ => ?_) | (refine M1 ?_; refine SC ?_) | (refine M2 ?_; refine SE ?_))
  refine XC.loopk [2, 5, 6] rfl (fun j : Nat => [(7, .bool (b0 && (l.take j).all fun x => !highB x)), (8, .int .i64 (j : Nat))]) (fun _ => [(g6, cel 133 [.int .i64 (t.h 0).from_, .slice pA (t.h 0).vals.length pc]), (g5, cel 133 [.int .i64 (t.h k).from_, .slice qA l.length qc]), (g2, cel 29 (ctkC ⟨vp, vf, ⟨some ad, t.m, ch⟩, vr⟩ t))]) (fun _ => w) (fun j => j ≤ l.length) (fun j => l.length - j) 0 (Nat.zero_le _) (Sub.cons (by show some _ = some _; simp) ZZSUB) (fun _ h => h) ?_
  intro j hj
  dsimp only [List.cons_append, List.nil_append]
  repeat (first | (refine M0 ?_; first | refine SL ?_ | refine SB fun _ _ => ?_) | (refine M1 ?_; refine SC ?_) | (refine M2 ?_; refine SE ?_))
  refine XC.cond _ rfl (fun h2 => ?_) (fun h2 => ?_)
  rotate_left
  · have hjn : j = l.length := by have := of_decide_eq_false h2; omega
    subst hjn
    rw [List.take_length, ← hbb]
    cases hz : (outB (t.h k).from_ 0 (200000 - t.n + 1) || l.any highB) with
    | true =>
      rw [hz] at hE
      repeat (first | (refine M0 ?_; first | refine SL ?_ | refine SB fun _ _ => ?_) | (refine M1 ?_; refine SC ?_) | (refine M2 ?_; refine SE ?_))
      refine XE.retg tok Tryz.results97 rfl (by simp only [and_self, and_true]) (fun w' S => ?_)
      exact ⟨by rw [hE]; rfl, S.toBelow⟩
    | false =>
      rw [hz] at hE
      repeat (first | (refine M0 ?_; first | refine SL ?_ | refine SB fun _ _ => ?_) | (refine M1 ?_; refine SC ?_) | (refine M2 ?_; refine SE ?_))
      refine XE.retg tok Tryz.results97 rfl (by simp only [and_self, and_true]) (fun w' S => ?_)
      exact ⟨by rw [hE]; rfl, S.toBelow⟩
  have hjn : j < l.length := by have := of_decide_eq_true h2; omega
  obtain ⟨aq, rfl, hltq, hcq⟩ := hq.at_ (by omega)
  have hcell := hcq j hjn
  have htk := take_all (f := fun x => !highB x) hjn
  cases hb : (b0 && (l.take j).all fun x => !highB x) with
  | false =>
    have htk2 : (b0 && (l.take (j + 1)).all fun x => !highB x) = false := by rw [htk, ← Bool.and_assoc, hb]; rfl
    repeat (first | (refine M0 ?_; first | refine SL ?_ | refine SB fun _ _ => ?_) | (refine M1 ?_; refine SC ?_) | (refine M2 ?_; refine SE ?_))
    exact XE.round (s := j) (j + 1) (by omega) (by omega) (Sub.cons (by simp only [htk2]; rfl) ZZSUB) (fun _ h => h)
  | true =>
    have htk2 : (b0 && (l.take (j + 1)).all fun x => !highB x) = !outB (at0 l j) (-20000) 20000 := by rw [htk, ← Bool.and_assoc, hb]; rfl
    repeat (first | (refine M0 ?_; first | refine SL ?_ | refine SB fun _ _ => ?_ | refine Y4 (Ev.load_old tok rfl rfl (add_lt hltq) hcell) ?_ | refine Y4 (Ev.call (f := 35) (ck rfl) rfl (fun w _ => in5_any _ _ _ w)) ?_) | (refine M1 ?_; refine SC ?_) | (refine M2 ?_; refine SE ?_))
    exact XE.round (s := j) (j + 1) (by omega) (by omega) (Sub.cons (by simp only [htk2]; rfl) ZZSUB) (fun _ h => h)
end Go.Proofs.YtmpaiphakjogjaaGreat.X
namespace Go.Proofs.YtmpaiphakjogjaaGreat.Bs
open Go Go.Proofs.YtmpaiphakjogjaaGreat.X
theorem filB_take {t : CTk} {j : Nat} : ((List.range (j + 1)).all fun i => !outB (at0 t.fil i) 0 (t.b.pol i).room) = (((List.range j).all fun i => !outB (at0 t.fil i) 0 (t.b.pol i).room) && !outB (at0 t.fil j) 0 (t.b.pol j).room) := by
  rw [List.range_succ, List.all_append]; simp
theorem filB_all {t : CTk} : ((List.range t.fil.length).all fun i => !outB (at0 t.fil i) 0 (t.b.pol i).room) = !filBad t := by
  unfold filBad
  generalize List.range t.fil.length = l
  induction l with
  | nil => rfl
  | cons a l ih => simp [ih, Bool.not_or]
end Go.Proofs.YtmpaiphakjogjaaGreat.Bs
namespace Go.Proofs.YtmpaiphakjogjaaGreat.X
open Go Go.RowKit Go.Proofs.YtmpaiphakjogjaaGreat.Bs
set_option maxHeartbeats 16000000 in
theorem refCheck5_any {v : CTV} {t : CTk} {w : World} (h : CtAt w w.heap.size v t) :
    Calls Tryz.prog 78 #[ctkV v t] w fun e w' => e = .returned (chkCV t) ∧ Below w.heap.size w w' := by
  have hm := h.hn
  have hmax := h.hmax
  have hrn := h.river.len
  have hrm := h.river.max
  have hfn := h.fil.len
  have hfm := h.fil.max
  have hpn := h.bas.n2_eq
  have hrows := h.bas.n_eq
  have hbas := h.bas
  have hhis := fun k hk => h.hisAt (k := k) hk
  have hriv := h.river
  have hfil := h.fil
  have hh := h
  obtain ⟨⟨A1, n1, c1, A2, n2, c2⟩, ⟨Af, nf, cf⟩, ⟨Ah, nh, ch⟩, ⟨Ar, nr, cr⟩⟩ := v
  simp only at hm hrn hfn hpn hrows hmax hrm hfm
  subst hm hrn hfn hpn hrows
  have hchk := fun (w5 : World) (hB : Below w.heap.size w w5) => refCheck_any (p := ⟨A1, t.b.rows.length, c1, A2, t.b.pols.length, c2⟩) (b := t.b) (w := w5) ((hbas.below hB).more hB.size)
  simp only [basV, basC] at hchk
  simp only [ctkV, ctkC]
  refine enter Tryz.func78 rfl Tryz.ntmps78 rfl ?_; simp only [frame, Nat.zero_add, Nat.reduceAdd]
  repeat (first | (refine M0 ?_; first | refine SL ?_ | refine SB fun _ _ => ?_ | refine Y4 (Ev.call (f := 96) (ck rfl) rfl (fun w5 S5 => hchk w5 S5.toBelow)) ?_) | (refine M1 ?_; refine SC ?_) | (refine M2 ?_; refine SE ?_))
  rename_i g1 hg1
  by_cases hc : chkE t.b = 0
  rotate_left
  · rw [show decide ((chk t.b).2.2 ≠ 0) = true from decide_eq_true hc]
    repeat (first | (refine M0 ?_; first | refine SL ?_ | refine SB fun _ _ => ?_) | (refine M1 ?_; refine SC ?_) | (refine M2 ?_; refine SE ?_))
    refine XE.retg tok Tryz.results78 rfl (by simp only [and_self, and_true]) (fun w' S => ?_)
    exact ⟨chkCV_of (chkC_1 hc), S.toBelow⟩
  rw [show decide ((chk t.b).2.2 ≠ 0) = false from decide_eq_false (fun h => h hc)]
  repeat (first | (refine M0 ?_; first | refine SL ?_ | refine SB fun _ _ => ?_ | refine Y4 (Ev.call (f := 35) (ck rfl) rfl (fun w _ => in5_any _ _ _ w)) ?_) | (refine M1 ?_; refine SC ?_) | (refine M2 ?_; refine SE ?_))
  cases hm1 : outB (t.m : Int) 1 8
  rotate_left
  · repeat (first | (refine M0 ?_; first | refine SL ?_ | refine SB fun _ _ => ?_) | (refine M1 ?_; refine SC ?_) | (refine M2 ?_; refine SE ?_))
    refine XE.retg tok Tryz.results78 rfl (by simp only [and_self, and_true]) (fun w' S => ?_)
    exact ⟨chkCV_of (chkC_2 hc (by rw [hm1]; rfl)), S.toBelow⟩
  have hm2 := outB_f.1 hm1
  obtain ⟨ad, ⟨A0, n0, c0⟩, rfl, hlt, hcell0, hq0⟩ := hhis 0 (by omega)
  have hl0 := hq0.len
  have hn0 : n0 = t.n := hl0
  subst hn0
  have d01 : w.cell? ((ad.add (0 * 2)).add 1) = some (.slice A0 t.n c0) := hcell0 1 _ rfl
  repeat (first | (refine M0 ?_; first | refine SL ?_ | refine SB fun _ _ => ?_ | refine Y4 (Ev.load_old tok rfl rfl (add_lt2 hlt) d01) ?_ | refine Y4 (Ev.call (f := 35) (ck rfl) rfl (fun w _ => in5_any _ _ _ w)) ?_) | (refine M1 ?_; refine SC ?_) | (refine M2 ?_; refine SE ?_))
  cases hn1 : outB (t.n : Int) 1 60
  rotate_left
  · repeat (first | (refine M0 ?_; first | refine SL ?_ | refine SB fun _ _ => ?_) | (refine M1 ?_; refine SC ?_) | (refine M2 ?_; refine SE ?_))
    refine XE.retg tok Tryz.results78 rfl (by simp only [and_self, and_true]) (fun w' S => ?_)
    exact ⟨chkCV_of (chkC_2 hc (by rw [hm1, hn1]; rfl)), S.toBelow⟩
  have hn2 := outB_f.1 hn1
  have pA : PreA t := ⟨hc, hm1, hn1⟩
  have hhi := fun {L : Lo} (k : Nat) (hk : k < t.m) (w5 : World) (S5 : Sys w.heap.size w L w5) => refHis_any (hh.sys S5) hk (by omega) (by omega)
  simp only [ctkV, ctkC] at hhi
  repeat (first | (refine M0 ?_; first | refine SL ?_ | refine SB fun _ _ => ?_) | (refine M1 ?_; refine SC ?_) | (refine M2 ?_; refine SE ?_))
  refine XC.loopk [1] rfl (fun k : Nat => [(8, .int .i64 (k : Nat))]) (fun _ => [(g1, cel 29 (ctkC ⟨⟨A1, t.b.rows.length, c1, A2, t.b.pols.length, c2⟩, ⟨Af, t.fil.length, cf⟩, ⟨some ad, t.m, ch⟩, ⟨Ar, t.river.length, cr⟩⟩ t))]) (fun _ => w) (fun k => k ≤ t.m ∧ ∀ j, j < k → hisErr t j = 0) (fun k => t.m - k) 0 ⟨Nat.zero_le _, fun j h => absurd h (by omega)⟩ ZZSUB (fun _ h => h) ?_
  rintro k ⟨hk, h0⟩
  simp only [ctkC]
  dsimp only [List.cons_append, List.nil_append]
  repeat (first | (refine M0 ?_; first | refine SL ?_ | refine SB fun _ _ => ?_) | (refine M1 ?_; refine SC ?_) | (refine M2 ?_; refine SE ?_))
  refine XC.cond _ rfl (fun h3 => ?_) (fun h3 => ?_)
  · have hkn : k < t.m := by have := of_decide_eq_true h3; omega
    repeat (first | (refine M0 ?_; first | refine SL ?_ | refine SB fun _ _ => ?_ | refine Y4 (Ev.call (f := 97) (ck rfl) rfl (fun w5 S5 => hhi k hkn w5 S5)) ?_) | (refine M1 ?_; refine SC ?_) | (refine M2 ?_; refine SE ?_))
    by_cases he : hisErr t k = 0
    rotate_left
    · rw [show decide (hisErr t k ≠ 0) = true from decide_eq_true he]
      repeat (first | (refine M0 ?_; first | refine SL ?_ | refine SB fun _ _ => ?_) | (refine M1 ?_; refine SC ?_) | (refine M2 ?_; refine SE ?_))
      refine XE.retg tok Tryz.results78 rfl (by simp only [and_self, and_true]) (fun w' S => ?_)
      exact ⟨chkCV_of (chkC_3 pA hkn h0 rfl he), S.toBelow⟩
    rw [show decide (hisErr t k ≠ 0) = false from decide_eq_false (fun h => h he)]
    repeat (first | (refine M0 ?_; first | refine SL ?_ | refine SB fun _ _ => ?_) | (refine M1 ?_; refine SC ?_) | (refine M2 ?_; refine SE ?_))
    refine XE.round (s := k) (k + 1) ⟨hkn, fun j hj => ?_⟩ (by omega) ZZSUB (fun _ h => h)
    rcases Nat.lt_or_ge j k with h5 | h5
    · exact h0 j h5
    · have : j = k := by omega
      subst this
      exact he
  have hkn : k = t.m := by have := of_decide_eq_false h3; omega
  subst hkn
  have pB : PreB t := ⟨pA, h0⟩
  repeat (first | (refine M0 ?_; first | refine SL ?_ | refine SB fun _ _ => ?_ | refine Y4 (Ev.load_old tok rfl rfl (add_lt2 hlt) d01) ?_) | (refine M1 ?_; first | refine SC ?_ | refine SD ?_) | (refine M2 ?_; refine SE ?_) | (refine M3 ?_; first | refine SG ?_ | refine SF ?_ | refine YF (Ev.load_old tok rfl rfl (add_lt2 hlt) d01) ?_) | (refine M4 ?_; refine SR ?_) | (refine M5 ?_; first | exact M7 | refine YM ?_ | refine YN ?_ ?_))
  by_cases hr : t.river.length = t.n
  rotate_left
  · rw [show decide ((t.river.length : Int) ≠ (t.n : Int)) = true from decide_eq_true (by omega)]
    repeat (first | (refine M0 ?_; first | refine SL ?_ | refine SB fun _ _ => ?_) | (refine M1 ?_; refine SC ?_) | (refine M2 ?_; refine SE ?_))
    refine XE.retg tok Tryz.results78 rfl (by simp only [and_self, and_true]) (fun w' S => ?_)
    exact ⟨chkCV_of (chkC_4 pB hr), S.toBelow⟩
  rw [show decide ((t.river.length : Int) ≠ (t.n : Int)) = false from decide_eq_false (by omega)]
  repeat (first | (refine M0 ?_; first | refine SL ?_ | refine SB fun _ _ => ?_) | (refine M1 ?_; refine SC ?_) | (refine M2 ?_; refine SE ?_))
  refine XC.loopk [1] rfl (fun k : Nat => [(10, .int .i64 (k : Nat))]) (fun _ => [(g1, cel 29 (ctkC ⟨⟨A1, t.b.rows.length, c1, A2, t.b.pols.length, c2⟩, ⟨Af, t.fil.length, cf⟩, ⟨some ad, t.m, ch⟩, ⟨Ar, t.river.length, cr⟩⟩ t))]) (fun _ => w) (fun k => k ≤ t.river.length ∧ ∀ j, j < k → outB (at0 t.river j) 0 10000000 = false) (fun k => t.river.length - k) 0 ⟨Nat.zero_le _, fun j h => absurd h (by omega)⟩ ZZSUB (fun _ h => h) ?_
  rintro k ⟨hk, h1⟩
  simp only [ctkC]
  dsimp only [List.cons_append, List.nil_append]
  repeat (first | (refine M0 ?_; first | refine SL ?_ | refine SB fun _ _ => ?_) | (refine M1 ?_; refine SC ?_) | (refine M2 ?_; refine SE ?_))
  refine XC.cond _ rfl (fun h3 => ?_) (fun h3 => ?_)
  · have hkn : k < t.river.length := by have := of_decide_eq_true h3; omega
    obtain ⟨ar, rfl, hltr, hcr⟩ := hriv.at_ (by omega)
    have dr := hcr k hkn
    repeat (first | (refine M0 ?_; first | refine SL ?_ | refine SB fun _ _ => ?_ | refine Y4 (Ev.load_old tok rfl rfl (add_lt hltr) dr) ?_ | refine Y4 (Ev.call (f := 35) (ck rfl) rfl (fun w _ => in5_any _ _ _ w)) ?_) | (refine M1 ?_; refine SC ?_) | (refine M2 ?_; refine SE ?_))
    cases he : outB (at0 t.river k) 0 10000000
    rotate_left
    · repeat (first | (refine M0 ?_; first | refine SL ?_ | refine SB fun _ _ => ?_) | (refine M1 ?_; refine SC ?_) | (refine M2 ?_; refine SE ?_))
      refine XE.retg tok Tryz.results78 rfl (by simp only [and_self, and_true]) (fun w' S => ?_)
      refine ⟨chkCV_of (chkC_5 pB hr ?_), S.toBelow⟩
      rw [List.any_eq_true]
      exact ⟨t.river[k], List.getElem_mem hkn, by unfold at0 at he; rw [List.getElem?_eq_getElem hkn] at he; exact he⟩
    repeat (first | (refine M0 ?_; first | refine SL ?_ | refine SB fun _ _ => ?_) | (refine M1 ?_; refine SC ?_) | (refine M2 ?_; refine SE ?_))
    refine XE.round (s := k) (k + 1) ⟨hkn, fun j hj => ?_⟩ (by omega) ZZSUB (fun _ h => h)
    rcases Nat.lt_or_ge j k with h5 | h5
    · exact h1 j h5
    · have : j = k := by omega
      subst this
      exact he
  have hkn : k = t.river.length := by have := of_decide_eq_false h3; omega
  subst hkn
  have ha : (t.river.any fun v => outB v 0 10000000) = false := any_of (p := fun v => outB v 0 10000000) h1
  repeat (first | (refine M0 ?_; first | refine SL ?_ | refine SB fun _ _ => ?_) | (refine M1 ?_; refine SC ?_) | (refine M2 ?_; refine SE ?_))
  by_cases hfl : t.fil.length = t.b.pols.length
  rotate_left
  · rw [show decide ((t.fil.length : Int) ≠ (t.b.pols.length : Int)) = true from decide_eq_true (by omega)]
    repeat (first | (refine M0 ?_; first | refine SL ?_ | refine SB fun _ _ => ?_) | (refine M1 ?_; refine SC ?_) | (refine M2 ?_; refine SE ?_))
    refine XE.retg tok Tryz.results78 rfl (by simp only [and_self, and_true]) (fun w' S => ?_)
    exact ⟨chkCV_of (chkC_6 pB hr ha hfl), S.toBelow⟩
  rw [show decide ((t.fil.length : Int) ≠ (t.b.pols.length : Int)) = false from decide_eq_false (by omega)]
  have hOk := ok_of hc
  have hr2 := hOk.n2
  obtain ⟨a1, rfl, hlt1⟩ := hbas.rows.addr (by simp only; omega)
  have dlev : w.cell? ((a1.add (0 * 2)).add 0) = some (.int .i64 (t.b.row 0).level) := hbas.rowLevel (by omega)
  obtain ⟨b0, hb0⟩ : ∃ b0, b0 = !(outB t.out 0 10000000 || (outB t.limit (t.b.row 0).level 20000 || outB t.delay 0 30)) := ⟨_, rfl⟩
  repeat (first | (refine M0 ?_; first | refine SL ?_ | refine SB fun _ _ => ?_) | (refine M2 ?_; refine SE ?_) | (refine M3 ?_; first | refine SG ?_ | refine SF ?_) | (refine M4 ?_; refine SR ?_) | (refine M5 ?_; first | exact M7 | refine YM ?_ | refine YN ?_ ?_))
  refine SC ?_
  refine SC ?_
  refine SE ?_
  refine XC.seq ?_
  refine XC.cutn [1] rfl (fun _ : Unit => [(11, .bool b0)]) (fun _ => [(g1, cel 29 (ctkC ⟨⟨some a1, t.b.rows.length, c1, A2, t.b.pols.length, c2⟩, ⟨Af, t.fil.length, cf⟩, ⟨some ad, t.m, ch⟩, ⟨Ar, t.river.length, cr⟩⟩ t))]) (fun _ => w) (fun _ => True) ?_ (fun _ _ => ?_)
  · cases x1 : outB t.out 0 10000000
    rotate_left
    · repeat (first | (refine M0 ?_; first | refine SL ?_ | refine SB fun _ _ => ?_ | refine Y4 (Ev.call (f := 35) (ck rfl) rfl (fun w _ => in5_any _ _ _ w)) ?_) | (refine M1 ?_; first | refine SC ?_ | refine SD ?_) | (refine M2 ?_; refine SE ?_) | (refine M3 ?_; first | refine SG ?_ | refine SF ?_ | refine YF (Ev.call (f := 35) (ck rfl) rfl (fun w _ => in5_any _ _ _ w)) ?_) | (refine M4 ?_; refine SR ?_) | (refine M5 ?_; first | exact M7 | refine YM ?_ | refine YN ?_ ?_))
      rw [x1]
      repeat (first | (refine M0 ?_; first | refine SL ?_ | refine SB fun _ _ => ?_) | (refine M1 ?_; first | refine SC ?_ | refine SD ?_) | (refine M2 ?_; refine SE ?_) | (refine M3 ?_; first | refine SG ?_ | refine SF ?_) | (refine M4 ?_; refine SR ?_) | (refine M5 ?_; first | exact M7 | refine YM ?_ | refine YN ?_ ?_))
      exact XE.leaf () (Sub.cons (by rw [hb0, x1]; rfl) ZZSUB) (fun _ h => h) trivial
    cases x2 : outB t.limit (t.b.row 0).level 20000
    rotate_left
    · repeat (first | (refine M0 ?_; first | refine SL ?_ | refine SB fun _ _ => ?_ | refine Y4 (Ev.call (f := 35) (ck rfl) rfl (fun w _ => in5_any _ _ _ w)) ?_) | (refine M1 ?_; first | refine SC ?_ | refine SD ?_) | (refine M2 ?_; refine SE ?_) | (refine M3 ?_; first | refine SG ?_ | refine SF ?_ | refine YF (Ev.call (f := 35) (ck rfl) rfl (fun w _ => in5_any _ _ _ w)) ?_) | (refine M4 ?_; refine SR ?_) | (refine M5 ?_; first | exact M7 | refine YM ?_ | refine YN ?_ ?_))
      rw [x1]
      repeat (first | (refine M0 ?_; first | refine SL ?_ | refine SB fun _ _ => ?_ | refine Y4 (Ev.load_old tok rfl rfl (add_lt2 hlt1) dlev) ?_ | refine Y4 (Ev.call (f := 35) (ck rfl) rfl (fun w _ => in5_any _ _ _ w)) ?_) | (refine M1 ?_; first | refine SC ?_ | refine SD ?_) | (refine M2 ?_; refine SE ?_) | (refine M3 ?_; first | refine SG ?_ | refine SF ?_ | refine YF (Ev.load_old tok rfl rfl (add_lt2 hlt1) dlev) ?_ | refine YF (Ev.call (f := 35) (ck rfl) rfl (fun w _ => in5_any _ _ _ w)) ?_) | (refine M4 ?_; refine SR ?_) | (refine M5 ?_; first | exact M7 | refine YM ?_ | refine YN ?_ ?_))
      rw [x2]
      repeat (first | (refine M0 ?_; first | refine SL ?_ | refine SB fun _ _ => ?_) | (refine M1 ?_; first | refine SC ?_ | refine SD ?_) | (refine M2 ?_; refine SE ?_) | (refine M3 ?_; first | refine SG ?_ | refine SF ?_) | (refine M4 ?_; refine SR ?_) | (refine M5 ?_; first | exact M7 | refine YM ?_ | refine YN ?_ ?_))
      exact XE.leaf () (Sub.cons (by rw [hb0, x1, x2]; rfl) ZZSUB) (fun _ h => h) trivial
    repeat (first | (refine M0 ?_; first | refine SL ?_ | refine SB fun _ _ => ?_ | refine Y4 (Ev.call (f := 35) (ck rfl) rfl (fun w _ => in5_any _ _ _ w)) ?_) | (refine M1 ?_; first | refine SC ?_ | refine SD ?_) | (refine M2 ?_; refine SE ?_) | (refine M3 ?_; first | refine SG ?_ | refine SF ?_ | refine YF (Ev.call (f := 35) (ck rfl) rfl (fun w _ => in5_any _ _ _ w)) ?_) | (refine M4 ?_; refine SR ?_) | (refine M5 ?_; first | exact M7 | refine YM ?_ | refine YN ?_ ?_))
    rw [x1]
    repeat (first | (refine M0 ?_; first | refine SL ?_ | refine SB fun _ _ => ?_ | refine Y4 (Ev.load_old tok rfl rfl (add_lt2 hlt1) dlev) ?_ | refine Y4 (Ev.call (f := 35) (ck rfl) rfl (fun w _ => in5_any _ _ _ w)) ?_) | (refine M1 ?_; first | refine SC ?_ | refine SD ?_) | (refine M2 ?_; refine SE ?_) | (refine M3 ?_; first | refine SG ?_ | refine SF ?_ | refine YF (Ev.load_old tok rfl rfl (add_lt2 hlt1) dlev) ?_ | refine YF (Ev.call (f := 35) (ck rfl) rfl (fun w _ => in5_any _ _ _ w)) ?_) | (refine M4 ?_; refine SR ?_) | (refine M5 ?_; first | exact M7 | refine YM ?_ | refine YN ?_ ?_))
    rw [x2]
    repeat (first | (refine M0 ?_; first | refine SL ?_ | refine SB fun _ _ => ?_ | refine Y4 (Ev.call (f := 35) (ck rfl) rfl (fun w _ => in5_any _ _ _ w)) ?_) | (refine M1 ?_; first | refine SC ?_ | refine SD ?_) | (refine M2 ?_; refine SE ?_) | (refine M3 ?_; first | refine SG ?_ | refine SF ?_ | refine YF (Ev.call (f := 35) (ck rfl) rfl (fun w _ => in5_any _ _ _ w)) ?_) | (refine M4 ?_; refine SR ?_) | (refine M5 ?_; first | exact M7 | refine YM ?_ | refine YN ?_ ?_))
    exact XE.leaf () (Sub.cons (by rw [hb0, x1, x2]; rfl) ZZSUB) (fun _ h => h) trivial
  dsimp only [List.cons_append, List.nil_append]
  repeat (first | (refine M0 ?_; first | refine SL ?_ | refine SB fun _ _ => ?_) | (refine M1 ?_; refine SC ?_) | (refine M2 ?_; refine SE ?_))
  refine XC.loopk [1] rfl (fun j : Nat => [(11, .bool (b0 && (List.range j).all fun i => !outB (at0 t.fil i) 0 (t.b.pol i).room)), (12, .int .i64 (j : Nat))]) (fun _ => [(g1, cel 29 (ctkC ⟨⟨some a1, t.b.rows.length, c1, A2, t.b.pols.length, c2⟩, ⟨Af, t.fil.length, cf⟩, ⟨some ad, t.m, ch⟩, ⟨Ar, t.river.length, cr⟩⟩ t))]) (fun _ => w) (fun j => j ≤ t.fil.length) (fun j => t.fil.length - j) 0 (Nat.zero_le _) (Sub.cons (by show some _ = some _; simp) ZZSUB) (fun _ h => h) ?_
  intro j hj
  simp only [ctkC]
  dsimp only [List.cons_append, List.nil_append]
  repeat (first | (refine M0 ?_; first | refine SL ?_ | refine SB fun _ _ => ?_) | (refine M1 ?_; refine SC ?_) | (refine M2 ?_; refine SE ?_))
  refine XC.cond _ rfl (fun h2 => ?_) (fun h2 => ?_)
  rotate_left
  · have hjn : j = t.fil.length := by have := of_decide_eq_false h2; omega
    subst hjn
    rw [filB_all]
    cases b0 with
    | false =>
      repeat (first | (refine M0 ?_; first | refine SL ?_ | refine SB fun _ _ => ?_) | (refine M1 ?_; refine SC ?_) | (refine M2 ?_; refine SE ?_))
      refine XE.retg tok Tryz.results78 rfl (by simp only [and_self, and_true]) (fun w' S => ?_)
      refine ⟨chkCV_of (chkC_7 pB hr ha hfl ?_), S.toBelow⟩
      cases hx : (outB t.out 0 10000000 || (outB t.limit (t.b.row 0).level 20000 || outB t.delay 0 30)) with
      | true => rfl
      | false => rw [hx] at hb0; cases hb0
    | true =>
      have h7 : (outB t.out 0 10000000 || (outB t.limit (t.b.row 0).level 20000 || outB t.delay 0 30)) = false := by
        cases hx : (outB t.out 0 10000000 || (outB t.limit (t.b.row 0).level 20000 || outB t.delay 0 30)) with
        | false => rfl
        | true => rw [hx] at hb0; cases hb0
      cases hfb : filBad t
      · repeat (first | (refine M0 ?_; first | refine SL ?_ | refine SB fun _ _ => ?_) | (refine M1 ?_; refine SC ?_) | (refine M2 ?_; refine SE ?_))
        refine XE.retg tok Tryz.results78 rfl (by simp only [and_self, and_true]) (fun w' S => ?_)
        exact ⟨chkCV_of (chkC_9 pB hr ha hfl h7 hfb), S.toBelow⟩
      · repeat (first | (refine M0 ?_; first | refine SL ?_ | refine SB fun _ _ => ?_) | (refine M1 ?_; refine SC ?_) | (refine M2 ?_; refine SE ?_))
        refine XE.retg tok Tryz.results78 rfl (by simp only [and_self, and_true]) (fun w' S => ?_)
        exact ⟨chkCV_of (chkC_8 pB hr ha hfl h7 hfb), S.toBelow⟩
  have hjn : j < t.fil.length := by have := of_decide_eq_true h2; omega
  obtain ⟨af, rfl, hltf, hcf⟩ := hfil.at_ (by omega)
  have df := hcf j hjn
  obtain ⟨ap, rfl, hltp⟩ := hbas.pols.addr (by simp only; omega)
  have droom : w.cell? ((ap.add (j * 4)).add 3) = some (.int .i64 (t.b.pol j).room) := hbas.pol (by omega) 3 _ rfl
  have htk := filB_take (t := t) (j := j)
  cases hb : (b0 && (List.range j).all fun i => !outB (at0 t.fil i) 0 (t.b.pol i).room) with
  | false =>
    have htk2 : (b0 && (List.range (j + 1)).all fun i => !outB (at0 t.fil i) 0 (t.b.pol i).room) = false := by rw [htk, ← Bool.and_assoc, hb]; rfl
    repeat (first | (refine M0 ?_; first | refine SL ?_ | refine SB fun _ _ => ?_) | (refine M1 ?_; first | refine SC ?_ | refine SD ?_) | (refine M2 ?_; refine SE ?_) | (refine M3 ?_; first | refine SG ?_ | refine SF ?_) | (refine M4 ?_; refine SR ?_) | (refine M5 ?_; first | exact M7 | refine YM ?_ | refine YN ?_ ?_))
    exact XE.round (s := j) (j + 1) (by omega) (by omega) (Sub.cons (by simp only [htk2]; rfl) ZZSUB) (fun _ h => h)
  | true =>
    have htk2 : (b0 && (List.range (j + 1)).all fun i => !outB (at0 t.fil i) 0 (t.b.pol i).room) = !outB (at0 t.fil j) 0 (t.b.pol j).room := by rw [htk, ← Bool.and_assoc, hb]; rfl
    repeat (first | (refine M0 ?_; first | refine SL ?_ | refine SB fun _ _ => ?_ | refine Y4 (Ev.load_old tok rfl rfl (add_lt hltf) df) ?_ | refine Y4 (Ev.load_old tok rfl rfl (add_lt2 hltp) droom) ?_ | refine Y4 (Ev.call (f := 35) (ck rfl) rfl (fun w _ => in5_any _ _ _ w)) ?_) | (refine M1 ?_; first | refine SC ?_ | refine SD ?_) | (refine M2 ?_; refine SE ?_) | (refine M3 ?_; first | refine SG ?_ | refine SF ?_ | refine YF (Ev.load_old tok rfl rfl (add_lt hltf) df) ?_ | refine YF (Ev.load_old tok rfl rfl (add_lt2 hltp) droom) ?_ | refine YF (Ev.call (f := 35) (ck rfl) rfl (fun w _ => in5_any _ _ _ w)) ?_) | (refine M4 ?_; refine SR ?_) | (refine M5 ?_; first | exact M7 | refine YM ?_ | refine YN ?_ ?_))
    exact XE.round (s := j) (j + 1) (by omega) (by omega) (Sub.cons (by simp only [htk2]; rfl) ZZSUB) (fun _ h => h)
theorem good5_any {v : CTV} {t : CTk} {w : World} (h : CtAt w w.heap.size v t) :
    Calls Tryz.prog 34 #[ctkV v t] w fun e w' => e = .returned (.int .i64 (ctE t)) ∧ Below w.heap.size w w' := by
  have hchk := fun {L : Lo} (w5 : World) (S5 : Sys w.heap.size w L w5) => refCheck5_any (h.sys S5)
  simp only [ctkV, ctkC, chkCV] at hchk ⊢
  refine enter Tryz.func34 rfl Tryz.ntmps34 rfl ?_; simp only [frame, Nat.zero_add, Nat.reduceAdd]
  repeat (first | (refine M0 ?_; first | refine SL ?_ | refine SB fun _ _ => ?_ | refine Y4 (Ev.call (f := 78) (ck rfl) rfl (fun w5 S5 => hchk w5 S5)) ?_) | (refine M1 ?_; refine SC ?_) | (refine M2 ?_; refine SE ?_))
  refine XE.retg tok Tryz.results34 rfl (by simp only [and_self, and_true]) (fun w' S => ?_)
  exact ⟨rfl, S.toBelow⟩
end Go.Proofs.YtmpaiphakjogjaaGreat.X
namespace Go.Proofs.YtmpaiphakjogjaaGreat.Bs
open Go Go.Proofs.YtmpaiphakjogjaaGreat.X
end Go.Proofs.YtmpaiphakjogjaaGreat.Bs
namespace Go.Proofs.YtmpaiphakjogjaaGreat.X
open Go Go.RowKit Go.Proofs.YtmpaiphakjogjaaGreat.Bs
end Go.Proofs.YtmpaiphakjogjaaGreat.X
namespace Go.Proofs.YtmpaiphakjogjaaGreat.Bs
open Go Go.Proofs.YtmpaiphakjogjaaGreat.X
def CTk.wholeB (t : CTk) : Bool := decide (0 < t.m) && (List.range t.m).all fun k => decide ((t.h k).vals.length = t.river.length) && decide ((t.h k).from_ = t.from_)
def CTk.longB (t : CTk) : Bool := (decide (12 < t.river.length) && decide (t.river.length ≤ 60)) || (decide (4 < t.m) && decide (t.m ≤ 8))
end Go.Proofs.YtmpaiphakjogjaaGreat.Bs
namespace Go.Proofs.YtmpaiphakjogjaaGreat.X
open Go Go.RowKit Go.Proofs.YtmpaiphakjogjaaGreat.Bs
end Go.Proofs.YtmpaiphakjogjaaGreat.X
namespace Go.Proofs.YtmpaiphakjogjaaGreat.X
open Go Go.RowKit Go.Proofs.YtmpaiphakjogjaaGreat.Bs
theorem Longz_any {v : CTV} {t : CTk} {w : World} (hT : CtAt w w.heap.size v t) :
    Calls Tryz.prog 8 #[ctkV v t] w fun e w' => e = .returned (.bool t.longB) ∧ Below w.heap.size w w' := by
  have hhn := hT.hn
  have hhm := hT.hmax
  have hrn := hT.river.len
  have hrm := hT.river.max
  obtain ⟨vp, vf, ⟨Ah, nh, ch⟩, ⟨Ar, nr, cr⟩⟩ := v
  simp only at hhn hrn hhm hrm
  subst hhn hrn
  have k1 : decide ((12 : Int) < (t.river.length : Int)) = decide (12 < t.river.length) := by rw [decide_eq_decide]; omega
  have k2 : decide ((t.river.length : Int) ≤ 60) = decide (t.river.length ≤ 60) := by rw [decide_eq_decide]; omega
  have k3 : decide ((4 : Int) < (t.m : Int)) = decide (4 < t.m) := by rw [decide_eq_decide]; omega
  have k4 : decide ((t.m : Int) ≤ 8) = decide (t.m ≤ 8) := by rw [decide_eq_decide]; omega
  simp only [ctkV, ctkC]
  unfold CTk.longB
  refine enter Tryz.func8 rfl Tryz.ntmps8 rfl ?_; simp only [frame, Nat.zero_add, Nat.reduceAdd]
  repeat (first | (refine M0 ?_; first | refine SL ?_ | refine SB fun _ _ => ?_) | (refine M1 ?_; refine SC ?_) | (refine M2 ?_; refine SE ?_))
  rw [k1]
  cases decide (12 < t.river.length) with
  | true =>
    repeat (first | (refine M0 ?_; first | refine SL ?_ | refine SB fun _ _ => ?_) | (refine M1 ?_; refine SC ?_) | (refine M2 ?_; refine SE ?_))
    rw [k2]
    cases decide (t.river.length ≤ 60) with
    | true =>
      repeat (first | (refine M0 ?_; first | refine SL ?_ | refine SB fun _ _ => ?_) | (refine M1 ?_; refine SC ?_) | (refine M2 ?_; refine SE ?_))
      refine XE.retg tok Tryz.results8 rfl (by simp only [and_self, and_true]) (fun w' S => ?_)
      exact ⟨rfl, S.toBelow⟩
    | false =>
      repeat (first | (refine M0 ?_; first | refine SL ?_ | refine SB fun _ _ => ?_) | (refine M1 ?_; refine SC ?_) | (refine M2 ?_; refine SE ?_))
      rw [k3]
      cases decide (4 < t.m) with
      | true =>
        repeat (first | (refine M0 ?_; first | refine SL ?_ | refine SB fun _ _ => ?_) | (refine M1 ?_; refine SC ?_) | (refine M2 ?_; refine SE ?_))
        rw [k4]
        refine XE.retg tok Tryz.results8 rfl (by simp only [and_self, and_true]) (fun w' S => ?_)
        exact ⟨rfl, S.toBelow⟩
      | false =>
        repeat (first | (refine M0 ?_; first | refine SL ?_ | refine SB fun _ _ => ?_) | (refine M1 ?_; refine SC ?_) | (refine M2 ?_; refine SE ?_))
        refine XE.retg tok Tryz.results8 rfl (by simp only [and_self, and_true]) (fun w' S => ?_)
        exact ⟨rfl, S.toBelow⟩
  | false =>
    repeat (first | (refine M0 ?_; first | refine SL ?_ | refine SB fun _ _ => ?_) | (refine M1 ?_; refine SC ?_) | (refine M2 ?_; refine SE ?_))
    rw [k3]
    cases decide (4 < t.m) with
    | true =>
      repeat (first | (refine M0 ?_; first | refine SL ?_ | refine SB fun _ _ => ?_) | (refine M1 ?_; refine SC ?_) | (refine M2 ?_; refine SE ?_))
      rw [k4]
      refine XE.retg tok Tryz.results8 rfl (by simp only [and_self, and_true]) (fun w' S => ?_)
      exact ⟨rfl, S.toBelow⟩
    | false =>
      repeat (first | (refine M0 ?_; first | refine SL ?_ | refine SB fun _ _ => ?_) | (refine M1 ?_; refine SC ?_) | (refine M2 ?_; refine SE ?_))
      refine XE.retg tok Tryz.results8 rfl (by simp only [and_self, and_true]) (fun w' S => ?_)
      exact ⟨rfl, S.toBelow⟩
end Go.Proofs.YtmpaiphakjogjaaGreat.X
namespace Go.Proofs.YtmpaiphakjogjaaGreat.Bs
open Go Go.Proofs.YtmpaiphakjogjaaGreat.X
def CTk.qIn (t : CTk) (i k : Nat) : Int := if (List.range k).any (fun j => decide (t.limit < t.v j i)) = true then (i : Int) + 1 else t.qTo i
theorem qIn_t {t : CTk} {i k : Nat} (h : t.limit < t.v k i) : t.qIn i (k + 1) = (i : Int) + 1 := by
  unfold CTk.qIn
  rw [List.range_succ, List.any_append, if_pos (by simp [h])]
theorem qIn_f {t : CTk} {i k : Nat} (h : ¬t.limit < t.v k i) : t.qIn i (k + 1) = t.qIn i k := by
  unfold CTk.qIn
  rw [List.range_succ, List.any_append]
  simp [h]
theorem qIn_m {t : CTk} {i : Nat} : t.qIn i t.m = t.qTo (i + 1) := by
  unfold CTk.qIn
  show (if t.highAt i = true then _ else _) = ((if t.highAt i = true then i + 1 else t.qTo i : Nat) : Int)
  split <;> simp
theorem qIn_b {t : CTk} {i k : Nat} : 0 ≤ t.qIn i k ∧ t.qIn i k ≤ i + 1 := by
  have := (qTo_spec t i).1
  unfold CTk.qIn
  split <;> omega
theorem plan_at {t : CTk} {i : Int} : (⟨i, max (t.from_ + (t.q : Int)) (i + t.delay + 1)⟩ : CPl) = t.plan (i - t.from_) := by
  unfold CTk.plan
  congr 1 <;> omega
theorem can_at {t : CTk} : t.from_ + (t.n : Int) - 1 - t.delay = t.from_ + t.last := by unfold CTk.last; omega
end Go.Proofs.YtmpaiphakjogjaaGreat.Bs
namespace Go.Proofs.YtmpaiphakjogjaaGreat.X
open Go Go.RowKit Go.Proofs.YtmpaiphakjogjaaGreat.Bs
section
variable {v : CTV} {t : CTk} {w : World}
theorem from5_any (hT : CtAt w w.heap.size v t) (ho : CtOk t) :
    Calls Tryz.prog 37 #[ctkV v t] w fun e w' => e = .returned (.int .i64 t.from_) ∧ Below w.heap.size w w' := by
  obtain ⟨ad, q, e1, hlt, hc, hq⟩ := hT.hisAt (k := 0) (by have := ho.m1; omega)
  have hhn := hT.hn
  have hm := ho.m1
  obtain ⟨vp, vf, ⟨Ah, nh, ch⟩, vr⟩ := v
  simp only at hhn e1
  subst hhn e1
  have c0 := hc 0 _ rfl
  simp only [ctkV, ctkC]
  refine enter Tryz.func37 rfl Tryz.ntmps37 rfl ?_; simp only [frame, Nat.zero_add, Nat.reduceAdd]
  repeat (first | (refine M0 ?_; first | refine SL ?_ | refine SB fun _ _ => ?_ | refine Y4 (Ev.load_old tok rfl rfl (add_lt2 hlt) c0) ?_) | (refine M1 ?_; refine SC ?_) | (refine M2 ?_; refine SE ?_))
  refine XE.retg tok Tryz.results37 rfl (by simp only [and_self, and_true]) (fun w' S => ?_)
  exact ⟨rfl, S.toBelow⟩
theorem end5_any (hT : CtAt w w.heap.size v t) (ho : CtOk t) :
    Calls Tryz.prog 36 #[ctkV v t] w fun e w' => e = .returned (.int .i64 (t.from_ + (t.n : Int))) ∧ Below w.heap.size w w' := by
  have hfr := fun {L : Lo} (w5 : World) (S5 : Sys w.heap.size w L w5) => from5_any (hT.sys S5) ho
  obtain ⟨ad, q, e1, hlt, hc, hq⟩ := hT.hisAt (k := 0) (by have := ho.m1; omega)
  have hhn := hT.hn
  have hm := ho.m1
  have h1 := ho.frm
  have h3 := ho.n60
  have hql := hq.len
  have hqm := hq.max
  obtain ⟨vp, vf, ⟨Ah, nh, ch⟩, vr⟩ := v
  obtain ⟨qA, qn, qc⟩ := q
  simp only at hhn e1 hql hqm
  subst hhn e1 hql
  have c0 := hc 1 _ rfl
  simp only [svV] at c0
  have en : (t.h 0).vals.length = t.n := rfl
  simp only [ctkV, ctkC] at hfr ⊢
  refine enter Tryz.func36 rfl Tryz.ntmps36 rfl ?_; simp only [frame, Nat.zero_add, Nat.reduceAdd]
  repeat (first | (refine M0 ?_; first | refine SL ?_ | refine SB fun _ _ => ?_ | refine Y4 (Ev.call (f := 37) (ck rfl) rfl (fun w5 S5 => hfr w5 S5)) ?_ | refine Y4 (Ev.load_old tok rfl rfl (add_lt2 hlt) c0) ?_) | (refine M1 ?_; first | refine SC ?_ | refine SD ?_) | (refine M2 ?_; refine SE ?_) | (refine M3 ?_; first | refine SG ?_ | refine SF ?_ | refine YF (Ev.call (f := 37) (ck rfl) rfl (fun w5 S5 => hfr w5 S5)) ?_ | refine YF (Ev.load_old tok rfl rfl (add_lt2 hlt) c0) ?_) | (refine M4 ?_; refine SR ?_) | (refine M5 ?_; first | exact M7 | refine YM ?_ | refine YN ?_ ?_))
  refine XE.retg tok Tryz.results36 rfl (by simp only [and_self, and_true]) (fun w' S => ?_)
  exact ⟨rfl, S.toBelow⟩
theorem can5_any {i : Int} (hT : CtAt w w.heap.size v t) (ho : CtOk t) :
    Calls Tryz.prog 81 #[ctkV v t, .int .i64 i] w fun e w' => e = .returned (.bool (!outB i t.from_ (t.from_ + t.last))) ∧ Below w.heap.size w w' := by
  have hfr := fun {L : Lo} (w5 : World) (S5 : Sys w.heap.size w L w5) => from5_any (hT.sys S5) ho
  have hen := fun {L : Lo} (w5 : World) (S5 : Sys w.heap.size w L w5) => end5_any (hT.sys S5) ho
  have h1 := ho.frm
  have h2 := ho.dly
  have h3 := ho.n60
  simp only [ctkV, ctkC] at hfr hen ⊢
  rw [← can_at]
  refine enter Tryz.func81 rfl Tryz.ntmps81 rfl ?_; simp only [frame, Nat.zero_add, Nat.reduceAdd]
  repeat (first | (refine M0 ?_; first | refine SL ?_ | refine SB fun _ _ => ?_ | refine Y4 (Ev.call (f := 37) (ck rfl) rfl (fun w5 S5 => hfr w5 S5)) ?_ | refine Y4 (Ev.call (f := 36) (ck rfl) rfl (fun w5 S5 => hen w5 S5)) ?_ | refine Y4 (Ev.call (f := 35) (ck rfl) rfl (fun w _ => in5_any _ _ _ w)) ?_) | (refine M1 ?_; first | refine SC ?_ | refine SD ?_) | (refine M2 ?_; refine SE ?_) | (refine M3 ?_; first | refine SG ?_ | refine SF ?_ | refine YF (Ev.call (f := 37) (ck rfl) rfl (fun w5 S5 => hfr w5 S5)) ?_ | refine YF (Ev.call (f := 36) (ck rfl) rfl (fun w5 S5 => hen w5 S5)) ?_ | refine YF (Ev.call (f := 35) (ck rfl) rfl (fun w _ => in5_any _ _ _ w)) ?_) | (refine M4 ?_; refine SR ?_) | (refine M5 ?_; first | exact M7 | refine YM ?_ | refine YN ?_ ?_))
  refine XE.retg tok Tryz.results81 rfl (by simp only [and_self, and_true]) (fun w' S => ?_)
  exact ⟨rfl, S.toBelow⟩
theorem high5_any {k i : Nat} {x : Int} (hT : CtAt w w.heap.size v t) (ho : CtOk t) (hk : k < t.m) (hi : i < t.n) (hx : x = t.from_ + (i : Int)) :
    Calls Tryz.prog 98 #[ctkV v t, .int .i64 (k : Nat), .int .i64 x] w fun e w' => e = .returned (.bool (decide (t.limit < t.v k i))) ∧ Below w.heap.size w w' := by
  subst hx
  have hfr := fun {L : Lo} (w5 : World) (S5 : Sys w.heap.size w L w5) => from5_any (hT.sys S5) ho
  obtain ⟨ad, q, e1, hlt, hc, hq⟩ := hT.hisAt (k := k) hk
  have hhn := hT.hn
  have hhm := hT.hmax
  have hm := ho.m8
  have h1 := ho.frm
  have h3 := ho.n60
  have hl := ho.len k hk
  have hql := hq.len
  have hqm := hq.max
  obtain ⟨aq, eq, hltq, hcq⟩ := hq.at_ (by omega)
  obtain ⟨vp, vf, ⟨Ah, nh, ch⟩, vr⟩ := v
  obtain ⟨qA, qn, qc⟩ := q
  simp only at hhn e1 hql eq hhm hqm
  subst hhn e1 hql eq
  have c0 := hc 1 _ rfl
  simp only [svV] at c0
  have e5 : (t.from_ + (i : Int) - t.from_).toNat = i := by omega
  have d0 : w.cell? (aq.add ((t.from_ + (i : Int) - t.from_).toNat * 1)) = some (.int .i64 (t.v k i)) := by rw [e5]; exact hcq i (by omega)
  simp only [ctkV, ctkC] at hfr ⊢
  refine enter Tryz.func98 rfl Tryz.ntmps98 rfl ?_; simp only [frame, Nat.zero_add, Nat.reduceAdd]
  repeat (first | (refine M0 ?_; first | refine SL ?_ | refine SB fun _ _ => ?_ | refine Y4 (Ev.call (f := 37) (ck rfl) rfl (fun w5 S5 => hfr w5 S5)) ?_ | refine Y4 (Ev.load_old tok rfl rfl (add_lt2 hlt) c0) ?_ | refine Y4 (Ev.load_old tok rfl rfl (add_lt hltq) d0) ?_) | (refine M1 ?_; first | refine SC ?_ | refine SD ?_) | (refine M2 ?_; refine SE ?_) | (refine M3 ?_; first | refine SG ?_ | refine SF ?_ | refine YF (Ev.call (f := 37) (ck rfl) rfl (fun w5 S5 => hfr w5 S5)) ?_ | refine YF (Ev.load_old tok rfl rfl (add_lt2 hlt) c0) ?_ | refine YF (Ev.load_old tok rfl rfl (add_lt hltq) d0) ?_) | (refine M4 ?_; refine SR ?_) | (refine M5 ?_; first | exact M7 | refine YM ?_ | refine YN ?_ ?_))
  refine XE.retg tok Tryz.results98 rfl (by simp only [and_self, and_true]) (fun w' S => ?_)
  exact ⟨rfl, S.toBelow⟩
set_option maxHeartbeats 8000000 in
theorem quiet5_any (hT : CtAt w w.heap.size v t) (ho : CtOk t) :
    Calls Tryz.prog 80 #[ctkV v t] w fun e w' => e = .returned (.int .i64 (t.from_ + (t.q : Int))) ∧ Below w.heap.size w w' := by
  have hfr := fun {L : Lo} (w5 : World) (S5 : Sys w.heap.size w L w5) => from5_any (hT.sys S5) ho
  have hen := fun {L : Lo} (w5 : World) (S5 : Sys w.heap.size w L w5) => end5_any (hT.sys S5) ho
  have hhi := fun (i k : Nat) (hi : i < t.n) (hk : k < t.m) {L : Lo} (w5 : World) (S5 : Sys w.heap.size w L w5) => high5_any (hT.sys S5) ho hk hi rfl
  have h1 := ho.frm
  have h3 := ho.n60
  have hm8 := ho.m8
  have hhn := hT.hn
  obtain ⟨vp, vf, ⟨Ah, nh, ch⟩, vr⟩ := v
  simp only at hhn
  subst hhn
  simp only [ctkV, ctkC] at hfr hen hhi ⊢
  refine enter Tryz.func80 rfl Tryz.ntmps80 rfl ?_; simp only [frame, Nat.zero_add, Nat.reduceAdd]
  repeat (first | (refine M0 ?_; first | refine SL ?_ | refine SB fun _ _ => ?_ | refine Y4 (Ev.call (f := 37) (ck rfl) rfl (fun w5 S5 => hfr w5 S5)) ?_) | (refine M1 ?_; refine SC ?_) | (refine M2 ?_; refine SE ?_))
  rename_i g1 hg1
  refine XC.loopk [1] rfl (fun i : Nat => [(3, .int .i64 (t.from_ + (t.qTo i : Int))), (4, .int .i64 (t.from_ + (i : Int)))]) (fun _ => [(g1, cel 29 (ctkC ⟨vp, vf, ⟨Ah, t.m, ch⟩, vr⟩ t))]) (fun _ => w) (fun i => i ≤ t.n) (fun i => t.n - i) 0 (Nat.zero_le _) (Sub.cons (by show some _ = some _; simp [CTk.qTo]) (Sub.cons (by show some _ = some _; simp) ZZSUB)) (fun _ h => h) ?_
  intro i hi
  simp only [ctkC]
  have hq := (qTo_spec t i).1
  dsimp only [List.cons_append, List.nil_append]
  repeat (first | (refine M0 ?_; first | refine SL ?_ | refine SB fun _ _ => ?_ | refine Y4 (Ev.call (f := 36) (ck rfl) rfl (fun w5 S5 => hen w5 S5)) ?_) | (refine M1 ?_; refine SC ?_) | (refine M2 ?_; refine SE ?_))
  refine XC.cond _ rfl (fun h2 => ?_) (fun h2 => ?_)
  rotate_left
  · have hin : i = t.n := by have := of_decide_eq_false h2; omega
    subst hin
    repeat (first | (refine M0 ?_; first | refine SL ?_ | refine SB fun _ _ => ?_) | (refine M1 ?_; refine SC ?_) | (refine M2 ?_; refine SE ?_))
    refine XE.retg tok Tryz.results80 rfl (by simp only [and_self, and_true]) (fun w' S => ?_)
    exact ⟨rfl, S.toBelow⟩
  have hin : i < t.n := by have := of_decide_eq_true h2; omega
  repeat (first | (refine M0 ?_; first | refine SL ?_ | refine SB fun _ _ => ?_) | (refine M1 ?_; refine SC ?_) | (refine M2 ?_; refine SE ?_))
  refine XC.loopk [1, 4] rfl (fun k : Nat => [(3, .int .i64 (t.from_ + t.qIn i k)), (5, .int .i64 (k : Nat))]) (fun _ => [(g1, cel 29 (ctkC ⟨vp, vf, ⟨Ah, t.m, ch⟩, vr⟩ t))]) (fun _ => w) (fun k => k ≤ t.m) (fun k => t.m - k) 0 (Nat.zero_le _) ZZSUB (fun _ h => h) ?_
  intro k hk
  simp only [ctkC]
  have hb := qIn_b (t := t) (i := i) (k := k)
  dsimp only [List.cons_append, List.nil_append]
  repeat (first | (refine M0 ?_; first | refine SL ?_ | refine SB fun _ _ => ?_) | (refine M1 ?_; refine SC ?_) | (refine M2 ?_; refine SE ?_))
  refine XC.cond _ rfl (fun h4 => ?_) (fun h4 => ?_)
  rotate_left
  · have hkm : k = t.m := by have := of_decide_eq_false h4; omega
    subst hkm
    rw [qIn_m]
    repeat (first | (refine M0 ?_; first | refine SL ?_ | refine SB fun _ _ => ?_) | (refine M1 ?_; refine SC ?_) | (refine M2 ?_; refine SE ?_))
    exact XE.round (s := i) (i + 1) (by omega) (by omega) (Sub.cons rfl (Sub.cons (by show some _ = some _; congr 2; omega) ZZSUB)) (fun _ h => h)
  have hkm : k < t.m := by have := of_decide_eq_true h4; omega
  repeat (first | (refine M0 ?_; first | refine SL ?_ | refine SB fun _ _ => ?_ | refine Y4 (Ev.call (f := 98) (ck rfl) rfl (fun w5 S5 => hhi i k hin hkm w5 S5)) ?_) | (refine M1 ?_; refine SC ?_) | (refine M2 ?_; refine SE ?_))
  refine XC.cond _ rfl (fun h5 => ?_) (fun h5 => ?_)
  · repeat (first | (refine M0 ?_; first | refine SL ?_ | refine SB fun _ _ => ?_) | (refine M1 ?_; refine SC ?_) | (refine M2 ?_; refine SE ?_))
    exact XE.round (s := k) (k + 1) (by omega) (by omega) (Sub.cons (by show some _ = some _; rw [qIn_t (of_decide_eq_true h5)]; congr 2; omega) ZZSUB) (fun _ h => h)
  · repeat (first | (refine M0 ?_; first | refine SL ?_ | refine SB fun _ _ => ?_) | (refine M1 ?_; refine SC ?_) | (refine M2 ?_; refine SE ?_))
    exact XE.round (s := k) (k + 1) (by omega) (by omega) (Sub.cons (by show some _ = some _; rw [qIn_f (of_decide_eq_false h5)]) ZZSUB) (fun _ h => h)
theorem refplan_any {i : Int} (hT : CtAt w w.heap.size v t) (ho : CtOk t) (hi : 0 ≤ i ∧ i ≤ 300000) :
    Calls Tryz.prog 39 #[ctkV v t, .int .i64 i] w fun e w' => e = .returned (plnV (t.plan (i - t.from_))) ∧ Below w.heap.size w w' := by
  have hqu := fun {L : Lo} (w5 : World) (S5 : Sys w.heap.size w L w5) => quiet5_any (hT.sys S5) ho
  have h2 := ho.dly
  simp only [ctkV, ctkC] at hqu ⊢
  rw [← plan_at]
  simp only [plnV]
  refine enter Tryz.func39 rfl Tryz.ntmps39 rfl ?_; simp only [frame, Nat.zero_add, Nat.reduceAdd]
  repeat (first | (refine M0 ?_; first | refine SL ?_ | refine SB fun _ _ => ?_ | refine Y4 (Ev.call (f := 80) (ck rfl) rfl (fun w5 S5 => hqu w5 S5)) ?_) | (refine M1 ?_; first | refine SC ?_ | refine SD ?_) | (refine M2 ?_; refine SE ?_) | (refine M3 ?_; first | refine SG ?_ | refine SF ?_ | refine YF (Ev.call (f := 80) (ck rfl) rfl (fun w5 S5 => hqu w5 S5)) ?_) | (refine M4 ?_; refine SR ?_) | (refine M5 ?_; first | exact M7 | refine YM ?_ | refine YN ?_ ?_))
  refine XE.retg tok Tryz.results39 rfl (by simp only [and_self, and_true]) (fun w' S => ?_)
  exact ⟨rfl, S.toBelow⟩
end
end Go.Proofs.YtmpaiphakjogjaaGreat.X
