/-
  The walk of the document's Least (runoff); the law RunoffLeast.
-/
import Derived.Test.YtmckmlmfilmiaaaPart5
import Derived.Test.YtmckmlmfilmiaaaPart3
set_option linter.unusedVariables false
set_option linter.unusedSimpArgs false
namespace Go.Proofs.Ytmckmlmfilmiaaa.X
open Go Go.RowKit Go.Proofs.Ytmckmlmfilmiaaa.Bs
set_option linter.unusedVariables false
structure L2St where
  k : Nat
  W : World
  rl : SV
  sq : SV
  bq : SV
  s : Sta
  b : List Bool
  l : List Int
structure L2Inv (w : World) (t : RTk) (p : Plan) (ks : List Nat) (q : SV) (ds : List (SV × Done)) (z : L2St) : Prop where
  le : z.k ≤ p.length + 1
  bel : Below w.heap.size w z.W
  fam : Fam z.W w.heap.size ks [⟨Int, winK, svV z.rl, z.l⟩] [hMix w z.sq z.s.fil, hList donK q ds]
  lt : ∀ x, x ∈ ks → x < z.W.heap.size
  bef : ListAt boolK w (Lt w.heap.size) z.bq z.b
  bl : z.b.length = t.m
  sta : StaOk t.b z.s
  one : z.k ≤ p.length → t.flw z.k z.s z.b (p.drop z.k) = ((ds.map (·.2)).drop z.k, 0)
  lst : z.k ≤ p.length → z.l ++ t.lst z.k z.s z.b (p.drop z.k) = t.lst 0 t.s t.on p
  fin : z.k = p.length + 1 → z.l = t.lst 0 t.s t.on p
  len : z.l.length = z.k
set_option maxHeartbeats 16000000 in
theorem ref7Least_made {v : RTV} {t : RTk} {pq : SV} {p : Plan} {es : List (SV × List Bool)} {w : World} (ht : TskAt w w.heap.size v t) (hn : t.slu.length + t.pmp.length ≤ 5000000) (hp : ListAt plnK w (Lt w.heap.size) pq es) (hes : es.map (·.2) = p) :
    Calls Try.prog 23 #[tskV v t, svV pq] w (Made w (LstV t p)) := by
  have hpt : ∀ (w5 : World), Below w.heap.size w w5 → ListAt plnK w5 (Lt w5.heap.size) pq es := fun w5 hB => (hp.keep fun k hk => hB.block k hk).mono fun k hk => Nat.lt_of_lt_of_le hk hB.size
  have hcost := fun (w5 : World) (hB : Below w.heap.size w w5) => ref7Cost_any (ht.sys (Sys.ofBelow hB)) hn (hpt w5 hB) hes
  have hdo := fun (w5 : World) (hB : Below w.heap.size w w5) => ref7Do_made (ht.sys (Sys.ofBelow hB)) hn (hpt w5 hB) hes
  obtain ⟨Ap, np, cp⟩ := pq
  have lp := hp.len (by decide)
  have hmx := hp.max
  simp only at lp hmx
  subst lp
  have hpl : es.length = p.length := by have := congrArg List.length hes; simpa using this
  simp only [tskV, tskC, svV] at hcost hdo ⊢
  obtain ⟨E, hE⟩ : ∃ E, E = costE t p := ⟨_, rfl⟩
  rw [← hE] at hcost
  refine enter Try.func23 rfl Try.ntmps23 rfl ?_; simp only [frame, Nat.zero_add, Nat.reduceAdd]
  repeat (first | (refine M0 ?_; first | refine SL ?_ | refine SB fun _ _ => ?_ | refine Y4 (Ev.call (f := 21) (ck rfl) rfl (fun w5 S5 => hcost w5 S5.toBelow)) ?_) | (refine M1 ?_; refine SC ?_) | (refine M2 ?_; refine SE ?_))
  rename_i g2 hg2
  by_cases hE0 : E = 0
  rotate_left
  · rw [show decide (E ≠ 0) = true from decide_eq_true hE0]
    repeat (first | (refine M0 ?_; first | refine SL ?_ | refine SB fun _ _ => ?_) | (refine M1 ?_; refine SC ?_) | (refine M2 ?_; refine SE ?_))
    refine XE.retg tok Try.results23 rfl (by simp only [and_self, and_true]) (fun w' S => ?_)
    exact lst_no hE.symm hE0 S.toBelow
  subst hE0
  repeat (first | (refine M0 ?_; first | refine SL ?_ | refine SB fun _ _ => ?_) | (refine M1 ?_; refine SC ?_) | (refine M2 ?_; refine SE ?_))
  have hC := hE.symm
  obtain ⟨h0, h1, hF, _⟩ := costE_0 hC
  obtain ⟨hf0, hff, _⟩ := fol_0 hC
  have ho := rtOk_of h0
  obtain ⟨hsl, hrow⟩ := shaped_len h1
  have hn6 : t.n ≤ 6 := ho.n6
  have hnn : t.n = t.outer.length := rfl
  have hLe : folL t p = (t.flw 0 t.s t.on p).1 := by unfold folL; rw [if_pos hf0]
  have hre := fun (w5 : World) (hB : Below w.heap.size w w5) {k : Nat} (hk : k ≤ t.n) {s : Sta} (hs : StaOk t.b s) {b : List Bool} {sq bq : SV} (hq : IntsAt w5 (Lt w5.heap.size) sq s.fil) (hbl : b.length = t.m) (hb : ListAt boolK w (Lt w.heap.size) bq b) => refRest_made (v := v) h0 hk (ht.sys (Sys.ofBelow hB)) hs hq hbl ((hb.keep fun k hk => hB.block k hk).mono fun k hk => Nat.lt_of_lt_of_le hk hB.size)
  simp only [tskV, tskC, staV, staC, svV] at hre
  refine XL.rebase (List.Sublist.refl _) (fun W0 S0 => ?_)
  refine XL.callF (ks := [g2]) (rs := []) (hs := []) (b0 := w.heap.size) (wE := w) (DoV2 t p) (ck rfl) rfl rfl (Fam.start S0.size) (fun k hk => S0.keyLt k hk) S0.toBelow (fun w1 S1 _ hB1 => hdo w1 hB1) (fun w2 x new hR hF2 hB2 hk2 => ?_) ZZHL
  obtain ⟨q, ds, rfl, hds, rfl⟩ := hR
  rw [hLe] at hds
  have hfl : (t.flw 0 t.s t.on p).1.length = p.length := flw_len hF
  have hdl : ds.length = p.length := by rw [← hfl, ← hds]; simp
  obtain ⟨Aq, nq, cq⟩ := q
  have hlq : ListAt donK w2 _ ⟨Aq, nq, cq⟩ ds := hF2.held (hList donK ⟨Aq, nq, cq⟩ ds) (.head _)
  have hlnq := hlq.len (by decide)
  simp only at hlnq
  subst hlnq
  clear hlq S0
  simp only [svV]
  repeat (first | (refine M0 ?_; first | refine SL ?_ | refine SB fun _ _ => ?_) | (refine M1 ?_; refine SC ?_) | (refine M2 ?_; refine SE ?_))
  refine XC.cutn [1, 2, 8, 11] rfl (fun g12 : Nat => [(12, .pointer (some ⟨g12, 0, none⟩)), (13, .slice v.on.A v.on.n v.on.c)]) (fun g12 => [(g12, cel 28 [.int .i64 t.s.vol, .slice v.q.A v.q.n v.q.c]), (g2, cel 33 (tskC v t))]) (fun _ => w2) (fun g12 => w2.heap.size ≤ g12) ?_ (fun g12 hg12 => ?_)
  · refine XC.drawR _ [0, 1, 2, 3] [4, 5, 6] mixed (fun _ h => h) rfl (by kernel_rfl) ?_
    repeat (any_goals (first | (refine M0 ?_; first | refine SL ?_ | refine SB fun _ _ => ?_) | (refine M1 ?_; refine SC ?_) | (refine M2 ?_; refine SE ?_) | (refine M3 ?_; first | refine SG ?_ | refine SF ?_) | (refine M4 ?_; refine SR ?_) | (refine M5 ?_; first | exact M7 | refine YM ?_ | refine YN ?_ ?_)))
    any_goals (repeat (first | exact AnyR.nil | refine AnyR.skip rfl ?_))
    all_goals exact XE.leaf _ ZZSUB (fun _ S' => by first | exact S' | exact S'.perm (by repeat (first | exact List.Perm.refl _ | refine perm1 ?_ | refine List.Perm.cons _ ?_ | refine perm2 ?_)) | exact (S'.pop (by assumption)) | exact (S'.pop2 (by assumption))) (by assumption)
  refine XC.rebase (List.Sublist.refl _) (fun W1 S1 => ?_)
  have F1 : Fam W1 w.heap.size [g12, g2] [] [hList donK ⟨Aq, ds.length, cq⟩ ds] := (Fam.atEnd hF2 S1 ZZHL).add (fun k hk => by left; simp only [List.mem_cons, List.not_mem_nil, or_false] at hk; simp only [List.map_cons, List.map_nil, List.mem_append, List.mem_cons, List.not_mem_nil, or_false]; omega)
  have hk1 : ∀ k, k ∈ [g12, g2] → k < W1.heap.size := fun k hk => S1.keyLt k hk
  have hB1 := hB2.trans S1.toBelow
  have F1' := (F1.hold (x := hMix w v.q t.s.fil) (ok := fun _ => False) (.inl ht.fil) (fun _ h => h.elim)).nil winK
  clear F1 S1 hF2 hB2 hk2
  have hone0 : t.flw 0 t.s t.on (p.drop 0) = ((ds.map (·.2)).drop 0, 0) := by
    rw [List.drop_zero, List.drop_zero, hds]
    exact Prod.ext rfl hF
  refine XC.hint 12 1 ?_
  repeat (first | (refine M0 ?_; first | refine SL ?_ | refine SB fun _ _ => ?_) | (refine M1 ?_; refine SC ?_) | (refine M2 ?_; refine SE ?_))
  refine XC.loopk [1, 2, 8, 12] rfl (fun z : L2St => [(14, .int .i64 (z.k : Nat)), (11, svV z.rl), (13, svV z.bq)]) (fun z => [(g12, cel 28 (staC z.sq z.s)), (g2, cel 33 (tskC v t))]) (fun z => z.W) (L2Inv w t p [g12, g2] ⟨Aq, ds.length, cq⟩ ds) (fun z => p.length + 1 - z.k) ⟨0, W1, ⟨none, 0, 0⟩, v.q, v.on, t.s, t.on, []⟩ ⟨Nat.zero_le _, hB1, F1', hk1, ht.on, ho.on, ho.sta, fun _ => hone0, fun _ => by rw [List.drop_zero]; rfl, fun h => by simp at h, rfl⟩ ZZSUB (fun _ h => h) ?_
  rintro ⟨k, W, rl, sq, bq, s, b, l⟩ ⟨hk, hBW, hFW, hkW, hbef, hbl, hsta, hone, hlst, hfin, hlen⟩
  simp only at hk hBW hFW hkW hbef hbl hsta hone hlst hfin hlen
  simp only [staC, svV, tskC]
  dsimp only [List.cons_append, List.nil_append]
  repeat (first | (refine M0 ?_; first | refine SL ?_ | refine SB fun _ _ => ?_) | (refine M1 ?_; refine SC ?_) | (refine M2 ?_; refine SE ?_))
  refine XC.cond _ rfl (fun h2 => ?_) (fun h2 => ?_)
  rotate_left
  · have hkn : k = p.length + 1 := by have := of_decide_eq_false h2; omega
    repeat (first | (refine M0 ?_; first | refine SL ?_ | refine SB fun _ _ => ?_) | (refine M1 ?_; refine SC ?_) | (refine M2 ?_; refine SE ?_))
    refine XE.retg tok Try.results23 rfl (by simp only [and_self, and_true]) (fun w' S => ?_)
    have F9 := Fam.freeze (hFW.sys S ZZHL)
    refine ⟨_, _, rfl, ⟨rl, by rw [hC]; rfl, rfl⟩, fun x hx => ?_, hBW.trans S.toBelow⟩
    rw [List.mem_singleton.1 hx]
    unfold lstL
    rw [if_pos hC, ← hfin hkn]
    exact winInts (F9.get (x := hList winK rl l) (.head _))
  have hkn : k ≤ p.length := by have := of_decide_eq_true h2; omega
  have hone := hone hkn
  have hlst := hlst hkn
  have hk' : t.n - (t.n - k) = k := by omega
  have hsq : ∀ (w1 : World) {ks' : List Nat} {rs' : List RowX} (hF1 : Fam w1 w.heap.size ks' rs' [hMix w sq s.fil, hList donK ⟨Aq, ds.length, cq⟩ ds]) (hB1 : Below w.heap.size w w1), IntsAt w1 (Lt w1.heap.size) sq s.fil := fun w1 ks' rs' hF1 hB1 => mix_lt (hF1.held (hMix w sq s.fil) (.head _)) hB1 (fun k hk => hk.2.1)
  obtain ⟨Y, hY⟩ : ∃ Y, Y = t.rest (t.n - k) s b := ⟨_, rfl⟩
  repeat (first | (refine M0 ?_; first | refine SL ?_ | refine SB fun _ _ => ?_) | (refine M1 ?_; refine SC ?_) | (refine M2 ?_; refine SE ?_))
  refine XL.callF (wE := w) (RestV Y) (ck rfl) rfl rfl hFW hkW hBW (fun w1 S1 hF1 hB1 => by
    have h := hre w1 hB1 (k := t.n - k) (by omega) hsta (hsq w1 hF1 hB1) hbl hbef
    rw [hk', ← hY] at h
    exact h) (fun w3 x new hR hF3 hB3 hk3 => ?_) ZZHL
  obtain ⟨q3, rfl, rfl⟩ := hR
  simp only [svV]
  repeat (first | (refine M0 ?_; first | refine SL ?_ | refine SB fun _ _ => ?_ | refine XL.buildSlice tok rfl rfl rfl rfl rfl rfl rfl rfl rfl (fun _ _ => ?_)) | (refine M1 ?_; refine SC ?_) | (refine M2 ?_; refine SE ?_))
  refine XL.push (K := winK) (a := fdC Y) (wE := w) 0 ints_el6 (by decide) rfl rfl rfl hF3 rfl hk3 hB3 (Nat.le_refl _) rfl (by omega) (by decide) (fun x hx => by cases hx) (fun w7 v7 hF7 hB7 hk7 => ?_)
  obtain ⟨r7, rfl, hn7⟩ := hF7.sv (K := winK) (l := l ++ [fdC Y]) (.head _)
  simp only [svV]
  by_cases hkl : k < p.length
  rotate_left
  · have hkp : k = p.length := by omega
    rw [hkp, List.drop_length] at hlst
    have hY0 : fdC Y = 0 := by rw [hY, hkp, hsl, Nat.sub_self]; rfl
    repeat (first | (refine M0 ?_; first | refine SL ?_ | refine SB fun _ _ => ?_) | (refine M1 ?_; refine SC ?_) | (refine M2 ?_; refine SE ?_))
    rw [show decide ((k : Int) < (es.length : Int)) = false from decide_eq_false (by omega)]
    repeat (first | (refine M0 ?_; first | refine SL ?_ | refine SB fun _ _ => ?_) | (refine M1 ?_; refine SC ?_) | (refine M2 ?_; refine SE ?_))
    refine XE.roundW (s := L2St.mk k W rl sq bq s b l) (fun w6 S6 => ⟨L2St.mk (k + 1) w6 r7 sq bq s b (l ++ [fdC Y]), ⟨by simp only; omega, hB7.trans S6.toBelow, ?_, fun x hx => S6.keyLt x (by simp only [List.map_cons, List.map_nil, List.mem_cons, List.not_mem_nil, or_false] at hx ⊢; omega), hbef, hbl, hsta, fun h => by simp only at h; omega, fun h => by simp only at h; omega, fun _ => ?_, by simp [hlen]⟩, by simp only; omega, ZZSUB, S6.rebase ZZSL⟩)
    · have F5 := Fam.add (ks' := [g12, g2]) (hF7.sys S6 ZZHL) (fun x hx => .inl (by simp only [List.map_cons, List.map_nil, List.mem_append, List.mem_cons, List.not_mem_nil, or_false] at hx ⊢; omega))
      exact Fam.forget F5 (fun x hx => by simp only [List.mem_cons, List.not_mem_nil, or_false] at hx; rcases hx with rfl | rfl <;> simp)
    · simp only
      rw [hY0, ← hlst]; rfl
  have hke : k < es.length := by omega
  have hkd : k < ds.length := by omega
  have hpk : p[k] = es[k].2 := by simp [← hes]
  have hdrop : p.drop k = es[k].2 :: p.drop (k + 1) := by rw [List.drop_eq_getElem_cons hkl, hpk]
  rw [hdrop] at hone hlst
  obtain ⟨ap, rfl, hlp⟩ := hp.addr (by decide) (by omega)
  have hcell := hp.elem (List.getElem?_eq_getElem hke) 0 (svV es[k].1) rfl
  rw [add_add, Nat.add_zero] at hcell
  have hon : ListAt boolK w (Lt w.heap.size) es[k].1 es[k].2 := hp.ins es[k] (List.getElem_mem hke) (hList boolK es[k].1 es[k].2) (.head _)
  have honl : es[k].2.length = t.m := hrow _ (by rw [← hpk]; exact List.getElem_mem hkl)
  obtain ⟨oq, hoq⟩ : ∃ oq, oq = es[k].1 := ⟨_, rfl⟩
  obtain ⟨on, hon'⟩ : ∃ on, on = es[k].2 := ⟨_, rfl⟩
  rw [← hoq] at hcell hon
  rw [← hon'] at hone hlst hon honl
  have hi : k < t.outer.length := by omega
  obtain ⟨hd0, hd1, hd2⟩ := flw_cons (t := t) (by rw [hone])
  have hdd : (ds.map (·.2)).drop k = ds[k].2 :: (ds.map (·.2)).drop (k + 1) := by
    rw [List.drop_eq_getElem_cons (by simpa using hkd)]; simp
  rw [hone, hdd] at hd2
  obtain ⟨⟨q1, d1⟩, hqd⟩ : ∃ z, z = ds[k] := ⟨_, rfl⟩
  rw [← hqd] at hd2
  simp only [List.cons.injEq] at hd2
  obtain ⟨hd3, hd4⟩ := hd2
  rw [← hd3] at hd1 hd4
  obtain ⟨hsta', _, _, _⟩ := do_sta ho hsta hi hd0
  rw [← hd3] at hsta'
  have hlq : ListAt donK w7 _ ⟨Aq, ds.length, cq⟩ ds := hF7.held (hList donK ⟨Aq, ds.length, cq⟩ ds) (by simp)
  obtain ⟨aq, haq, hfl⟩ := hlq.addr (by decide) (by omega)
  subst haq
  have hel := hlq.elem (List.getElem?_eq_getElem hkd)
  rw [← hqd] at hel
  have hel' : ∀ j u, ([.int .i64 d1.s.vol, .slice q1.A q1.n q1.c] : List Value)[j]? = some u → w7.cell? (((aq.add (k * 5)).add 0).add j) = some u := fun j u h => (congrArg w7.cell? (by rw [add_add, Nat.zero_add]; rfl)).trans (hel j u (by
    match j, h with
    | 0, h => exact h
    | 1, h => exact h))
  have hQ : IntsAt w7 _ q1 d1.s.fil := hlq.ins ds[k] (List.getElem_mem hkd) (hInts q1 d1.s.fil) (by rw [← hqd]; exact .head _)
  have hF7' := hF7.hold (x := hInts q1 d1.s.fil) (ok := Free w7 w.heap.size _ _) hQ (fun j hj => hj)
  simp only [svV] at hcell
  obtain ⟨o, hob⟩ : ∃ o, w7.heap[aq.block]? = some o := ⟨_, Array.getElem?_eq_getElem hfl.2.1⟩
  repeat (first | (refine M0 ?_; first | refine SL ?_ | refine SB fun _ _ => ?_) | (refine M1 ?_; refine SC ?_) | (refine M2 ?_; refine SE ?_))
  rw [show decide ((k : Int) < (es.length : Int)) = true from decide_eq_true (by omega)]
  repeat (first | (refine M0 ?_; first | refine SL ?_ | refine SB fun _ _ => ?_) | (refine M1 ?_; refine SC ?_) | (refine M2 ?_; refine SE ?_))
  refine XC.grab hob hfl.1 (fun e he => by have := Free.far hfl (j := 0) ZZHL e he; rwa [add_block] at this) (fun w8 S8 => ?_)
  have hB8 := hB7.trans S8.toBelow
  have hF8 := hF7'.sys S8 ZZHL
  have hob8 : w8.heap[aq.block]? = some o := (S8.old _ hfl.2.1 (fun e he => by have := Free.far hfl (j := 0) ZZHL e he; rwa [add_block] at this)).trans hob
  have hk8 : ∀ x, x ∈ [g12, g2] → x < w8.heap.size := fun x hx => S8.keyLt x (by simp only [List.map_cons, List.map_nil, List.mem_cons, List.not_mem_nil, or_false] at hx ⊢; omega)
  refine XC.drawRS _ [(aq.block, o), (g2, _)] [0, 1, 2, 3, 4, 5, 6, 7, 8] [9, 10] mixed (fun _ h => Sys.anchor2 (by assumption) h ZZSM) rfl (by kernel_rfl) ?_
  repeat (any_goals (first | (refine M0 ?_; first | refine SL ?_ | refine SB fun _ _ => ?_ | refine Y4 (Ev.load_old tok rfl rfl (add_lt hlp) hcell) ?_ | refine Y4 (Ev.load_in_agg tok 0 (g := aq.block) (o := o) [.int .i64 d1.s.vol, .slice q1.A q1.n q1.c] w7 rfl rfl rfl rfl (by rw [add_block, add_block]) hob hel') ?_) | (refine M1 ?_; refine SC ?_) | (refine M2 ?_; refine SE ?_) | (refine M3 ?_; first | refine SG ?_ | refine SF ?_ | refine YF (Ev.load_old tok rfl rfl (add_lt hlp) hcell) ?_ | refine YF (Ev.load_in_agg tok 0 (g := aq.block) (o := o) [.int .i64 d1.s.vol, .slice q1.A q1.n q1.c] w7 rfl rfl rfl rfl (by rw [add_block, add_block]) hob hel') ?_) | (refine M4 ?_; refine SR ?_) | (refine M5 ?_; first | exact M7 | refine YM ?_ | refine YN ?_ ?_)))
  any_goals (repeat (first | exact AnyR.nil | refine AnyR.skip rfl ?_))
  all_goals
    refine XE.roundW (s := L2St.mk k W rl sq bq s b l) (fun w6 S6' => ?_)
    have S6 := Sys.ungrab S6' hob8
    refine ⟨L2St.mk (k + 1) w6 r7 q1 oq d1.s on (l ++ [fdC Y]), ⟨by simp only; omega, hB8.trans S6.toBelow, ?_, fun x hx => S6.keyLt x (by simp only [List.map_cons, List.map_nil, List.mem_cons, List.not_mem_nil, or_false] at hx ⊢; omega), hon, honl, hsta', fun h => ?_, fun h => ?_, fun h => by simp only at h; omega, by simp [hlen]⟩, by simp only; omega, ZZSUB, S6.rebase ZZSL⟩
    · have F5 := Fam.add (ks' := [g12, g2]) (hF8.sys S6 ZZHL) (fun x hx => .inl (by simp only [List.map_cons, List.map_nil, List.mem_append, List.mem_cons, List.not_mem_nil, or_false] at hx ⊢; omega))
      have h7 := F5.held (hInts q1 d1.s.fil) (.head _)
      refine Fam.forget (F5.hold (x := hMix w q1 d1.s.fil) (ok := Free w6 w.heap.size [g12, g2] _) (.inr h7) (fun j hj => hj)) (fun x hx => ?_)
      rcases List.mem_cons.1 hx with rfl | hx
      · exact .head _
      · rw [List.mem_singleton.1 hx]; simp
    · have e1 := flw_cons_of (t := t) (r := p.drop (k + 1)) hd0
      rw [hone] at e1
      simp only
      refine Prod.ext ?_ ?_
      · rw [hd4, hd3]
      · exact hd1
    · rw [← hlst]
      simp only [RTk.lst, List.append_assoc, List.singleton_append]
      rw [hY, hd3]
set_option maxHeartbeats 4000000 in
theorem RunoffLeast_any {v : RTV} {t : RTk} {pq : SV} {es : List (SV × List Bool)} {w : World} (ht : TskAt w w.heap.size v t) (hn : t.slu.length + t.pmp.length ≤ 5000000) (hno : t.outer.length ≤ 5000000) (hp : ListAt plnK w (Lt w.heap.size) pq es) :
    Calls Try.prog 6 #[tskV v t, svV pq] w fun e w' => e = .returned (.bool true) ∧ Below w.heap.size w w' := by
  have hpt : ∀ (w5 : World), Below w.heap.size w w5 → ListAt plnK w5 (Lt w5.heap.size) pq es := fun w5 hB => (hp.keep fun k hk => hB.block k hk).mono fun k hk => Nat.lt_of_lt_of_le hk hB.size
  obtain ⟨pl, hpl⟩ : ∃ pl, es.map (·.2) = pl := ⟨_, rfl⟩
  have h0 := fun (w5 : World) (hB : Below w.heap.size w w5) => Great_any (ht.sys (Sys.ofBelow hB)) hn hno
  have h1 := fun (w5 : World) (hB : Below w.heap.size w w5) => Least_made (ht.sys (Sys.ofBelow hB)) hn (hpt w5 hB) hpl
  have h2 := fun (w5 : World) (hB : Below w.heap.size w w5) => ref7Least_made (ht.sys (Sys.ofBelow hB)) hn (hpt w5 hB) hpl
  have haw := fun {L : Lo} {W : World} (w5 : World) (S5 : Sys w.heap.size W L w5) => Awake_any (w := w5)
  simp only [tskV, tskC, svV] at h0 h1 h2 ⊢
  refine enter Try.func6 rfl Try.ntmps6 rfl ?_; simp only [frame, Nat.zero_add, Nat.reduceAdd]
  repeat (first | (refine M0 ?_; first | refine SL ?_ | refine SB fun _ _ => ?_ | refine Y4 (Ev.call (f := 11) (ck rfl) rfl (fun w5 S5 => h0 w5 S5.toBelow)) ?_) | (refine M1 ?_; refine SC ?_) | (refine M2 ?_; refine SE ?_))
  rename_i g2 hg2
  cases hG : greatB t with
  | true =>
    repeat (first | (refine M0 ?_; first | refine SL ?_ | refine SB fun _ _ => ?_ | refine Y4 (Ev.call (f := 12) (ck rfl) rfl (fun w5 S5 => haw w5 S5)) ?_) | (refine M1 ?_; refine SC ?_) | (refine M2 ?_; refine SE ?_))
    refine XE.retg tok Try.results6 rfl (by simp only [and_self, and_true]) (fun w' S => ?_)
    exact ⟨rfl, S.toBelow⟩
  | false =>
  repeat (first | (refine M0 ?_; first | refine SL ?_ | refine SB fun _ _ => ?_) | (refine M1 ?_; refine SC ?_) | (refine M2 ?_; refine SE ?_))
  refine XL.rebase (List.Sublist.refl _) (fun W0 S0 => ?_)
  refine XL.callF (ks := [g2]) (rs := []) (hs := []) (b0 := w.heap.size) (wE := w) (LstV t pl) (ck rfl) rfl rfl (Fam.start S0.size) (fun k hk => S0.keyLt k hk) S0.toBelow (fun w1 S1 _ hB1 => h1 w1 hB1) (fun w2 x new hR hF2 hB2 hk2 => ?_) ZZHL
  obtain ⟨q1, rfl, rfl⟩ := hR
  simp only [svV]
  repeat (first | (refine M0 ?_; first | refine SL ?_ | refine SB fun _ _ => ?_) | (refine M1 ?_; refine SC ?_) | (refine M2 ?_; refine SE ?_))
  refine XL.callF (wE := w) (LstV t pl) (ck rfl) rfl rfl hF2 hk2 hB2 (fun w1 S1 hF1 hB1 => h2 w1 hB1) (fun w3 x new hR hF3 hB3 hk3 => ?_) ZZHL
  obtain ⟨q2, rfl, rfl⟩ := hR
  have hin : ∀ {L : Lo} (w5 : World) (S5 : Sys w.heap.size w3 L w5) (hL5 : ∀ e, e ∈ L → e.1 ∈ [g2] ∨ w3.heap.size ≤ e.1), Calls Try.prog 24 #[svV q1, svV q2] w5 fun e w' => e = .returned (.bool true) ∧ Below w5.heap.size w5 w' := fun {L} w5 S5 hL5 => by
    have F5 := hF3.sys S5 (fun e he => (hL5 e he).imp (fun h => List.mem_append_right _ (List.mem_append_right _ h)) id)
    have k1 : IntsAt w5 _ q1 (lstL t pl) := F5.held (hInts q1 (lstL t pl)) (by simp)
    have k2 : IntsAt w5 _ q2 (lstL t pl) := F5.held (hInts q2 (lstL t pl)) (by simp)
    have h := intsEq_any (k1.mono fun j hj => hj.2.1) (k2.mono fun j hj => hj.2.1)
    rw [decide_eq_true rfl] at h
    exact h
  simp only [svV] at hin ⊢
  obtain ⟨e, he⟩ : ∃ a, a = costE t pl := ⟨_, rfl⟩
  rw [← he]
  repeat (first | (refine M0 ?_; first | refine SL ?_ | refine SB fun _ _ => ?_) | (refine M1 ?_; refine SC ?_) | (refine M2 ?_; refine SE ?_))
  refine XL.step _ (Ev.call (f := 24) (ck rfl) rfl (fun w5 S5 => hin w5 S5 ZZHL)) rfl ?_
  repeat (first | (refine M0 ?_; first | refine SL ?_ | refine SB fun _ _ => ?_) | (refine M1 ?_; refine SC ?_) | (refine M2 ?_; refine SE ?_))
  rw [decide_eq_true (rfl : e = e)]
  repeat (first | (refine M0 ?_; first | refine SL ?_ | refine SB fun _ _ => ?_ | refine Y4 (Ev.call (f := 12) (ck rfl) rfl (fun w5 S5 => haw w5 S5)) ?_) | (refine M1 ?_; refine SC ?_) | (refine M2 ?_; refine SE ?_))
  refine XE.retg tok Try.results6 rfl (by simp only [and_self, and_true]) (fun w' S => ?_)
  exact ⟨rfl, hB3.trans S.toBelow⟩
end Go.Proofs.Ytmckmlmfilmiaaa.X
