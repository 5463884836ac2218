/-
  The walk of follow (runoff).
-/
import Derived.Test.YtmckmlmfilmiaaaGreatDoorPart4
set_option linter.unusedVariables false
set_option linter.unusedSimpArgs false
namespace Go.Proofs.YtmckmlmfilmiaaaGreatDoor.X
open Go Go.RowKit Go.Proofs.YtmckmlmfilmiaaaGreatDoor.Bs
set_option linter.unusedVariables false
theorem idxPln {f : FuncId} {cap : List Value} {P : SV × List Bool → Bool} {r : SV} {ms : List (SV × List Bool)} {w : World} (hck : callOk Tryz.prog f = true) (hr : ListAt plnK w (Lt w.heap.size) r ms) (hn : ms.length ≤ 1000)
    (hc : ∀ m, m ∈ ms → ∀ w', Below w.heap.size w w' → Calls Tryz.prog f ([] ++ [svV m.1] ++ cap).toArray w' fun e w'' => e = .returned (.bool (P m)) ∧ Below w'.heap.size w' w'') :
    Calls Tryz.prog 66 #[svV r, .func (.func f) #[] cap.toArray] w fun e w' => e = .returned (.int .i64 (idxL ms P)) ∧ Below w.heap.size w w' := by
  obtain ⟨A, n, c⟩ := r
  have hln := hr.len (by decide)
  simp only at hln
  subst hln
  simp only [svV]
  refine enter Tryz.func66 rfl Tryz.ntmps66 rfl ?_; simp only [frame, Nat.zero_add, Nat.reduceAdd]
  repeat (first | (refine M0 ?_; first | refine SL ?_ | refine SB fun _ _ => ?_) | (refine M1 ?_; first | refine SC ?_ | refine SD ?_) | (refine M2 ?_; refine SE ?_) | (refine M3 ?_; first | refine SG ?_ | refine SF ?_) | (refine M4 ?_; refine SR ?_) | (refine M5 ?_; first | exact M7 | refine YM ?_ | refine YN ?_ ?_))
  refine XC.loopk [0, 1, 7] rfl (fun k : Nat => [(8, .int .i64 (k : Nat))]) (fun _ => []) (fun _ => w) (fun k => k ≤ ms.length ∧ ∀ j m, j < k → ms[j]? = some m → P m = false) (fun k => ms.length - k) 0 ⟨Nat.zero_le _, fun j m h => absurd h (by omega)⟩ ZZSUB (fun _ h => h) ?_
  rintro k ⟨hk, h0⟩
  dsimp only [List.cons_append, List.nil_append]
  repeat (first | (refine M0 ?_; first | refine SL ?_ | refine SB fun _ _ => ?_) | (refine M1 ?_; first | refine SC ?_ | refine SD ?_) | (refine M2 ?_; refine SE ?_) | (refine M3 ?_; first | refine SG ?_ | refine SF ?_) | (refine M4 ?_; refine SR ?_) | (refine M5 ?_; first | exact M7 | refine YM ?_ | refine YN ?_ ?_))
  refine XC.cond _ rfl (fun h3 => ?_) (fun h3 => ?_)
  · have hkn : k < ms.length := by simpa using h3
    obtain ⟨ad, rfl, hlt⟩ := hr.addr (by decide) (by omega)
    have hmk : ms[k]? = some ms[k] := List.getElem?_eq_getElem hkn
    have h9 := hr.elem hmk 0 (svV ms[k].1) rfl
    rw [add_add, Nat.add_zero] at h9
    have hcell : w.cell? (ad.add (k * 1)) = some (svV ms[k].1) := h9
    repeat (first | (refine M0 ?_; first | refine SL ?_ | refine SB fun _ _ => ?_ | refine Y4 (Ev.load_old tok rfl rfl (add_lt hlt) hcell) ?_ | refine Y4 (Ev.callv (f := f) (fst := []) (cap := cap) hck rfl rfl (fun w S => hc _ (List.getElem_mem hkn) w S.toBelow)) ?_) | (refine M1 ?_; first | refine SC ?_ | refine SD ?_) | (refine M2 ?_; refine SE ?_) | (refine M3 ?_; first | refine SG ?_ | refine SF ?_ | refine YF (Ev.load_old tok rfl rfl (add_lt hlt) hcell) ?_ | refine YF (Ev.callv (f := f) (fst := []) (cap := cap) hck rfl rfl (fun w S => hc _ (List.getElem_mem hkn) w S.toBelow)) ?_) | (refine M4 ?_; refine SR ?_) | (refine M5 ?_; first | exact M7 | refine YM ?_ | refine YN ?_ ?_))
    refine XC.cond _ rfl (fun h4 => ?_) (fun h4 => ?_)
    · repeat (first | (refine M0 ?_; first | refine SL ?_ | refine SB fun _ _ => ?_) | (refine M1 ?_; first | refine SC ?_ | refine SD ?_) | (refine M2 ?_; refine SE ?_) | (refine M3 ?_; first | refine SG ?_ | refine SF ?_) | (refine M4 ?_; refine SR ?_) | (refine M5 ?_; first | exact M7 | refine YM ?_ | refine YN ?_ ?_))
      refine XE.retg tok Tryz.results66 rfl (by simp only [and_self, and_true]) (fun w' S => ?_)
      have : ms.findIdx? P = some k := by
        rw [List.findIdx?_eq_some_iff_getElem]
        exact ⟨hkn, h4, fun j hj => by simpa using h0 j _ hj (List.getElem?_eq_getElem (by omega))⟩
      unfold idxL
      rw [this]
      exact ⟨rfl, S.toBelow⟩
    · repeat (first | (refine M0 ?_; first | refine SL ?_ | refine SB fun _ _ => ?_) | (refine M1 ?_; first | refine SC ?_ | refine SD ?_) | (refine M2 ?_; refine SE ?_) | (refine M3 ?_; first | refine SG ?_ | refine SF ?_) | (refine M4 ?_; refine SR ?_) | (refine M5 ?_; first | exact M7 | refine YM ?_ | refine YN ?_ ?_))
      refine XE.round (k + 1) ⟨hkn, fun j m hj hm => ?_⟩ (by omega) ZZSUB (fun _ h => h)
      rcases Nat.lt_or_ge j k with h5 | h5
      · exact h0 j m h5 hm
      · have : j = k := by omega
        subst this
        rw [hmk] at hm
        cases hm
        exact h4
  · have hkn : ¬ k < ms.length := by simpa using h3
    repeat (first | (refine M0 ?_; first | refine SL ?_ | refine SB fun _ _ => ?_) | (refine M1 ?_; first | refine SC ?_ | refine SD ?_) | (refine M2 ?_; refine SE ?_) | (refine M3 ?_; first | refine SG ?_ | refine SF ?_) | (refine M4 ?_; refine SR ?_) | (refine M5 ?_; first | exact M7 | refine YM ?_ | refine YN ?_ ?_))
    refine XE.retg tok Tryz.results66 rfl (by simp only [and_self, and_true]) (fun w' S => ?_)
    have : ms.findIdx? P = none := by
      rw [List.findIdx?_eq_none_iff]
      intro m hm
      obtain ⟨j, hj, e⟩ := List.mem_iff_getElem.1 hm
      exact h0 j m (by omega) (by rw [List.getElem?_eq_getElem hj, e])
    unfold idxL
    rw [this]
    exact ⟨rfl, S.toBelow⟩
theorem contPln {f : FuncId} {cap : List Value} {P : SV × List Bool → Bool} {r : SV} {ms : List (SV × List Bool)} {w : World} (hck : callOk Tryz.prog f = true) (hr : ListAt plnK w (Lt w.heap.size) r ms) (hn : ms.length ≤ 1000)
    (hc : ∀ m, m ∈ ms → ∀ w', Below w.heap.size w w' → Calls Tryz.prog f ([] ++ [svV m.1] ++ cap).toArray w' fun e w'' => e = .returned (.bool (P m)) ∧ Below w'.heap.size w' w'') :
    Calls Tryz.prog 56 #[svV r, .func (.func f) #[] cap.toArray] w fun e w' => e = .returned (.bool (ms.any P)) ∧ Below w.heap.size w w' := by
  obtain ⟨A, n, c⟩ := r
  simp only [svV]
  refine enter Tryz.func56 rfl Tryz.ntmps56 rfl ?_; simp only [frame, Nat.zero_add, Nat.reduceAdd]
  repeat (first | (refine M0 ?_; first | refine SL ?_ | refine SB fun _ _ => ?_ | refine Y4 (Ev.call (f := 66) (ck rfl) rfl (fun w5 S5 => (idxPln (f := f) (cap := cap) (P := P) (r := ⟨A, n, c⟩) (ms := ms) hck (hr.arg S5) hn (fun m hm w' hb => hc m hm w' (S5.toBelow.trans (hb.mono S5.size))) :))) ?_) | (refine M1 ?_; first | refine SC ?_ | refine SD ?_) | (refine M2 ?_; refine SE ?_) | (refine M3 ?_; first | refine SG ?_ | refine SF ?_ | refine YF (Ev.call (f := 66) (ck rfl) rfl (fun w5 S5 => (idxPln (f := f) (cap := cap) (P := P) (r := ⟨A, n, c⟩) (ms := ms) hck (hr.arg S5) hn (fun m hm w' hb => hc m hm w' (S5.toBelow.trans (hb.mono S5.size))) :))) ?_) | (refine M4 ?_; refine SR ?_) | (refine M5 ?_; first | exact M7 | refine YM ?_ | refine YN ?_ ?_))
  refine XE.retg tok Tryz.results56 rfl (by simp only [and_self, and_true]) (fun w' S => ?_)
  exact ⟨by rw [idxL_any]; rfl, S.toBelow⟩
theorem follow1_any {g4 g gt gm : Nat} {v : RTV} {r q : SV} {t : RTk} {ok : Nat → Prop} {w : World} (h4 : w.cell? ⟨g4, 0, none⟩ = some (.pointer (some ⟨g, 0, none⟩))) (hp : PlnAt w ok g gt gm v r t) {l : List Bool} (hq : q.n = l.length) :
    Calls Tryz.prog 55 ([] ++ [svV q] ++ [Value.pointer (some ⟨g4, 0, none⟩)] : List Value).toArray w fun e w' => e = .returned (.bool (!decide (l.length = t.m))) ∧ Below w.heap.size w w' := by
  obtain ⟨hlg, hc⟩ := plnCell hp
  have hl4 : g4 < w.heap.size := by
    unfold World.cell? at h4
    cases h : w.heap[g4]? with
    | none => simp [h] at h4
    | some o => exact (Array.getElem?_eq_some_iff.1 h).1
  have hn15 : r.n = t.m := hp.all.len (by decide)
  have c15 : w.cell? ⟨g, 15, none⟩ = some (.slice r.A r.n r.c) := hc 15 _ rfl
  obtain ⟨Aq, nq, cq⟩ := q
  simp only at hq
  subst hq
  simp only [svV, List.nil_append, List.cons_append]
  refine enter Tryz.func55 rfl Tryz.ntmps55 rfl ?_; simp only [frame, Nat.zero_add, Nat.reduceAdd]
  repeat (first | (refine M0 ?_; first | refine SL ?_ | refine SB fun _ _ => ?_ | refine Y4 (Ev.load_old tok rfl rfl hl4 h4) ?_ | refine Y4 (Ev.load_old tok rfl rfl hlg c15) ?_) | (refine M1 ?_; first | refine SC ?_ | refine SD ?_) | (refine M2 ?_; refine SE ?_) | (refine M3 ?_; first | refine SG ?_ | refine SF ?_ | refine YF (Ev.load_old tok rfl rfl hl4 h4) ?_ | refine YF (Ev.load_old tok rfl rfl hlg c15) ?_) | (refine M4 ?_; refine SR ?_) | (refine M5 ?_; first | exact M7 | refine YM ?_ | refine YN ?_ ?_))
  refine XE.retg tok Tryz.results55 rfl (by simp only [and_self, and_true]) (fun w' S => ?_)
  refine ⟨?_, S.toBelow⟩
  rw [hn15]
  by_cases h : l.length = t.m
  · rw [h]; simp [tupV]
  · have h' : (l.length : Int) ≠ t.m := by omega
    simp [h, h', tupV]
/-- a tick of a plan in memory. -/
def donK : Kind (SV × Done) := ⟨114, 5, fun e => doneC e.1 e.2, fun e => [hInts e.1 e.2.s.fil], fun _ => rfl⟩
theorem don_el : elemOk Tryz.prog 110 114 5 56 = true := by kernel_rfl
/-- an argument's numbers, or some that were made. -/
def hMix (w : World) (q : SV) (l : List Int) : Held := ⟨fun W ok => IntsAt w (Lt w.heap.size) q l ∨ IntsAt W ok q l, fun h hk => h.imp id fun h => h.keep hk, fun h hk => h.imp id fun h => h.mono hk⟩
def FolV (v : RTV) (t : RTk) (p : Plan) (x : Value) (new : List Held) : Prop :=
  (rtE t ≠ 0 ∧ x = .tuple ⟨[.pointer none, .slice none 0 0, .int .i64 0, .int .i64 (rtE t)]⟩ ∧ new = []) ∨
  (rtE t = 0 ∧ t.shaped p = false ∧ x = .tuple ⟨[.pointer none, .slice none 0 0, .int .i64 0, .int .i64 2]⟩ ∧ new = []) ∨
  (rtE t = 0 ∧ t.shaped p = true ∧ ∃ (g gt gm : Nat) (r q : SV) (ds : List (SV × Done)), x = .tuple ⟨[.pointer (some ⟨g, 0, none⟩), svV q, .int .i64 (t.flw 0 t.s t.on p).2, .int .i64 0]⟩ ∧ ds.map (·.2) = (t.flw 0 t.s t.on p).1 ∧ new = [hList donK q ds, hPln g gt gm v r t])
/-- how far a plan was followed. -/
structure FSt where
  k : Nat
  W : World
  rq : SV
  sq : SV
  bq : SV
  s : Sta
  b : List Bool
  ds : List (SV × Done)
structure FInv (w : World) (v : RTV) (t : RTk) (p : Plan) (ks : List Nat) (g gt gm : Nat) (r : SV) (z : FSt) : Prop where
  le : z.k ≤ p.length
  bel : Below w.heap.size w z.W
  fam : Fam z.W w.heap.size ks [⟨SV × Done, donK, svV z.rq, z.ds⟩] [hMix w z.sq z.s.fil, hPln g gt gm v r t]
  lt : ∀ x, x ∈ ks → x < z.W.heap.size
  bef : ListAt boolK w (Lt w.heap.size) z.bq z.b
  bl : z.b.length = t.m
  sta : StaOk t.b z.s
  one : (t.flw 0 t.s t.on p).1 = z.ds.map (·.2) ++ (t.flw z.k z.s z.b (p.drop z.k)).1
  two : (t.flw 0 t.s t.on p).2 = (t.flw z.k z.s z.b (p.drop z.k)).2
  len : z.ds.length = z.k
theorem mix_lt {w W : World} {q : SV} {l : List Int} {ok : Nat → Prop} (h : (hMix w q l).p W ok) (hB : Below w.heap.size w W) (hok : ∀ k, ok k → k < W.heap.size) : IntsAt W (Lt W.heap.size) q l := by
  rcases h with h | h
  · exact (h.keep fun k hk => hB.block k hk).mono fun k hk => Nat.lt_of_lt_of_le hk hB.size
  · exact h.mono hok
set_option maxHeartbeats 16000000 in
theorem follow_made {v : RTV} {t : RTk} {pq : SV} {p : Plan} {es : List (SV × List Bool)} {w : World} (ht : TskAt w w.heap.size v t) (hn : t.slu.length + t.pmp.length ≤ 5000000) (hp : ListAt plnK w (Lt w.heap.size) pq es) (hes : es.map (·.2) = p) :
    Calls Tryz.prog 40 #[tskV v t, svV pq] w (Made w (FolV v t p)) := by
  have hbeg := fun (w5 : World) (hB : Below w.heap.size w w5) => begin_made (v := v) (t := t) (w := w5) (ht.sys (Sys.ofBelow hB)) hn
  obtain ⟨Ap, np, cp⟩ := pq
  have lp := hp.len (by decide)
  simp only at lp
  subst lp
  have lo := ht.outer.len
  simp only [tskV, tskC, svV] at hbeg ⊢
  refine enter Tryz.func40 rfl Tryz.ntmps40 rfl ?_; simp only [frame, Nat.zero_add, Nat.reduceAdd]
  repeat (first | (refine M0 ?_; first | refine SL ?_ | refine SB fun _ _ => ?_) | (refine M1 ?_; refine SC ?_) | (refine M2 ?_; refine SE ?_))
  rename_i g2 hg2 g4 hg4
  refine XL.rebase (List.Sublist.refl _) (fun W0 S0 => ?_)
  refine XL.callF (ks := [g4, g2]) (rs := []) (hs := []) (b0 := w.heap.size) (wE := w) (BegV v t) (ck rfl) rfl rfl (Fam.start S0.size) (fun k hk => S0.keyLt k hk) S0.toBelow (fun w1 S1 _ hB1 => hbeg w1 hB1) (fun w2 x new hR hF2 hB2 hk2 => ?_) ZZHL
  rcases hR with ⟨h0, rfl, rfl⟩ | ⟨h0, g, gt, gm, r, rfl, rfl⟩
  · repeat (first | (refine M0 ?_; first | refine SL ?_ | refine SB fun _ _ => ?_) | (refine M1 ?_; refine SC ?_) | (refine M2 ?_; refine SE ?_))
    refine XC.cond _ rfl (fun h1 => ?_) (fun h1 => ?_)
    · repeat (first | (refine M0 ?_; first | refine SL ?_ | refine SB fun _ _ => ?_) | (refine M1 ?_; refine SC ?_) | (refine M2 ?_; refine SE ?_))
      refine XE.retg tok Tryz.results40 rfl (by simp only [and_self, and_true]) (fun w' S => ?_)
      exact ⟨_, [], rfl, .inl ⟨h0, rfl, rfl⟩, fun x hx => (by cases hx), hB2.trans S.toBelow⟩
    · exact absurd (by simpa using h1) h0
  repeat (first | (refine M0 ?_; first | refine SL ?_ | refine SB fun _ _ => ?_ | refine Y4 (Ev.makeFunc rfl rfl) ?_) | (refine M1 ?_; refine SC ?_) | (refine M2 ?_; refine SE ?_))
  have hpl : es.length = p.length := by have := congrArg List.length hes; simpa using this
  have hnn : t.n = t.outer.length := rfl
  by_cases hL : p.length = t.n
  rotate_left
  · rw [show decide ((es.length : Int) ≠ (v.o.n : Int)) = true from decide_eq_true (by omega)]
    repeat (first | (refine M0 ?_; first | refine SL ?_ | refine SB fun _ _ => ?_) | (refine M1 ?_; refine SC ?_) | (refine M2 ?_; refine SE ?_))
    refine XE.retg tok Tryz.results40 rfl (by simp only [and_self, and_true]) (fun w' S => ?_)
    exact ⟨_, [], rfl, .inr (.inl ⟨h0, by simp [RTk.shaped, hL], rfl, rfl⟩), fun x hx => (by cases hx), hB2.trans S.toBelow⟩
  rw [show decide ((es.length : Int) ≠ (v.o.n : Int)) = false from decide_eq_false (by omega)]
  have ho := rtOk_of h0
  have hn6 := ho.n6
  have hcont := fun {L : Lo} (w5 : World) (S5 : Sys w.heap.size w2 L w5) (hL5 : ∀ e, e ∈ L → e.1 ∈ [g4, g2] ∨ w2.heap.size ≤ e.1) (hown : w5.heap[g4]? = some (cel 77 [.pointer (some ⟨g, 0, none⟩)])) => contPln (f := 55) (cap := [.pointer (some ⟨g4, 0, none⟩)]) (P := fun m => !decide (m.2.length = t.m)) (r := ⟨Ap, es.length, cp⟩) (ms := es) (w := w5) (ck rfl) ((hp.keep fun k hk => (hB2.trans S5.toBelow).block k hk).mono fun k hk => Nat.lt_of_lt_of_le hk (hB2.trans S5.toBelow).size) (by omega) (fun m hm w' hb => by
    have h4' : w'.cell? ⟨g4, 0, none⟩ = some (.pointer (some ⟨g, 0, none⟩)) := by
      have hl4 := (Array.getElem?_eq_some_iff.1 hown).1
      have h9 := (hb.block g4 hl4).trans hown
      simp [World.cell?, h9]
    have hp5 : Pln0 w5 (Btw w.heap.size w5.heap.size) g gt gm v r t := ((hF2.add (ks' := [g4, g2]) (fun k hk => .inl (List.mem_append_right _ hk))).sys S5 hL5).get (x := hPln g gt gm v r t) (.head _)
    have hp6 := hp5.p.keep (w' := w') fun k hk => hb.block k hk.1.2
    have hml : m.1.n = m.2.length := ListAt.len (K := boolK) (hp.ins m hm (hList boolK m.1 m.2) (.head _)) (by decide)
    exact follow1_any h4' hp6 hml)
  simp only [svV] at hcont
  repeat (first | (refine M0 ?_; first | refine SL ?_ | refine SB fun _ _ => ?_ | refine Y4 (Ev.call (f := 56) (ck rfl) rfl (fun w5 S5 => hcont w5 S5 ZZHL (S5.own (g4, _) (.head _)).2)) ?_) | (refine M1 ?_; refine SC ?_) | (refine M2 ?_; refine SE ?_))
  refine XC.cond _ rfl (fun h1 => ?_) (fun h1 => ?_)
  · have hsf : t.shaped p = false := by
      obtain ⟨m, hm, h2⟩ := List.any_eq_true.1 h1
      have h3 : (p.all fun on => decide (on.length = t.m)) = false := List.all_eq_false.2 ⟨m.2, by rw [← hes]; exact List.mem_map_of_mem hm, by simpa using h2⟩
      unfold RTk.shaped
      rw [h3, Bool.and_false]
    repeat (first | (refine M0 ?_; first | refine SL ?_ | refine SB fun _ _ => ?_) | (refine M1 ?_; refine SC ?_) | (refine M2 ?_; refine SE ?_))
    refine XE.retg tok Tryz.results40 rfl (by simp only [and_self, and_true]) (fun w' S => ?_)
    exact ⟨_, [], rfl, .inr (.inl ⟨h0, hsf, rfl, rfl⟩), fun x hx => (by cases hx), hB2.trans S.toBelow⟩
  have hrow : ∀ on, on ∈ p → on.length = t.m := fun on hon => by
    rw [← hes] at hon
    obtain ⟨m, hm, rfl⟩ := List.mem_map.1 hon
    have := List.any_eq_false.1 h1 m hm
    simpa using this
  have hst : t.shaped p = true := by
    unfold RTk.shaped
    rw [decide_eq_true hL, Bool.true_and, List.all_eq_true]
    exact fun on hon => decide_eq_true (hrow on hon)
  repeat (first | (refine M0 ?_; first | refine SL ?_ | refine SB fun _ _ => ?_) | (refine M1 ?_; refine SC ?_) | (refine M2 ?_; refine SE ?_))
  refine XC.cutn [1, 2, 4, 5] rfl (fun g9 : Nat => [(9, .pointer (some ⟨g9, 0, none⟩)), (10, .slice v.on.A v.on.n v.on.c)]) (fun g9 => [(g9, cel 28 [.int .i64 t.s.vol, .slice v.q.A v.q.n v.q.c]), (g4, cel 77 [.pointer (some ⟨g, 0, none⟩)]), (g2, cel 33 (tskC v t))]) (fun _ => w2) (fun g9 => w2.heap.size ≤ g9) ?_ (fun g9 hg9 => ?_)
  · refine XC.drawR _ [0, 1, 2, 3] [4, 5, 6] mixed (fun _ h => h) rfl (by kernel_rfl) ?_
    repeat (any_goals (first | (refine M0 ?_; first | refine SL ?_ | refine SB fun _ _ => ?_) | (refine M1 ?_; refine SC ?_) | (refine M2 ?_; refine SE ?_) | (refine M3 ?_; first | refine SG ?_ | refine SF ?_) | (refine M4 ?_; refine SR ?_) | (refine M5 ?_; first | exact M7 | refine YM ?_ | refine YN ?_ ?_)))
    any_goals (repeat (first | exact AnyR.nil | refine AnyR.skip rfl ?_))
    all_goals exact XE.leaf _ ZZSUB (fun _ S' => by first | exact S' | exact S'.perm (by repeat (first | exact List.Perm.refl _ | refine perm1 ?_ | refine List.Perm.cons _ ?_ | refine perm2 ?_)) | exact (S'.pop (by assumption)) | exact (S'.pop2 (by assumption))) (by assumption)
  refine XC.rebase (List.Sublist.refl _) (fun W1 S1 => ?_)
  have F1 : Fam W1 w.heap.size [g9, g4, g2] [] [hPln g gt gm v r t] := (Fam.atEnd hF2 S1 ZZHL).add (fun k hk => by left; simp only [List.mem_cons, List.not_mem_nil, or_false] at hk; simp only [List.map_cons, List.map_nil, List.mem_append, List.mem_cons, List.not_mem_nil, or_false]; omega)
  have hk1 : ∀ k, k ∈ [g9, g4, g2] → k < W1.heap.size := fun k hk => S1.keyLt k hk
  have hB1 := hB2.trans S1.toBelow
  have F1' := (F1.hold (x := hMix w v.q t.s.fil) (ok := fun _ => False) (.inl ht.fil) (fun _ h => h.elim)).nil donK
  clear F1 S1 hF2 hB2 hk2 hcont S0
  refine XC.hint 9 2 ?_
  have hm4 : t.devs.length ≤ 4 := by have := t.devs_len; unfold RTk.many at this; have := ho.s2; have := ho.p2; omega
  repeat (first | (refine M0 ?_; first | refine SL ?_ | refine SB fun _ _ => ?_) | (refine M1 ?_; refine SC ?_) | (refine M2 ?_; refine SE ?_))
  refine XC.loopk [4, 9, 39, 40] rfl (fun z : FSt => [(41, .int .i64 (z.k : Nat)), (5, svV z.rq), (10, svV z.bq)]) (fun z => [(g9, cel 28 (staC z.sq z.s)), (g4, cel 77 [.pointer (some ⟨g, 0, none⟩)]), (g2, cel 33 (tskC v t))]) (fun z => z.W) (FInv w v t p [g9, g4, g2] g gt gm r) (fun z => p.length - z.k) ⟨0, W1, ⟨none, 0, 0⟩, v.q, v.on, t.s, t.on, []⟩ ⟨Nat.zero_le _, hB1, F1', hk1, ht.on, ho.on, ho.sta, rfl, rfl, rfl⟩ ZZSUB (fun _ h => h) ?_
  rintro ⟨k, W, rq, sq, bq, s, b, ds⟩ ⟨hk, hBW, hFW, hkW, hbef, hbl, hsta, hone, htwo, hlen⟩
  simp only at hk hBW hFW hkW hbef hbl hsta hone htwo hlen
  simp only [staC, svV]
  dsimp only [List.cons_append, List.nil_append]
  repeat (first | (refine M0 ?_; first | refine SL ?_ | refine SB fun _ _ => ?_) | (refine M1 ?_; refine SC ?_) | (refine M2 ?_; refine SE ?_))
  refine XC.cond _ rfl (fun h2 => ?_) (fun h2 => ?_)
  rotate_left
  · have hkn : k = p.length := by have := of_decide_eq_false h2; omega
    subst hkn
    rw [List.drop_length] at hone htwo
    repeat (first | (refine M0 ?_; first | refine SL ?_ | refine SB fun _ _ => ?_) | (refine M1 ?_; refine SC ?_) | (refine M2 ?_; refine SE ?_))
    refine XE.retg tok Tryz.results40 rfl (by simp only [and_self, and_true]) (fun w' S => ?_)
    have F9 := Fam.sys (Fam.freeze hFW) S ZZHL
    refine ⟨_, [hList donK rq ds, hPln g gt gm v r t], rfl, .inr (.inr ⟨h0, hst, g, gt, gm, r, rq, ds, ?_, by rw [hone]; simp [RTk.flw], rfl⟩), fun x hx => ?_, hBW.trans S.toBelow⟩
    · rw [htwo]; rfl
    · rcases List.mem_cons.1 hx with rfl | hx
      · exact F9.get (.head _)
      · rw [List.mem_singleton.1 hx]; exact F9.get (.tail _ (.tail _ (.head _)))
  have hkn : k < p.length := by have := of_decide_eq_true h2; omega
  have hke : k < es.length := by omega
  have hpk : p[k] = es[k].2 := by simp [← hes]
  have hdrop : p.drop k = es[k].2 :: p.drop (k + 1) := by rw [List.drop_eq_getElem_cons hkn, hpk]
  rw [hdrop] at hone htwo
  obtain ⟨ap, rfl, hlp⟩ := hp.addr (by decide) (by omega)
  have hcell := hp.elem (List.getElem?_eq_getElem hke) 0 (svV es[k].1) rfl
  rw [add_add, Nat.add_zero] at hcell
  have hcellW := (below_cell hBW (ad := ap.add (k * 1)) (add_lt hlp)).trans hcell
  have hon : ListAt boolK w (Lt w.heap.size) es[k].1 es[k].2 := hp.ins es[k] (List.getElem_mem hke) (hList boolK es[k].1 es[k].2) (.head _)
  have honl : es[k].2.length = t.m := hrow _ (by rw [← hpk]; exact List.getElem_mem hkn)
  obtain ⟨oq, hoq⟩ : ∃ oq, oq = es[k].1 := ⟨_, rfl⟩
  obtain ⟨on, hon'⟩ : ∃ on, on = es[k].2 := ⟨_, rfl⟩
  rw [← hoq] at hcellW hon
  rw [← hon'] at hone htwo hon honl
  have hki : k < t.outer.length := by omega
  simp only [svV] at hcellW
  repeat (first | (refine M0 ?_; first | refine SL ?_ | refine SB fun _ _ => ?_ | refine Y4 (Ev.load_old tok rfl rfl (add_lt hlp) hcellW) ?_) | (refine M1 ?_; refine SC ?_) | (refine M2 ?_; refine SE ?_))
  refine XL.callF (wE := w) (DoV (t.doE s k b on) (t.doD s k b on)) (ck rfl) rfl rfl hFW hkW hBW (fun w1 S1 hF1 hB1 => ?_) (fun w2 x new hR hF2 hB2 hk2 => ?_) ZZHL
  · have hp1 : Pln0 w1 (Btw w.heap.size w1.heap.size) g gt gm v r t := hF1.get (x := hPln g gt gm v r t) (.tail _ (.head _))
    have hsq : (hMix w sq s.fil).p w1 _ := hF1.held (hMix w sq s.fil) (.head _)
    exact do_made (g := g) (gt := gt) (gm := gm) (v := v) (r := r) (p := bq) (q := oq) (sq := sq) ⟨hp1.p.mono fun k hk => hk.1.2, ht.sys (Sys.ofBelow hB1)⟩ (chk_rt h0) ho (mix_lt hsq hB1 (fun k hk => hk.2.1)) hsta hki ((hbef.keep fun k hk => hB1.block k hk).mono fun k hk => Nat.lt_of_lt_of_le hk hB1.size) hbl ((hon.keep fun k hk => hB1.block k hk).mono fun k hk => Nat.lt_of_lt_of_le hk hB1.size) honl
  obtain ⟨q2, rfl, rfl⟩ := hR
  simp only [doneC]
  have hds := do_sta ho hsta hki (b := b) (f := on)
  by_cases hE : t.doE s k b on = 0
  rotate_left
  · repeat (first | (refine M0 ?_; first | refine SL ?_ | refine SB fun _ _ => ?_) | (refine M1 ?_; refine SC ?_) | (refine M2 ?_; refine SE ?_))
    rw [show decide (t.doE s k b on ≠ 0) = true from decide_eq_true hE]
    repeat (first | (refine M0 ?_; first | refine SL ?_ | refine SB fun _ _ => ?_) | (refine M1 ?_; refine SC ?_) | (refine M2 ?_; refine SE ?_))
    refine XE.retg tok Tryz.results40 rfl (by simp only [and_self, and_true]) (fun w' S => ?_)
    have e1 : t.flw k s b (on :: p.drop (k + 1)) = ([], t.doE s k b on) := by rw [flw_eq, if_neg hE]
    rw [e1] at hone htwo
    have F9 := Fam.sys (Fam.freeze hF2) S ZZHL
    refine ⟨_, [hList donK rq ds, hPln g gt gm v r t], rfl, .inr (.inr ⟨h0, hst, g, gt, gm, r, rq, ds, by rw [htwo]; rfl, by rw [hone, List.append_nil], rfl⟩), fun x hx => ?_, hB2.trans S.toBelow⟩
    rcases List.mem_cons.1 hx with rfl | hx
    · exact F9.get (.head _)
    · rw [List.mem_singleton.1 hx]; exact F9.get (by simp)
  obtain ⟨hsta', _, _, _⟩ := hds hE
  have e1 := flw_cons_of (r := p.drop (k + 1)) hE
  rw [e1] at hone htwo
  obtain ⟨d, hd⟩ : ∃ d, d = t.doD s k b on := ⟨_, rfl⟩
  rw [← hd] at hsta' hone htwo hF2
  rw [← hd, hE]
  repeat (first | (refine M0 ?_; first | refine SL ?_ | refine SB fun _ _ => ?_) | (refine M1 ?_; refine SC ?_) | (refine M2 ?_; refine SE ?_))
  rename_i g13 hg13
  refine XL.buildSlice tok rfl rfl rfl rfl rfl rfl rfl rfl rfl (fun gn hgn => ?_)
  refine XL.push (K := donK) (a := (q2, d)) (wE := w) 0 don_el (by decide) rfl rfl rfl hF2 rfl hk2 hB2 (Nat.le_refl _) rfl (by omega) (by decide) (fun x hx => by rw [List.mem_singleton.1 hx]; exact .head _) (fun w3 v3 hF3 hB3 hk3 => ?_)
  obtain ⟨r3, rfl, hn3⟩ := hF3.sv (K := donK) (l := ds ++ [(q2, d)]) (List.mem_singleton.2 rfl)
  simp only [svV]
  repeat (first | (refine M0 ?_; first | refine SL ?_ | refine SB fun _ _ => ?_) | (refine M1 ?_; refine SC ?_) | (refine M2 ?_; refine SE ?_))
  refine XE.roundW (s := FSt.mk k W rq sq bq s b ds) (fun w6 S6 => ⟨FSt.mk (k + 1) w6 r3 q2 oq d.s on (ds ++ [(q2, d)]), ⟨hkn, hB3.trans S6.toBelow, ?_, fun x hx => S6.keyLt x (by simp only [List.map_cons, List.map_nil, List.mem_cons, List.not_mem_nil, or_false] at hx ⊢; omega), hon, honl, hsta', ?_, ?_, by simp [hlen]⟩, by simp only; omega, ZZSUB, S6.rebase ZZSL⟩)
  · have F5 := Fam.add (ks' := [g9, g4, g2]) (hF3.sys S6 ZZHL) (fun x hx => .inl (List.mem_append_right _ (List.mem_append_right _ hx)))
    have h7 := F5.held (hInts q2 d.s.fil) (.head _)
    refine Fam.forget (F5.hold (x := hMix w q2 d.s.fil) (ok := Free w6 w.heap.size [g9, g4, g2] _) (.inr h7) (fun j hj => hj)) (fun x hx => ?_)
    rcases List.mem_cons.1 hx with rfl | hx
    · exact .head _
    · rw [List.mem_singleton.1 hx]; simp
  · rw [hone]; simp
  · rw [htwo]
end Go.Proofs.YtmckmlmfilmiaaaGreatDoor.X
/-
  The walks of Cost and Do (runoff).
-/
namespace Go.Proofs.YtmckmlmfilmiaaaGreatDoor.Bs
open Go.Proofs.YtmckmlmfilmiaaaGreatDoor.X
/-- the error of following a plan; its fault is none. -/
noncomputable def folE (t : RTk) (p : Plan) : Int := if rtE t ≠ 0 then rtE t else if t.shaped p = false then 2 else 0
noncomputable def costE (t : RTk) (p : Plan) : Int := if rtE t ≠ 0 then rtE t else if t.shaped p = false then 2 else (t.flw 0 t.s t.on p).2
noncomputable def costN (t : RTk) (p : Plan) : Int := if costE t p = 0 then costs (t.flw 0 t.s t.on p).1 else 0
theorem shaped_len {t : RTk} {p : Plan} (h : t.shaped p = true) : p.length = t.n ∧ ∀ on, on ∈ p → on.length = t.m := by
  unfold RTk.shaped at h
  simp only [Bool.and_eq_true, decide_eq_true_eq, List.all_eq_true] at h
  exact h
theorem flw_bd {t : RTk} (ho : RtOk t) : ∀ {p : Plan} {i : Nat} {s : Sta} {b : List Bool}, StaOk t.b s → i + p.length ≤ t.outer.length → (t.flw i s b p).1.length ≤ p.length ∧ ∀ x, x ∈ (t.flw i s b p).1 → 0 ≤ x.cost ∧ x.cost ≤ 200000000000000 := by
  intro p
  induction p with
  | nil => intro i s b _ _; exact ⟨Nat.le_refl _, fun x hx => by cases hx⟩
  | cons on r ih =>
    intro i s b hs hl
    simp only [List.length_cons] at hl
    by_cases h0 : t.doE s i b on = 0
    · obtain ⟨h1, h2, h3, _⟩ := do_sta ho hs (by omega) h0
      obtain ⟨h4, h5⟩ := ih (i := i + 1) (b := on) h1 (by omega)
      rw [flw_cons_of h0]
      refine ⟨by simp only [List.length_cons]; omega, fun x hx => ?_⟩
      rcases List.mem_cons.1 hx with rfl | hx
      · exact ⟨h2, h3⟩
      · exact h5 x hx
    · rw [flw_eq, if_neg h0]
      exact ⟨by simp, fun x hx => by cases hx⟩
theorem costs_take {l : List Done} {k : Nat} (hk : k < l.length) : costs (l.take (k + 1)) = costs (l.take k) + l[k].cost := by
  rw [List.take_succ_eq_append_getElem hk, costs_snoc]
theorem costs_bd {l : List Done} (h : ∀ x, x ∈ l → 0 ≤ x.cost ∧ x.cost ≤ 200000000000000) : 0 ≤ costs l ∧ costs l ≤ 200000000000000 * l.length := by
  induction l with
  | nil => simp [costs_nil]
  | cons x l ih =>
    have h1 := h x (.head _)
    have h2 := ih fun y hy => h y (.tail _ hy)
    rw [costs_cons, List.length_cons]
    omega
end Go.Proofs.YtmckmlmfilmiaaaGreatDoor.Bs
namespace Go.Proofs.YtmckmlmfilmiaaaGreatDoor.X
open Go Go.RowKit Go.Proofs.YtmckmlmfilmiaaaGreatDoor.Bs
set_option linter.unusedVariables false
set_option maxHeartbeats 8000000 in
theorem Cost_any {v : RTV} {t : RTk} {pq : SV} {p : Plan} {es : List (SV × List Bool)} {w : World} (ht : TskAt w w.heap.size v t) (hn : t.slu.length + t.pmp.length ≤ 5000000) (hp : ListAt plnK w (Lt w.heap.size) pq es) (hes : es.map (·.2) = p) :
    Calls Tryz.prog 20 #[tskV v t, svV pq] w fun e w' => e = .returned (.tuple ⟨[.int .i64 (costN t p), .int .i64 (costE t p)]⟩) ∧ Below w.heap.size w w' := by
  have hfol := fun (w5 : World) (hB : Below w.heap.size w w5) => follow_made (v := v) (t := t) (w := w5) (pq := pq) (ht.sys (Sys.ofBelow hB)) hn ((hp.keep fun k hk => hB.block k hk).mono fun k hk => Nat.lt_of_lt_of_le hk hB.size) hes
  simp only [tskV, tskC, svV] at hfol ⊢
  refine enter Tryz.func20 rfl Tryz.ntmps20 rfl ?_; simp only [frame, Nat.zero_add, Nat.reduceAdd]
  repeat (first | (refine M0 ?_; first | refine SL ?_ | refine SB fun _ _ => ?_) | (refine M1 ?_; refine SC ?_) | (refine M2 ?_; refine SE ?_))
  rename_i g2 hg2
  refine XL.rebase (List.Sublist.refl _) (fun W0 S0 => ?_)
  refine XL.callF (ks := [g2]) (rs := []) (hs := []) (b0 := w.heap.size) (wE := w) (FolV v t p) (ck rfl) rfl rfl (Fam.start S0.size) (fun k hk => S0.keyLt k hk) S0.toBelow (fun w1 S1 _ hB1 => hfol w1 hB1) (fun w2 x new hR hF2 hB2 hk2 => ?_) ZZHL
  rcases hR with ⟨h0, rfl, rfl⟩ | ⟨h0, h1, rfl, rfl⟩ | ⟨h0, h1, g, gt, gm, r, q, ds, rfl, hds, rfl⟩
  · have e1 : costE t p = rtE t := by unfold costE; rw [if_pos h0]
    have e2 : costN t p = 0 := by unfold costN; rw [if_neg (by rw [e1]; exact h0)]
    repeat (first | (refine M0 ?_; first | refine SL ?_ | refine SB fun _ _ => ?_) | (refine M1 ?_; refine SC ?_) | (refine M2 ?_; refine SE ?_))
    rw [show decide (rtE t = 0) = false from decide_eq_false h0]
    repeat (first | (refine M0 ?_; first | refine SL ?_ | refine SB fun _ _ => ?_) | (refine M1 ?_; refine SC ?_) | (refine M2 ?_; refine SE ?_))
    rw [show decide (rtE t ≠ 0) = true from decide_eq_true h0]
    repeat (first | (refine M0 ?_; first | refine SL ?_ | refine SB fun _ _ => ?_) | (refine M1 ?_; refine SC ?_) | (refine M2 ?_; refine SE ?_))
    refine XE.retg tok Tryz.results20 rfl (by simp only [and_self, and_true]) (fun w' S => ?_)
    rw [e1, e2]
    exact ⟨rfl, hB2.trans S.toBelow⟩
  · have e1 : costE t p = 2 := by unfold costE; rw [if_neg (by simp [h0]), if_pos h1]
    have e2 : costN t p = 0 := by unfold costN; rw [if_neg (by rw [e1]; decide)]
    repeat (first | (refine M0 ?_; first | refine SL ?_ | refine SB fun _ _ => ?_) | (refine M1 ?_; refine SC ?_) | (refine M2 ?_; refine SE ?_))
    refine XE.retg tok Tryz.results20 rfl (by simp only [and_self, and_true]) (fun w' S => ?_)
    rw [e1, e2]
    exact ⟨rfl, hB2.trans S.toBelow⟩
  have e1 : costE t p = (t.flw 0 t.s t.on p).2 := by unfold costE; rw [if_neg (by simp [h0]), if_neg (by simp [h1])]
  repeat (first | (refine M0 ?_; first | refine SL ?_ | refine SB fun _ _ => ?_) | (refine M1 ?_; refine SC ?_) | (refine M2 ?_; refine SE ?_))
  have ho := rtOk_of h0
  obtain ⟨hsl, _⟩ := shaped_len h1
  obtain ⟨hbl1, hbl2⟩ := flw_bd ho (p := p) (i := 0) (s := t.s) (b := t.on) ho.sta (by rw [Nat.zero_add, hsl]; exact Nat.le_refl _)
  have hn6 : t.n ≤ 6 := ho.n6
  obtain ⟨E, hE⟩ : ∃ E, E = (t.flw 0 t.s t.on p).2 := ⟨_, rfl⟩
  rw [← hE] at e1 ⊢
  refine XC.cond _ rfl (fun h2 => ?_) (fun h2 => ?_)
  · have e2 : costN t p = 0 := by unfold costN; rw [if_neg (by rw [e1]; simpa using h2)]
    repeat (first | (refine M0 ?_; first | refine SL ?_ | refine SB fun _ _ => ?_) | (refine M1 ?_; refine SC ?_) | (refine M2 ?_; refine SE ?_))
    refine XE.retg tok Tryz.results20 rfl (by simp only [and_self, and_true]) (fun w' S => ?_)
    rw [e1, e2]
    exact ⟨rfl, hB2.trans S.toBelow⟩
  have hE0 : E = 0 := by simpa using h2
  have e2 : costN t p = costs (ds.map (·.2)) := by unfold costN; rw [if_pos (by rw [e1, hE0]), hds]
  rw [← hds] at hbl1 hbl2
  obtain ⟨dl, hdl⟩ : ∃ dl, dl = ds.map (·.2) := ⟨_, rfl⟩
  rw [← hdl] at hbl1 hbl2 e2
  have hdlen : dl.length = ds.length := by rw [hdl]; simp
  obtain ⟨Aq, nq, cq⟩ := q
  have hl : ListAt donK w2 _ ⟨Aq, nq, cq⟩ ds := hF2.held (hList donK ⟨Aq, nq, cq⟩ ds) (.head _)
  have hln := hl.len (by decide)
  simp only at hln
  subst hln
  simp only [svV]
  repeat (first | (refine M0 ?_; first | refine SL ?_ | refine SB fun _ _ => ?_) | (refine M1 ?_; refine SC ?_) | (refine M2 ?_; refine SE ?_))
  refine XC.loopk [27, 28] rfl (fun k : Nat => [(29, .int .i64 (k : Nat)), (10, .int .i64 (costs (dl.take k)))]) (fun _ => [(g2, _)]) (fun _ => w2) (fun k => k ≤ ds.length) (fun k => ds.length - k) 0 (Nat.zero_le _) ZZSUB (fun _ h => h) ?_
  intro k hk
  dsimp only [List.cons_append, List.nil_append]
  repeat (first | (refine M0 ?_; first | refine SL ?_ | refine SB fun _ _ => ?_) | (refine M1 ?_; refine SC ?_) | (refine M2 ?_; refine SE ?_))
  refine XC.cond _ rfl (fun h3 => ?_) (fun h3 => ?_)
  rotate_left
  · have hkn : k = ds.length := by have := of_decide_eq_false h3; omega
    rw [hkn, ← hdlen, List.take_length]
    repeat (first | (refine M0 ?_; first | refine SL ?_ | refine SB fun _ _ => ?_) | (refine M1 ?_; refine SC ?_) | (refine M2 ?_; refine SE ?_))
    refine XE.retg tok Tryz.results20 rfl (by simp only [and_self, and_true]) (fun w' S => ?_)
    rw [e1, hE0, e2]
    exact ⟨rfl, hB2.trans S.toBelow⟩
  have hkn : k < ds.length := by have := of_decide_eq_true h3; omega
  obtain ⟨aq, rfl, hfl⟩ := hl.addr (by decide) (by omega)
  have hel := hl.elem (List.getElem?_eq_getElem hkn)
  have hdk : dl[k] = ds[k].2 := by simp [hdl]
  have hct := costs_take (l := dl) (k := k) (by omega)
  rw [hdk] at hct
  have hb1 := costs_bd (l := dl.take k) fun x hx => hbl2 x (List.mem_of_mem_take hx)
  have hb2 := hbl2 dl[k] (List.getElem_mem _)
  rw [hdk] at hb2
  have hb3 : (dl.take k).length ≤ 6 := by rw [List.length_take]; omega
  obtain ⟨⟨q1, d1⟩, hqd⟩ : ∃ z, z = ds[k] := ⟨_, rfl⟩
  rw [← hqd] at hel hct hb2
  simp only at hct hb2
  have hel' : ∀ j u, ([.int .i64 d1.s.vol, .slice q1.A q1.n q1.c, .int .i64 d1.out, .int .i64 d1.energy, .int .i64 d1.cost] : List Value)[j]? = some u → w2.cell? ((aq.add (k * 5)).add j) = some u := hel
  repeat (first | (refine M0 ?_; first | refine SL ?_ | refine SB fun _ _ => ?_ | refine Y4 (Ev.load_far_agg tok [.int .i64 d1.s.vol, .slice q1.A q1.n q1.c, .int .i64 d1.out, .int .i64 d1.energy, .int .i64 d1.cost] rfl rfl rfl (by rw [add_block]; exact hfl.2.1) (Free.far hfl (by intro e he; left; rw [List.mem_singleton.1 he]; simp)) hel') ?_) | (refine M1 ?_; refine SC ?_) | (refine M2 ?_; refine SE ?_))
  rw [← hct]
  exact XE.round (s := k) (k + 1) hkn (by omega) ZZSUB (fun _ h => h.pop (by assumption))
end Go.Proofs.YtmckmlmfilmiaaaGreatDoor.X
/-
  The example's task and plans, plans compared, Awake (runoff).
-/
namespace Go.Proofs.YtmckmlmfilmiaaaGreatDoor.X
open Go Go.RowKit Go.Proofs.YtmckmlmfilmiaaaGreatDoor.Bs
set_option linter.unusedVariables false
/-! ### choices and plans compared -/
set_option maxHeartbeats 4000000 in
theorem Bools_any {p q : SV} {l m : List Bool} {w : World} (hp : ListAt boolK w (Lt w.heap.size) p l) (hq : ListAt boolK w (Lt w.heap.size) q m) :
    Calls Tryz.prog 41 #[svV p, svV q] w fun e w' => e = .returned (.bool (decide (l = m))) ∧ Below w.heap.size w w' := by
  obtain ⟨Ap, np, cp⟩ := p
  obtain ⟨Aq, nq, cq⟩ := q
  have lp := hp.len (by decide)
  have lq := hq.len (by decide)
  have mp := hp.max
  have mq := hq.max
  simp only at lp lq mp mq
  subst lp lq
  simp only [svV]
  refine enter Tryz.func41 rfl Tryz.ntmps41 rfl ?_; simp only [frame, Nat.zero_add, Nat.reduceAdd]
  repeat (first | (refine M0 ?_; first | refine SL ?_ | refine SB fun _ _ => ?_) | (refine M1 ?_; first | refine SC ?_ | refine SD ?_) | (refine M2 ?_; refine SE ?_) | (refine M3 ?_; first | refine SG ?_ | refine SF ?_) | (refine M4 ?_; refine SR ?_) | (refine M5 ?_; first | exact M7 | refine YM ?_ | refine YN ?_ ?_))
  refine XC.cond _ rfl (fun h1 => ?_) (fun h1 => ?_)
  · have hne : l ≠ m := fun e => by have := of_decide_eq_true h1; rw [e] at this; exact this rfl
    repeat (first | (refine M0 ?_; first | refine SL ?_ | refine SB fun _ _ => ?_) | (refine M1 ?_; first | refine SC ?_ | refine SD ?_) | (refine M2 ?_; refine SE ?_) | (refine M3 ?_; first | refine SG ?_ | refine SF ?_) | (refine M4 ?_; refine SR ?_) | (refine M5 ?_; first | exact M7 | refine YM ?_ | refine YN ?_ ?_))
    refine XE.retg tok Tryz.results41 rfl (by simp only [and_self, and_true]) (fun w' S => ?_)
    rw [decide_eq_false hne]
    exact ⟨rfl, S.toBelow⟩
  have hlen : l.length = m.length := by have := of_decide_eq_false h1; omega
  repeat (first | (refine M0 ?_; first | refine SL ?_ | refine SB fun _ _ => ?_) | (refine M1 ?_; first | refine SC ?_ | refine SD ?_) | (refine M2 ?_; refine SE ?_) | (refine M3 ?_; first | refine SG ?_ | refine SF ?_) | (refine M4 ?_; refine SR ?_) | (refine M5 ?_; first | exact M7 | refine YM ?_ | refine YN ?_ ?_))
  refine XC.loopk [0, 1] rfl (fun k : Nat => [(5, .int .i64 (k : Nat))]) (fun _ => []) (fun _ => w) (fun k => k ≤ l.length ∧ ∀ j, j < k → bl l j = bl m j) (fun k => l.length - k) 0 ⟨Nat.zero_le _, fun j h => absurd h (by omega)⟩ ZZSUB (fun _ h => h) ?_
  rintro k ⟨hk, h0⟩
  dsimp only [List.cons_append, List.nil_append]
  repeat (first | (refine M0 ?_; first | refine SL ?_ | refine SB fun _ _ => ?_) | (refine M1 ?_; first | refine SC ?_ | refine SD ?_) | (refine M2 ?_; refine SE ?_) | (refine M3 ?_; first | refine SG ?_ | refine SF ?_) | (refine M4 ?_; refine SR ?_) | (refine M5 ?_; first | exact M7 | refine YM ?_ | refine YN ?_ ?_))
  refine XC.cond _ rfl (fun h2 => ?_) (fun h2 => ?_)
  rotate_left
  · have hkn : k = l.length := by have := of_decide_eq_false h2; omega
    subst hkn
    repeat (first | (refine M0 ?_; first | refine SL ?_ | refine SB fun _ _ => ?_) | (refine M1 ?_; first | refine SC ?_ | refine SD ?_) | (refine M2 ?_; refine SE ?_) | (refine M3 ?_; first | refine SG ?_ | refine SF ?_) | (refine M4 ?_; refine SR ?_) | (refine M5 ?_; first | exact M7 | refine YM ?_ | refine YN ?_ ?_))
    refine XE.retg tok Tryz.results41 rfl (by simp only [and_self, and_true]) (fun w' S => ?_)
    rw [decide_eq_true (bl_ext hlen h0)]
    exact ⟨rfl, S.toBelow⟩
  have hkn : k < l.length := by have := of_decide_eq_true h2; omega
  obtain ⟨ap, rfl, hlp⟩ := hp.addr (by decide) (by omega)
  obtain ⟨aq, rfl, hlq⟩ := hq.addr (by decide) (by omega)
  have c1 := boolAt hp (k := k) (by omega)
  have c2 := boolAt hq (k := k) (by omega)
  repeat (first | (refine M0 ?_; first | refine SL ?_ | refine SB fun _ _ => ?_ | refine Y4 (Ev.load_old tok rfl rfl (add_lt hlp) c1) ?_ | refine Y4 (Ev.load_old tok rfl rfl (add_lt hlq) c2) ?_ | refine Y4 (Ev.neqB Tryz.underlying4 rfl rfl) ?_) | (refine M1 ?_; first | refine SC ?_ | refine SD ?_) | (refine M2 ?_; refine SE ?_) | (refine M3 ?_; first | refine SG ?_ | refine SF ?_ | refine YF (Ev.load_old tok rfl rfl (add_lt hlp) c1) ?_ | refine YF (Ev.load_old tok rfl rfl (add_lt hlq) c2) ?_ | refine YF (Ev.neqB Tryz.underlying4 rfl rfl) ?_) | (refine M4 ?_; refine SR ?_) | (refine M5 ?_; first | exact M7 | refine YM ?_ | refine YN ?_ ?_))
  refine XC.cond _ rfl (fun h3 => ?_) (fun h3 => ?_)
  · have hne : l ≠ m := fun e => by rw [e] at h3; simp at h3
    repeat (first | (refine M0 ?_; first | refine SL ?_ | refine SB fun _ _ => ?_) | (refine M1 ?_; first | refine SC ?_ | refine SD ?_) | (refine M2 ?_; refine SE ?_) | (refine M3 ?_; first | refine SG ?_ | refine SF ?_) | (refine M4 ?_; refine SR ?_) | (refine M5 ?_; first | exact M7 | refine YM ?_ | refine YN ?_ ?_))
    refine XE.retg tok Tryz.results41 rfl (by simp only [and_self, and_true]) (fun w' S => ?_)
    rw [decide_eq_false hne]
    exact ⟨rfl, S.toBelow⟩
  · repeat (first | (refine M0 ?_; first | refine SL ?_ | refine SB fun _ _ => ?_) | (refine M1 ?_; first | refine SC ?_ | refine SD ?_) | (refine M2 ?_; refine SE ?_) | (refine M3 ?_; first | refine SG ?_ | refine SF ?_) | (refine M4 ?_; refine SR ?_) | (refine M5 ?_; first | exact M7 | refine YM ?_ | refine YN ?_ ?_))
    refine XE.round (s := k) (k + 1) ⟨hkn, fun j hj => ?_⟩ (by omega) ZZSUB (fun _ h => h)
    by_cases e : j = k
    · rw [e]; simpa using h3
    · exact h0 j (by omega)
set_option maxHeartbeats 4000000 in
theorem SamePlan_any {p q : SV} {es fs : List (SV × List Bool)} {w : World} (hp : ListAt plnK w (Lt w.heap.size) p es) (hq : ListAt plnK w (Lt w.heap.size) q fs) :
    Calls Tryz.prog 22 #[svV p, svV q] w fun e w' => e = .returned (.bool (decide (es.map (·.2) = fs.map (·.2)))) ∧ Below w.heap.size w w' := by
  obtain ⟨Ap, np, cp⟩ := p
  obtain ⟨Aq, nq, cq⟩ := q
  have lp := hp.len (by decide)
  have lq := hq.len (by decide)
  have mp := hp.max
  have mq := hq.max
  simp only at lp lq mp mq
  subst lp lq
  simp only [svV]
  refine enter Tryz.func22 rfl Tryz.ntmps22 rfl ?_; simp only [frame, Nat.zero_add, Nat.reduceAdd]
  repeat (first | (refine M0 ?_; first | refine SL ?_ | refine SB fun _ _ => ?_) | (refine M1 ?_; first | refine SC ?_ | refine SD ?_) | (refine M2 ?_; refine SE ?_) | (refine M3 ?_; first | refine SG ?_ | refine SF ?_) | (refine M4 ?_; refine SR ?_) | (refine M5 ?_; first | exact M7 | refine YM ?_ | refine YN ?_ ?_))
  refine XC.cond _ rfl (fun h1 => ?_) (fun h1 => ?_)
  · have hne : es.map (·.2) ≠ fs.map (·.2) := fun e => by have := congrArg List.length e; simp at this; have := of_decide_eq_true h1; omega
    repeat (first | (refine M0 ?_; first | refine SL ?_ | refine SB fun _ _ => ?_) | (refine M1 ?_; first | refine SC ?_ | refine SD ?_) | (refine M2 ?_; refine SE ?_) | (refine M3 ?_; first | refine SG ?_ | refine SF ?_) | (refine M4 ?_; refine SR ?_) | (refine M5 ?_; first | exact M7 | refine YM ?_ | refine YN ?_ ?_))
    refine XE.retg tok Tryz.results22 rfl (by simp only [and_self, and_true]) (fun w' S => ?_)
    rw [decide_eq_false hne]
    exact ⟨rfl, S.toBelow⟩
  have hlen : es.length = fs.length := by have := of_decide_eq_false h1; omega
  repeat (first | (refine M0 ?_; first | refine SL ?_ | refine SB fun _ _ => ?_) | (refine M1 ?_; first | refine SC ?_ | refine SD ?_) | (refine M2 ?_; refine SE ?_) | (refine M3 ?_; first | refine SG ?_ | refine SF ?_) | (refine M4 ?_; refine SR ?_) | (refine M5 ?_; first | exact M7 | refine YM ?_ | refine YN ?_ ?_))
  refine XC.loopk [0, 1] rfl (fun k : Nat => [(5, .int .i64 (k : Nat))]) (fun _ => []) (fun _ => w) (fun k => k ≤ es.length ∧ ∀ j, j < k → (es.map (·.2))[j]? = (fs.map (·.2))[j]?) (fun k => es.length - k) 0 ⟨Nat.zero_le _, fun j h => absurd h (by omega)⟩ ZZSUB (fun _ h => h) ?_
  rintro k ⟨hk, h0⟩
  dsimp only [List.cons_append, List.nil_append]
  repeat (first | (refine M0 ?_; first | refine SL ?_ | refine SB fun _ _ => ?_) | (refine M1 ?_; first | refine SC ?_ | refine SD ?_) | (refine M2 ?_; refine SE ?_) | (refine M3 ?_; first | refine SG ?_ | refine SF ?_) | (refine M4 ?_; refine SR ?_) | (refine M5 ?_; first | exact M7 | refine YM ?_ | refine YN ?_ ?_))
  refine XC.cond _ rfl (fun h2 => ?_) (fun h2 => ?_)
  rotate_left
  · have hkn : k = es.length := by have := of_decide_eq_false h2; omega
    subst hkn
    have he : es.map (·.2) = fs.map (·.2) := List.ext_getElem? fun j => by
      rcases Nat.lt_or_ge j es.length with h | h
      · exact h0 j h
      · rw [List.getElem?_eq_none (by simpa using h), List.getElem?_eq_none (by simpa using (by omega : fs.length ≤ j))]
    repeat (first | (refine M0 ?_; first | refine SL ?_ | refine SB fun _ _ => ?_) | (refine M1 ?_; first | refine SC ?_ | refine SD ?_) | (refine M2 ?_; refine SE ?_) | (refine M3 ?_; first | refine SG ?_ | refine SF ?_) | (refine M4 ?_; refine SR ?_) | (refine M5 ?_; first | exact M7 | refine YM ?_ | refine YN ?_ ?_))
    refine XE.retg tok Tryz.results22 rfl (by simp only [and_self, and_true]) (fun w' S => ?_)
    rw [decide_eq_true he]
    exact ⟨rfl, S.toBelow⟩
  have hkn : k < es.length := by have := of_decide_eq_true h2; omega
  have hkf : k < fs.length := by omega
  obtain ⟨ap, rfl, hlp⟩ := hp.addr (by decide) (by omega)
  obtain ⟨aq, rfl, hlq⟩ := hq.addr (by decide) (by omega)
  have c1 := hp.elem (List.getElem?_eq_getElem hkn) 0 (svV es[k].1) rfl
  have c2 := hq.elem (List.getElem?_eq_getElem hkf) 0 (svV fs[k].1) rfl
  rw [add_add, Nat.add_zero] at c1 c2
  have i1 : ListAt boolK w (Lt w.heap.size) es[k].1 es[k].2 := hp.ins es[k] (List.getElem_mem hkn) (hList boolK es[k].1 es[k].2) (.head _)
  have i2 : ListAt boolK w (Lt w.heap.size) fs[k].1 fs[k].2 := hq.ins fs[k] (List.getElem_mem hkf) (hList boolK fs[k].1 fs[k].2) (.head _)
  have g1 : (es.map (·.2))[k]? = some es[k].2 := by simp [hkn]
  have g2 : (fs.map (·.2))[k]? = some fs[k].2 := by simp [hkf]
  obtain ⟨⟨p1, l1⟩, h1e⟩ : ∃ z, z = es[k] := ⟨_, rfl⟩
  obtain ⟨⟨q1, m1⟩, h1f⟩ : ∃ z, z = fs[k] := ⟨_, rfl⟩
  rw [← h1e] at c1 i1 g1
  rw [← h1f] at c2 i2 g2
  simp only at c1 c2 i1 i2 g1 g2
  have c1' : w.cell? (ap.add (k * 1)) = some (svV p1) := c1
  have c2' : w.cell? (aq.add (k * 1)) = some (svV q1) := c2
  have hcall := fun {L : Lo} (w5 : World) (S5 : Sys w.heap.size w L w5) => Bools_any (i1.arg S5) (i2.arg S5)
  simp only [svV] at c1' c2' hcall
  repeat (first | (refine M0 ?_; first | refine SL ?_ | refine SB fun _ _ => ?_ | refine Y4 (Ev.load_old tok rfl rfl (add_lt hlp) c1') ?_ | refine Y4 (Ev.load_old tok rfl rfl (add_lt hlq) c2') ?_ | refine Y4 (Ev.call (f := 41) (ck rfl) rfl (fun w5 S5 => hcall w5 S5)) ?_) | (refine M1 ?_; first | refine SC ?_ | refine SD ?_) | (refine M2 ?_; refine SE ?_) | (refine M3 ?_; first | refine SG ?_ | refine SF ?_ | refine YF (Ev.load_old tok rfl rfl (add_lt hlp) c1') ?_ | refine YF (Ev.load_old tok rfl rfl (add_lt hlq) c2') ?_ | refine YF (Ev.call (f := 41) (ck rfl) rfl (fun w5 S5 => hcall w5 S5)) ?_) | (refine M4 ?_; refine SR ?_) | (refine M5 ?_; first | exact M7 | refine YM ?_ | refine YN ?_ ?_))
  refine XC.cond _ rfl (fun h3 => ?_) (fun h3 => ?_)
  · have hne : es.map (·.2) ≠ fs.map (·.2) := fun e => by
      rw [e, g2] at g1
      simp only [Option.some.injEq] at g1
      simp [g1] at h3
    repeat (first | (refine M0 ?_; first | refine SL ?_ | refine SB fun _ _ => ?_) | (refine M1 ?_; first | refine SC ?_ | refine SD ?_) | (refine M2 ?_; refine SE ?_) | (refine M3 ?_; first | refine SG ?_ | refine SF ?_) | (refine M4 ?_; refine SR ?_) | (refine M5 ?_; first | exact M7 | refine YM ?_ | refine YN ?_ ?_))
    refine XE.retg tok Tryz.results22 rfl (by simp only [and_self, and_true]) (fun w' S => ?_)
    rw [decide_eq_false hne]
    exact ⟨rfl, S.toBelow⟩
  · repeat (first | (refine M0 ?_; first | refine SL ?_ | refine SB fun _ _ => ?_) | (refine M1 ?_; first | refine SC ?_ | refine SD ?_) | (refine M2 ?_; refine SE ?_) | (refine M3 ?_; first | refine SG ?_ | refine SF ?_) | (refine M4 ?_; refine SR ?_) | (refine M5 ?_; first | exact M7 | refine YM ?_ | refine YN ?_ ?_))
    refine XE.round (s := k) (k + 1) ⟨hkn, fun j hj => ?_⟩ (by omega) ZZSUB (fun _ h => h)
    by_cases e : j = k
    · rw [e, g1, g2]; congr 1; simpa using h3
    · exact h0 j (by omega)
/-! ### the example -/
def PlanV (p : Plan) (x : Value) (new : List Held) : Prop := ∃ q : SV, x = svV q ∧ new = [hPlan q p]
theorem Plan_made {a b c d : Bool} {w : World} : Calls Tryz.prog 21 #[.bool a, .bool b, .bool c, .bool d] w (Made w (PlanV [[a, b], [c, d]])) := by
  refine enter Tryz.func21 rfl Tryz.ntmps21 rfl ?_; simp only [frame, Nat.zero_add, Nat.reduceAdd]
  repeat (first | (refine M0 ?_; first | refine SL ?_ | refine SB fun _ _ => ?_ | refine XL.buildSlice tok rfl rfl rfl rfl rfl rfl rfl rfl rfl (fun _ _ => ?_)) | (refine M1 ?_; first | refine SC ?_ | refine SD ?_) | (refine M2 ?_; refine SE ?_) | (refine M3 ?_; first | refine SG ?_ | refine SF ?_) | (refine M4 ?_; refine SR ?_) | (refine M5 ?_; first | exact M7 | refine YM ?_ | refine YN ?_ ?_))
  rename_i g1 hg1 g2 hg2 g3 hg3
  refine XE.retg tok Tryz.results21 rfl (by simp only [and_self, and_true]) (fun w' S => ?_)
  refine ⟨_, _, rfl, ⟨⟨some ⟨g3, 0, none⟩, 2, 2⟩, rfl, rfl⟩, fun x hx => ?_, S.toBelow⟩
  rw [List.mem_singleton.1 hx]
  have h1 := (S.own (g1, _) (.tail _ (.tail _ (.head _)))).2
  have h2 := (S.own (g2, _) (.tail _ (.head _))).2
  have h3 := (S.own (g3, _) (.head _)).2
  refine ⟨[(⟨some ⟨g1, 0, none⟩, 2, 2⟩, [a, b]), (⟨some ⟨g2, 0, none⟩, 2, 2⟩, [c, d])], ⟨ReadsP.block h3 hg3 rfl, Nat.le_of_ble_eq_true rfl, fun x hx h hh => ?_⟩, rfl⟩
  rcases List.mem_cons.1 hx with rfl | hx
  · rw [List.mem_singleton.1 hh]
    exact boolsAt (l := [a, b]) h1 hg1 rfl (by decide)
  · rw [List.mem_singleton.1 hx] at hh
    rw [List.mem_singleton.1 hh]
    exact boolsAt (l := [c, d]) h2 hg2 rfl (by decide)
/-- blocks as they stand. -/
def hBlk (bs : Lo) : Held := ⟨fun w ok => ∀ e, e ∈ bs → ok e.1 ∧ w.heap[e.1]? = some e.2, fun h hk e he => ⟨(h e he).1, (hk _ (h e he).1).trans (h e he).2⟩, fun h hk e he => ⟨hk _ (h e he).1, (h e he).2⟩⟩
def rxRows : List Value := [.int .i64 (-1000), .int .i64 0, .int .i64 0, .int .i64 1000000, .int .i64 2000, .int .i64 5000000]
def BasinV (x : Value) (new : List Held) : Prop := ∃ g1 g2 : Nat, x = .agg ⟨[.slice (some ⟨g1, 0, none⟩) 3 3, .int .i64 100, .int .i64 3000, .int .i64 500, .slice (some ⟨g2, 0, none⟩) 2 2]⟩ ∧ new = [hBlk [(g1, cel 53 rxRows)]]
theorem Basin7_made {w : World} : Calls Tryz.prog 39 #[] w (Made w BasinV) := by
  refine enter Tryz.func39 rfl Tryz.ntmps39 rfl ?_; simp only [frame, Nat.zero_add, Nat.reduceAdd]
  repeat (first | (refine M0 ?_; first | refine SL ?_ | refine SB fun _ _ => ?_ | refine XL.buildSlice tok rfl rfl rfl rfl rfl rfl rfl rfl rfl (fun _ _ => ?_)) | (refine M1 ?_; first | refine SC ?_ | refine SD ?_) | (refine M2 ?_; refine SE ?_) | (refine M3 ?_; first | refine SG ?_ | refine SF ?_) | (refine M4 ?_; refine SR ?_) | (refine M5 ?_; first | exact M7 | refine YM ?_ | refine YN ?_ ?_))
  rename_i g0 hg0 g1 hg1 g2 hg2
  refine XE.retg tok Tryz.results39 rfl (by simp only [and_self, and_true]) (fun w' S => ?_)
  refine ⟨_, _, rfl, ⟨g1, g2, rfl, rfl⟩, fun x hx => ?_, S.toBelow⟩
  rw [List.mem_singleton.1 hx]
  intro e he
  rw [List.mem_singleton.1 he]
  exact ⟨⟨hg1, S.lt (e := (g1, _)) (.tail _ (.head _))⟩, (S.own (g1, _) (.tail _ (.head _))).2⟩
def tskBlk (gr go gi gp gs gu gn : Nat) : Lo := [(gr, cel 53 rxRows), (go, cel 3 [.int .i64 (-500), .int .i64 500]), (gi, cel 3 [.int .i64 60000, .int .i64 60000]), (gp, cel 3 [.int .i64 1, .int .i64 2]),
  (gs, cel 99 [.string ⟨#[108, 111, 99, 107]⟩, .int .i64 100, .int .i64 10]), (gu, cel 102 [.string ⟨#[109, 105, 108, 108]⟩, .int .i64 40000, .int .i64 5, .int .i64 1, .int .i64 7]), (gn, cel 4 [.bool false, .bool false])]
def tskRV (gr go gi gp gs gu gn : Nat) : RTV := ⟨⟨some ⟨gr, 0, none⟩, 3, 3, none, 0, 0⟩, ⟨none, 0, 0⟩, ⟨some ⟨go, 0, none⟩, 2, 2⟩, ⟨some ⟨gi, 0, none⟩, 2, 2⟩, ⟨some ⟨gp, 0, none⟩, 2, 2⟩, ⟨some ⟨gs, 0, none⟩, 1, 1⟩, ⟨some ⟨gu, 0, none⟩, 1, 1⟩, ⟨some ⟨gn, 0, none⟩, 2, 2⟩⟩
theorem tsk_of {gr go gi gp gs gu gn : Nat} {w : World} {ok : Nat → Prop} (h : (hBlk (tskBlk gr go gi gp gs gu gn)).p w ok) : TskAt w w.heap.size (tskRV gr go gi gp gs gu gn) rxT := by
  have b1 := (h (gr, _) (.head _)).2
  have b2 := (h (go, _) (.tail _ (.head _))).2
  have b3 := (h (gi, _) (.tail _ (.tail _ (.head _)))).2
  have b4 := (h (gp, _) (.tail _ (.tail _ (.tail _ (.head _))))).2
  have b5 := (h (gs, _) (.tail _ (.tail _ (.tail _ (.tail _ (.head _)))))).2
  have b6 := (h (gu, _) (.tail _ (.tail _ (.tail _ (.tail _ (.tail _ (.head _))))))).2
  have b7 := (h (gn, _) (.tail _ (.tail _ (.tail _ (.tail _ (.tail _ (.tail _ (.head _)))))))).2
  refine ⟨⟨((ReadsP.block b1 (Nat.zero_le _) rfl).mono fun j hj => hj.2).to, ReadsP.nil.to, Nat.le_of_ble_eq_true rfl, Nat.le_of_ble_eq_true rfl, Nat.le_of_ble_eq_true rfl, fun q hq => by cases hq⟩, IntsAt.nil, ⟨(ReadsP.block b2 (Nat.zero_le _) rfl).mono fun j hj => hj.2, Nat.le_of_ble_eq_true rfl⟩, ⟨(ReadsP.block b3 (Nat.zero_le _) rfl).mono fun j hj => hj.2, Nat.le_of_ble_eq_true rfl⟩, ⟨(ReadsP.block b4 (Nat.zero_le _) rfl).mono fun j hj => hj.2, Nat.le_of_ble_eq_true rfl⟩,
    ⟨(ReadsP.block b5 (Nat.zero_le _) rfl).mono fun j hj => hj.2, Nat.le_of_ble_eq_true rfl, fun a ha x hx => by cases hx⟩, ⟨(ReadsP.block b6 (Nat.zero_le _) rfl).mono fun j hj => hj.2, Nat.le_of_ble_eq_true rfl, fun a ha x hx => by cases hx⟩, ⟨(ReadsP.block b7 (Nat.zero_le _) rfl).mono fun j hj => hj.2, Nat.le_of_ble_eq_true rfl, fun a ha x hx => by cases hx⟩, fun d hd => ?_⟩
  rcases List.mem_cons.1 hd with rfl | hd
  · decide
  · rw [List.mem_singleton.1 hd]; decide
def TaskV (x : Value) (new : List Held) : Prop := ∃ gr go gi gp gs gu gn : Nat, x = tskV (tskRV gr go gi gp gs gu gn) rxT ∧ new = [hBlk (tskBlk gr go gi gp gs gu gn)]
set_option maxHeartbeats 4000000 in
theorem Task_made {w : World} : Calls Tryz.prog 19 #[] w (Made w TaskV) := by
  refine enter Tryz.func19 rfl Tryz.ntmps19 rfl ?_; simp only [frame, Nat.zero_add, Nat.reduceAdd]
  repeat (first | (refine M0 ?_; first | refine SL ?_ | refine SB fun _ _ => ?_) | (refine M1 ?_; refine SC ?_) | (refine M2 ?_; refine SE ?_))
  rename_i g0 hg0
  refine XL.rebase (List.Sublist.refl _) (fun W0 S0 => ?_)
  refine XL.callF (ks := [g0]) (rs := []) (hs := []) (b0 := w.heap.size) (wE := w) BasinV (ck rfl) rfl rfl (Fam.start S0.size) (fun k hk => S0.keyLt k hk) S0.toBelow (fun w1 S1 _ hB1 => Basin7_made) (fun w2 x new hR hF2 hB2 hk2 => ?_) ZZHL
  obtain ⟨gr, gq, rfl, rfl⟩ := hR
  repeat (first | (refine M0 ?_; first | refine SL ?_ | refine SB fun _ _ => ?_ | refine XL.buildSlice tok rfl rfl rfl rfl rfl rfl rfl rfl rfl (fun _ _ => ?_)) | (refine M1 ?_; refine SC ?_) | (refine M2 ?_; refine SE ?_))
  rename_i g1 hg1 go hgo gi hgi gp hgp gs hgs gu hgu gn hgn
  refine XE.retg tok Tryz.results19 rfl (by simp only [and_self, and_true]) (fun w' S => ?_)
  have hF9 := hF2.sys S ZZHL
  have hl := hF9.get (x := hBlk [(gr, cel 53 rxRows)]) (.head _) (gr, _) (.head _)
  have hw : w.heap.size ≤ w2.heap.size := hB2.size
  refine ⟨_, _, rfl, ⟨gr, go, gi, gp, gs, gu, gn, rfl, rfl⟩, fun x hx => ?_, hB2.trans S.toBelow⟩
  rw [List.mem_singleton.1 hx]
  intro e he
  have hin : ∀ {o : Obj} {q : Nat}, (q, o) ∈ [(gn, cel 4 [.bool false, .bool false]), (gu, cel 102 [.string ⟨#[109, 105, 108, 108]⟩, .int .i64 40000, .int .i64 5, .int .i64 1, .int .i64 7]), (gs, cel 99 [.string ⟨#[108, 111, 99, 107]⟩, .int .i64 100, .int .i64 10]), (gp, cel 3 [.int .i64 1, .int .i64 2]), (gi, cel 3 [.int .i64 60000, .int .i64 60000]), (go, cel 3 [.int .i64 (-500), .int .i64 500])] → Btw w.heap.size w'.heap.size q ∧ w'.heap[q]? = some o := fun {o q} h => ⟨⟨(S.own _ (List.mem_append_left _ h)).1, S.lt (e := (q, o)) (List.mem_append_left _ h)⟩, (S.own (q, o) (List.mem_append_left _ h)).2⟩
  simp only [tskBlk] at he
  rcases List.mem_cons.1 he with rfl | he
  · exact hl
  rcases List.mem_cons.1 he with rfl | he
  · exact hin (by simp)
  rcases List.mem_cons.1 he with rfl | he
  · exact hin (by simp)
  rcases List.mem_cons.1 he with rfl | he
  · exact hin (by simp)
  rcases List.mem_cons.1 he with rfl | he
  · exact hin (by simp)
  rcases List.mem_cons.1 he with rfl | he
  · exact hin (by simp)
  · rw [List.mem_singleton.1 he]
    exact hin (by simp)
theorem rx_bst : bst rxT = some (12, [[false, true], [false, false]]) := by
  unfold bst
  rw [if_pos rx_e]
  exact rx_rest
theorem rx_bstE : bstE rxT = 0 := by
  unfold bstE
  rw [if_pos rx_e, show rxT.rest rxT.n rxT.s rxT.on = _ from rx_rest]
  rfl
theorem rx_costE : costE rxT [[false, false], [false, false]] = 172 := by
  unfold costE
  rw [if_neg (by simp [rx_e]), if_neg (by decide)]
  exact rx_flw
theorem rx_costN : costN rxT [[false, false], [false, false]] = 0 := by
  unfold costN
  rw [if_neg (by rw [rx_costE]; decide)]
set_option maxHeartbeats 4000000 in
theorem Awake7_any {w : World} : Calls Tryz.prog 5 #[] w fun e w' => e = .returned (.bool true) ∧ Below w.heap.size w w' := by
  refine enter Tryz.func5 rfl Tryz.ntmps5 rfl ?_; simp only [frame, Nat.zero_add, Nat.reduceAdd]
  repeat (first | (refine M0 ?_; first | refine SL ?_ | refine SB fun _ _ => ?_) | (refine M1 ?_; refine SC ?_) | (refine M2 ?_; refine SE ?_))
  refine XL.callF (ks := []) (rs := []) (hs := []) (b0 := w.heap.size) (wE := w) TaskV (ck rfl) rfl rfl (Fam.start (Nat.le_refl _)) (fun k hk => by cases hk) (Below.refl _ _) (fun w1 S1 _ hB1 => Task_made) (fun w2 x new hR hF2 hB2 hk2 => ?_) (fun e he => by cases he)
  obtain ⟨gr, go, gi, gp, gs, gu, gn, rfl, rfl⟩ := hR
  repeat (first | (refine M0 ?_; first | refine SL ?_ | refine SB fun _ _ => ?_) | (refine M1 ?_; refine SC ?_) | (refine M2 ?_; refine SE ?_))
  refine XL.callF (wE := w) (BestV rxT) (ck rfl) rfl rfl hF2 hk2 hB2 (fun w1 S1 hF1 hB1 => Best_made (tsk_of (hF1.held (hBlk _) (.head _))) (by decide)) (fun w3 x new hR hF3 hB3 hk3 => ?_) (fun e he => by cases he)
  obtain ⟨q, rfl, rfl⟩ := hR
  rw [rx_bst, rx_bstE]
  simp only [fdC, Option.map_some, Option.getD_some]
  repeat (first | (refine M0 ?_; first | refine SL ?_ | refine SB fun _ _ => ?_) | (refine M1 ?_; refine SC ?_) | (refine M2 ?_; refine SE ?_))
  refine XL.callF (wE := w) TaskV (ck rfl) rfl rfl hF3 hk3 hB3 (fun w1 S1 _ hB1 => Task_made) (fun w4 x new hR hF4 hB4 hk4 => ?_) (fun e he => by cases he)
  obtain ⟨hr, ho, hi, hp, hs, hu, hn, rfl, rfl⟩ := hR
  repeat (first | (refine M0 ?_; first | refine SL ?_ | refine SB fun _ _ => ?_) | (refine M1 ?_; refine SC ?_) | (refine M2 ?_; refine SE ?_))
  refine XL.callF (wE := w) (PlanV [[false, false], [false, false]]) (ck rfl) rfl rfl hF4 hk4 hB4 (fun w1 S1 _ hB1 => Plan_made) (fun w5 x new hR hF5 hB5 hk5 => ?_) (fun e he => by cases he)
  obtain ⟨q2, rfl, rfl⟩ := hR
  have hcost : ∀ {L : Lo} (w6 : World), Sys w.heap.size w5 L w6 → (∀ e, e ∈ L → e.1 ∈ ([] : List Nat) ∨ w5.heap.size ≤ e.1) → Calls Tryz.prog 20 #[tskV (tskRV hr ho hi hp hs hu hn) rxT, svV q2] w6 fun e w' => e = .returned (.tuple ⟨[.int .i64 0, .int .i64 172]⟩) ∧ Below w6.heap.size w6 w' := fun {L} w6 S6 hL => by
    have F6 := (hF5.add (ks' := []) (fun k hk => by cases hk)).sys S6 hL
    obtain ⟨es, h1, h2⟩ : PlanAt w6 _ q2 [[false, false], [false, false]] := F6.held (hPlan q2 [[false, false], [false, false]]) (.head _)
    have h3 := Cost_any (w := w6) (tsk_of (F6.held (hBlk (tskBlk hr ho hi hp hs hu hn)) (.tail _ (.head _)))) (by decide) (h1.mono fun j hj => hj.2.1) h2
    rw [rx_costE, rx_costN] at h3
    exact h3
  repeat (first | (refine M0 ?_; first | refine SL ?_ | refine SB fun _ _ => ?_ | refine Y4 (Ev.call (f := 20) (ck rfl) rfl (fun w6 S6 => hcost w6 S6 (fun e he => by cases he))) ?_) | (refine M1 ?_; refine SC ?_) | (refine M2 ?_; refine SE ?_))
  refine XL.callF (wE := w) (PlanV [[false, true], [false, false]]) (ck rfl) rfl rfl hF5 hk5 hB5 (fun w1 S1 _ hB1 => Plan_made) (fun w7 x new hR hF7 hB7 hk7 => ?_) (fun e he => by cases he)
  obtain ⟨q3, rfl, rfl⟩ := hR
  have hsame : ∀ {L : Lo} (w8 : World), Sys w.heap.size w7 L w8 → (∀ e, e ∈ L → e.1 ∈ ([] : List Nat) ∨ w7.heap.size ≤ e.1) → Calls Tryz.prog 22 #[svV q, svV q3] w8 fun e w' => e = .returned (.bool true) ∧ Below w8.heap.size w8 w' := fun {L} w8 S8 hL => by
    have F8 := (hF7.add (ks' := []) (fun k hk => by cases hk)).sys S8 hL
    obtain ⟨es, h1, h2⟩ : PlanAt w8 _ q3 [[false, true], [false, false]] := F8.held (hPlan q3 [[false, true], [false, false]]) (.head _)
    obtain ⟨fs, h3, h4⟩ : PlanAt w8 _ q (fdP (bst rxT)) := F8.held (hPlan q (fdP (bst rxT))) (by simp)
    have h5 := SamePlan_any (w := w8) (p := q) (q := q3) (h3.mono fun j hj => hj.2.1) (h1.mono fun j hj => hj.2.1)
    rw [h2, h4, rx_bst, show decide (fdP (some (12, [[false, true], [false, false]])) = [[false, true], [false, false]]) = true from rfl] at h5
    exact h5
  repeat (first | (refine M0 ?_; first | refine SL ?_ | refine SB fun _ _ => ?_ | refine Y4 (Ev.call (f := 22) (ck rfl) rfl (fun w8 S8 => hsame w8 S8 (fun e he => by cases he))) ?_) | (refine M1 ?_; refine SC ?_) | (refine M2 ?_; refine SE ?_))
  refine XE.retg tok Tryz.results5 rfl (by simp only [and_self, and_true]) (fun w' S => ?_)
  exact ⟨rfl, hB7.trans S.toBelow⟩
end Go.Proofs.YtmckmlmfilmiaaaGreatDoor.X
/-
  The walks of asked and Use (runoff).
-/
namespace Go.Proofs.YtmckmlmfilmiaaaGreatDoor.Bs
open Go.Proofs.YtmckmlmfilmiaaaGreatDoor.X
noncomputable def askE7 (t : RTk) (s : Sta) (i : Int) (n : Nat) : Int := if rtE t ≠ 0 then rtE t else if staErr t.b s ≠ 0 then staErr t.b s else if outB i 0 ((t.outer.length : Int) - 1) = true then 4 else if n ≠ t.m then 2 else 0
/-- the error of Use; what runs off, and the energy. -/
noncomputable def useE (t : RTk) (s : Sta) (i : Int) (b f : List Bool) : Int := if askE7 t s i b.length ≠ 0 then askE7 t s i b.length else if f.length ≠ t.m then 2 else match t.use s.vol i.toNat b f with
  | none => 170
  | some _ => 0
noncomputable def useN (t : RTk) (s : Sta) (i : Int) (b f : List Bool) : Int × Int := if useE t s i b f = 0 then (t.use s.vol i.toNat b f).getD (0, 0) else (0, 0)
theorem askE_0 {t : RTk} {s : Sta} {i : Int} {n : Nat} (h : askE7 t s i n = 0) : rtE t = 0 ∧ StaOk t.b s ∧ (0 ≤ i ∧ i < t.outer.length) ∧ n = t.m := by
  unfold askE7 at h
  split at h
  · rename_i h1; exact absurd h h1
  rename_i h1
  split at h
  · rename_i h2; exact absurd h h2
  rename_i h2
  split at h
  · cases h
  rename_i h3
  split at h
  · cases h
  rename_i h4
  have h3' := outB_f.1 (Bool.not_eq_true _ ▸ h3)
  exact ⟨by simpa using h1, (staOk_of (by simpa using h2)).2, by omega, by simpa using h4⟩
end Go.Proofs.YtmckmlmfilmiaaaGreatDoor.Bs
namespace Go.Proofs.YtmckmlmfilmiaaaGreatDoor.X
open Go Go.RowKit Go.Proofs.YtmckmlmfilmiaaaGreatDoor.Bs
set_option linter.unusedVariables false
theorem far27 {g a b : Nat} {x y : Obj} (h1 : g ≠ a) (h2 : g ≠ b) : ∀ e, e ∈ [(a, x), (b, y)] → e.1 ≠ g := fun e he => by
  rcases List.mem_cons.1 he with rfl | he
  · exact fun e => h1 e.symm
  · rw [List.mem_singleton.1 he]; exact fun e => h2 e.symm
def AskV (v : RTV) (t : RTk) (s : Sta) (i : Int) (n : Nat) (x : Value) (new : List Held) : Prop :=
  (askE7 t s i n ≠ 0 ∧ x = .tuple ⟨[.pointer none, .int .i64 (askE7 t s i n)]⟩ ∧ new = []) ∨
  (askE7 t s i n = 0 ∧ ∃ (g gt gm : Nat) (r : SV), x = .tuple ⟨[.pointer (some ⟨g, 0, none⟩), .int .i64 0]⟩ ∧ new = [hPln g gt gm v r t])
theorem ask_no {v : RTV} {t : RTk} {s : Sta} {i : Int} {n : Nat} {e : Int} (h : askE7 t s i n = e) (h0 : e ≠ 0) {w w' : World} (hB : Below w.heap.size w w') : Made w (AskV v t s i n) (.returned (.tuple ⟨[.pointer none, .int .i64 e]⟩)) w' :=
  ⟨_, [], rfl, .inl ⟨by rw [h]; exact h0, by rw [h], rfl⟩, fun x hx => (by cases hx), hB⟩
set_option maxHeartbeats 8000000 in
theorem asked_made {v : RTV} {t : RTk} {sq p : SV} {s : Sta} {i : Int} {n : Nat} {w : World} (ht : TskAt w w.heap.size v t) (hn : t.slu.length + t.pmp.length ≤ 5000000) (hq : IntsAt w (Lt w.heap.size) sq s.fil) (hpn : p.n = n) :
    Calls Tryz.prog 27 #[tskV v t, staV sq s, .int .i64 i, svV p] w (Made w (AskV v t s i n)) := by
  have hbeg := fun (w5 : World) (hB : Below w.heap.size w w5) => begin_made (v := v) (t := t) (w := w5) (ht.sys (Sys.ofBelow hB)) hn
  have hsta := fun (w5 : World) (hB : Below w.heap.size w w5) => checkState_any (p := v.p) (b := t.b) (q := sq) (s := s) (w := w5) (ht.sys (Sys.ofBelow hB)).bas ((hq.keep fun k hk => hB.block k hk).mono fun k hk => Nat.lt_of_lt_of_le hk hB.size)
  have lo := ht.outer.len
  have mo := ht.outer.max
  have hE : askE7 t s i n = if rtE t ≠ 0 then rtE t else if staErr t.b s ≠ 0 then staErr t.b s else if outB i 0 ((t.outer.length : Int) - 1) = true then 4 else if n ≠ t.m then 2 else 0 := rfl
  obtain ⟨Ap, np, cp⟩ := p
  simp only at hpn
  subst hpn
  simp only [tskV, tskC, svV, staV, staC, basV, basC] at hbeg hsta ⊢
  refine enter Tryz.func27 rfl Tryz.ntmps27 rfl ?_; simp only [frame, Nat.zero_add, Nat.reduceAdd]
  repeat (first | (refine M0 ?_; first | refine SL ?_ | refine SB fun _ _ => ?_) | (refine M1 ?_; refine SC ?_) | (refine M2 ?_; refine SE ?_))
  rename_i g4 hg4 g5 hg5
  refine XL.rebase (List.Sublist.refl _) (fun W0 S0 => ?_)
  refine XL.callF (ks := [g5, g4]) (rs := []) (hs := []) (b0 := w.heap.size) (wE := w) (BegV v t) (ck rfl) rfl rfl (Fam.start S0.size) (fun k hk => S0.keyLt k hk) S0.toBelow (fun w1 S1 _ hB1 => hbeg w1 hB1) (fun w2 x new hR hF2 hB2 hk2 => ?_) ZZHL
  rcases hR with ⟨h0, rfl, rfl⟩ | ⟨h0, g, gt, gm, r, rfl, rfl⟩
  · rw [if_pos h0] at hE
    repeat (first | (refine M0 ?_; first | refine SL ?_ | refine SB fun _ _ => ?_) | (refine M1 ?_; refine SC ?_) | (refine M2 ?_; refine SE ?_))
    rw [show decide (rtE t = 0) = false from decide_eq_false h0]
    repeat (first | (refine M0 ?_; first | refine SL ?_ | refine SB fun _ _ => ?_) | (refine M1 ?_; refine SC ?_) | (refine M2 ?_; refine SE ?_))
    rw [show decide (rtE t ≠ 0) = true from decide_eq_true h0]
    repeat (first | (refine M0 ?_; first | refine SL ?_ | refine SB fun _ _ => ?_) | (refine M1 ?_; refine SC ?_) | (refine M2 ?_; refine SE ?_))
    refine XE.retg tok Tryz.results27 rfl (by simp only [and_self, and_true]) (fun w' S => ?_)
    exact ask_no hE h0 (hB2.trans S.toBelow)
  rw [if_neg (by simp [h0])] at hE
  repeat (first | (refine M0 ?_; first | refine SL ?_ | refine SB fun _ _ => ?_ | refine Y4 (Ev.call (f := 11) (ck rfl) rfl (fun w5 S5 => hsta w5 (hB2.trans S5.toBelow))) ?_) | (refine M1 ?_; refine SC ?_) | (refine M2 ?_; refine SE ?_))
  by_cases h1 : staErr t.b s = 0
  rotate_left
  · rw [if_pos h1] at hE
    rw [show decide (staErr t.b s ≠ 0) = true from decide_eq_true h1]
    repeat (first | (refine M0 ?_; first | refine SL ?_ | refine SB fun _ _ => ?_) | (refine M1 ?_; refine SC ?_) | (refine M2 ?_; refine SE ?_))
    refine XE.retg tok Tryz.results27 rfl (by simp only [and_self, and_true]) (fun w' S => ?_)
    exact ask_no hE h1 (hB2.trans S.toBelow)
  rw [if_neg (by simp [h1])] at hE
  rw [show decide (staErr t.b s ≠ 0) = false from decide_eq_false (fun h => h h1)]
  cases h2 : outB i 0 ((t.outer.length : Int) - 1) with
  | true =>
    rw [h2, if_pos rfl] at hE
    rw [← lo] at h2
    repeat (first | (refine M0 ?_; first | refine SL ?_ | refine SB fun _ _ => ?_ | refine Y4 (Ev.call (f := 12) (ck rfl) rfl (fun w5 S5 => outP h2 w5)) ?_) | (refine M1 ?_; refine SC ?_) | (refine M2 ?_; refine SE ?_))
    refine XE.retg tok Tryz.results27 rfl (by simp only [and_self, and_true]) (fun w' S => ?_)
    exact ask_no hE (by decide) (hB2.trans S.toBelow)
  | false =>
  rw [h2, if_neg (by decide)] at hE
  rw [← lo] at h2
  have hp2 : Pln0 w2 _ g gt gm v r t := hF2.held (hPln g gt gm v r t) (.head _)
  obtain ⟨hlg, hc⟩ := plnCell hp2.p
  have hn15 : r.n = t.m := hp2.p.all.len (by decide)
  have c15 : w2.cell? ⟨g, 15, none⟩ = some (.slice r.A r.n r.c) := hc 15 _ rfl
  have hge := hp2.p.kg.1
  have hg5' : g ≠ g5 := fun e => hge.2.2.1 (by rw [e]; simp)
  have hg4' : g ≠ g4 := fun e => hge.2.2.1 (by rw [e]; simp)
  repeat (first | (refine M0 ?_; first | refine SL ?_ | refine SB fun _ _ => ?_ | refine Y4 (Ev.call (f := 12) (ck rfl) rfl (fun w5 S5 => outP h2 w5)) ?_ | refine Y4 (Ev.load_far tok rfl rfl hlg (far27 hg5' hg4') c15) ?_) | (refine M1 ?_; refine SC ?_) | (refine M2 ?_; refine SE ?_))
  refine XC.cond _ rfl (fun h3 => ?_) (fun h3 => ?_)
  · have h3' : np ≠ t.m := by have := of_decide_eq_true h3; omega
    rw [if_pos h3'] at hE
    repeat (first | (refine M0 ?_; first | refine SL ?_ | refine SB fun _ _ => ?_) | (refine M1 ?_; refine SC ?_) | (refine M2 ?_; refine SE ?_))
    refine XE.retg tok Tryz.results27 rfl (by simp only [and_self, and_true]) (fun w' S => ?_)
    exact ask_no hE (by decide) (hB2.trans S.toBelow)
  have h3' : np = t.m := by have := of_decide_eq_false h3; omega
  rw [if_neg (by simp [h3'])] at hE
  repeat (first | (refine M0 ?_; first | refine SL ?_ | refine SB fun _ _ => ?_) | (refine M1 ?_; refine SC ?_) | (refine M2 ?_; refine SE ?_))
  refine XE.retg tok Tryz.results27 rfl (by simp only [and_self, and_true]) (fun w' S => ?_)
  refine ⟨_, _, rfl, .inr ⟨hE, g, gt, gm, r, rfl, rfl⟩, fun x hx => ?_, hB2.trans S.toBelow⟩
  rw [List.mem_singleton.1 hx]
  exact (hF2.sys S ZZHL).get (.head _)
set_option maxHeartbeats 8000000 in
theorem Use_any {v : RTV} {t : RTk} {sq p q : SV} {s : Sta} {i : Int} {b f : List Bool} {w : World} (ht : TskAt w w.heap.size v t) (hn : t.slu.length + t.pmp.length ≤ 5000000) (hq : IntsAt w (Lt w.heap.size) sq s.fil) (hb : ListAt boolK w (Lt w.heap.size) p b) (hf : ListAt boolK w (Lt w.heap.size) q f) :
    Calls Tryz.prog 8 #[tskV v t, staV sq s, .int .i64 i, svV p, svV q] w fun e w' => e = .returned (.tuple ⟨[.int .i64 (useN t s i b f).1, .int .i64 (useN t s i b f).2, .int .i64 (useE t s i b f)]⟩) ∧ Below w.heap.size w w' := by
  have hpn := hb.len (by decide)
  have hqn := hf.len (by decide)
  have hask := fun (w5 : World) (hB : Below w.heap.size w w5) => asked_made (v := v) (t := t) (w := w5) (sq := sq) (s := s) (i := i) (p := p) (n := b.length) (ht.sys (Sys.ofBelow hB)) hn ((hq.keep fun k hk => hB.block k hk).mono fun k hk => Nat.lt_of_lt_of_le hk hB.size) hpn
  have huse := fun (w5 : World) (hB : Below w.heap.size w w5) {g gt gm : Nat} {r : SV} (h0 : RtOk t) (hp : PlnAt w5 (Lt w5.heap.size) g gt gm v r t) (hx : (t.b.row 0).vol ≤ s.vol ∧ s.vol ≤ 1000000000) {j : Nat} (hj : j < t.outer.length) (h1 : b.length = t.devs.length) (h2 : f.length = t.devs.length) => use_any (x := s.vol) (i := j) hp (ht.sys (Sys.ofBelow hB)) h0 hx hj ((hb.keep fun k hk => hB.block k hk).mono fun k hk => Nat.lt_of_lt_of_le hk hB.size) h1 ((hf.keep fun k hk => hB.block k hk).mono fun k hk => Nat.lt_of_lt_of_le hk hB.size) h2
  have hE : useE t s i b f = if askE7 t s i b.length ≠ 0 then askE7 t s i b.length else if f.length ≠ t.m then 2 else match t.use s.vol i.toNat b f with
    | none => 170
    | some _ => 0 := rfl
  have hN : useN t s i b f = if useE t s i b f = 0 then (t.use s.vol i.toNat b f).getD (0, 0) else (0, 0) := rfl
  obtain ⟨Ap, np, cp⟩ := p
  obtain ⟨Aq, nq, cq⟩ := q
  simp only at hpn hqn
  subst hpn hqn
  simp only [tskV, tskC, svV, staV, staC] at hask huse ⊢
  refine enter Tryz.func8 rfl Tryz.ntmps8 rfl ?_; simp only [frame, Nat.zero_add, Nat.reduceAdd]
  repeat (first | (refine M0 ?_; first | refine SL ?_ | refine SB fun _ _ => ?_) | (refine M1 ?_; refine SC ?_) | (refine M2 ?_; refine SE ?_))
  rename_i g5 hg5 g6 hg6
  refine XL.rebase (List.Sublist.refl _) (fun W0 S0 => ?_)
  refine XL.callF (ks := [g6, g5]) (rs := []) (hs := []) (b0 := w.heap.size) (wE := w) (AskV v t s i b.length) (ck rfl) rfl rfl (Fam.start S0.size) (fun k hk => S0.keyLt k hk) S0.toBelow (fun w1 S1 _ hB1 => hask w1 hB1) (fun w2 x new hR hF2 hB2 hk2 => ?_) ZZHL
  rcases hR with ⟨h0, rfl, rfl⟩ | ⟨h0, g, gt, gm, r, rfl, rfl⟩
  · rw [if_pos h0] at hE
    rw [if_neg (by rw [hE]; exact h0)] at hN
    repeat (first | (refine M0 ?_; first | refine SL ?_ | refine SB fun _ _ => ?_) | (refine M1 ?_; refine SC ?_) | (refine M2 ?_; refine SE ?_))
    refine XC.cond _ rfl (fun h1 => ?_) (fun h1 => absurd (by simpa using h1) h0)
    repeat (first | (refine M0 ?_; first | refine SL ?_ | refine SB fun _ _ => ?_) | (refine M1 ?_; refine SC ?_) | (refine M2 ?_; refine SE ?_))
    refine XE.retg tok Tryz.results8 rfl (by simp only [and_self, and_true]) (fun w' S => ?_)
    rw [hN, hE]
    exact ⟨rfl, hB2.trans S.toBelow⟩
  rw [if_neg (by simp [h0])] at hE
  obtain ⟨hr0, hst, hi, hbl⟩ := askE_0 h0
  have ho := rtOk_of hr0
  have hp2 : Pln0 w2 _ g gt gm v r t := hF2.held (hPln g gt gm v r t) (.head _)
  obtain ⟨hlg, hc⟩ := plnCell hp2.p
  have hn15 : r.n = t.m := hp2.p.all.len (by decide)
  have c15 : w2.cell? ⟨g, 15, none⟩ = some (.slice r.A r.n r.c) := hc 15 _ rfl
  have hge := hp2.p.kg.1
  have hg5' : g ≠ g6 := fun e => hge.2.2.1 (by rw [e]; simp)
  have hg4' : g ≠ g5 := fun e => hge.2.2.1 (by rw [e]; simp)
  repeat (first | (refine M0 ?_; first | refine SL ?_ | refine SB fun _ _ => ?_ | refine Y4 (Ev.load_far tok rfl rfl hlg (far27 hg5' hg4') c15) ?_) | (refine M1 ?_; refine SC ?_) | (refine M2 ?_; refine SE ?_))
  refine XC.cond _ rfl (fun h1 => ?_) (fun h1 => ?_)
  · have h1' : f.length ≠ t.m := by have := of_decide_eq_true h1; omega
    rw [if_pos h1'] at hE
    rw [if_neg (by rw [hE]; decide)] at hN
    repeat (first | (refine M0 ?_; first | refine SL ?_ | refine SB fun _ _ => ?_) | (refine M1 ?_; refine SC ?_) | (refine M2 ?_; refine SE ?_))
    refine XE.retg tok Tryz.results8 rfl (by simp only [and_self, and_true]) (fun w' S => ?_)
    rw [hN, hE]
    exact ⟨rfl, hB2.trans S.toBelow⟩
  have h1' : f.length = t.m := by have := of_decide_eq_false h1; omega
  rw [if_neg (by simp [h1'])] at hE
  obtain ⟨j, rfl⟩ : ∃ j : Nat, i = j := ⟨i.toNat, by omega⟩
  have hj : j < t.outer.length := by omega
  rw [Int.toNat_natCast] at hE hN
  have hu := fun {L : Lo} (w5 : World) (S5 : Sys w.heap.size w2 L w5) (hL5 : ∀ e, e ∈ L → e.1 ∈ [g6, g5] ∨ w2.heap.size ≤ e.1) => huse w5 (hB2.trans S5.toBelow) (r := r) ho (((hF2.sys S5 (fun e he => (hL5 e he).imp (fun h => List.mem_append_right _ h) id)).get (x := hPln g gt gm v r t) (.head _)).p.mono fun k hk => hk.1.2) hst.vol hj hbl h1'
  repeat (first | (refine M0 ?_; first | refine SL ?_ | refine SB fun _ _ => ?_) | (refine M1 ?_; refine SC ?_) | (refine M2 ?_; refine SE ?_))
  refine XL.step _ (Ev.call (f := 29) (ck rfl) rfl (fun w5 S5 => hu w5 S5 ZZHL)) rfl ?_
  cases hU : t.use s.vol j b f with
  | none =>
    rw [hU] at hE
    simp only at hE
    rw [if_neg (by rw [hE]; decide)] at hN
    simp only [useV]
    repeat (first | (refine M0 ?_; first | refine SL ?_ | refine SB fun _ _ => ?_) | (refine M1 ?_; refine SC ?_) | (refine M2 ?_; refine SE ?_))
    refine XE.retg tok Tryz.results8 rfl (by simp only [and_self, and_true]) (fun w' S => ?_)
    rw [hN, hE]
    exact ⟨rfl, hB2.trans S.toBelow⟩
  | some y =>
    rw [hU] at hE hN
    simp only at hE
    rw [if_pos hE] at hN
    simp only [useV]
    repeat (first | (refine M0 ?_; first | refine SL ?_ | refine SB fun _ _ => ?_) | (refine M1 ?_; refine SC ?_) | (refine M2 ?_; refine SE ?_))
    refine XE.retg tok Tryz.results8 rfl (by simp only [and_self, and_true]) (fun w' S => ?_)
    rw [hN, hE]
    exact ⟨rfl, hB2.trans S.toBelow⟩
end Go.Proofs.YtmckmlmfilmiaaaGreatDoor.X
/-
  The walk of Cheapest (runoff).
-/
namespace Go.Proofs.YtmckmlmfilmiaaaGreatDoor.Bs
open Go.Proofs.YtmckmlmfilmiaaaGreatDoor.X
/-- a choice and its energy. -/
abbrev Ch := Option (Int × List Bool)
def chE (x : Ch) : Int := (x.map (·.1)).getD 0
def chL (x : Ch) : List Bool := (x.map (·.2)).getD []
def cheU (ls : Int) (best : Ch) (u : Option (Int × Int)) (f : List Bool) : Ch :=
  match u with
  | none => best
  | some y => if ls ≤ y.1 ∧ (best.isSome = true → y.2 < chE best) then some (y.2, f) else best
/-- the cheapest of the first i choices. -/
def cheB (t : RTk) (s : Sta) (j : Nat) (b : List Bool) (ls : Int) : Nat → Ch
  | 0 => none
  | i + 1 => cheU ls (cheB t s j b ls i) (t.use s.vol j b (chc t.m i)) (chc t.m i)
noncomputable def cheE (t : RTk) (s : Sta) (i : Int) (b : List Bool) (ls : Int) : Int := if askE7 t s i b.length ≠ 0 then askE7 t s i b.length else if outB ls 0 10000000 = true then 7 else if (cheB t s i.toNat b ls (2 ^ t.m)).isSome = true then 0 else 9
noncomputable def cheR (t : RTk) (s : Sta) (i : Int) (b : List Bool) (ls : Int) : Ch := if cheE t s i b ls = 0 then cheB t s i.toNat b ls (2 ^ t.m) else none
end Go.Proofs.YtmckmlmfilmiaaaGreatDoor.Bs
namespace Go.Proofs.YtmckmlmfilmiaaaGreatDoor.X
open Go Go.RowKit Go.Proofs.YtmckmlmfilmiaaaGreatDoor.Bs
set_option linter.unusedVariables false
def CheV (t : RTk) (s : Sta) (i : Int) (b : List Bool) (ls : Int) (x : Value) (new : List Held) : Prop := ∃ q : SV, x = .tuple ⟨[svV q, .int .i64 (chE (cheR t s i b ls)), .int .i64 (cheE t s i b ls)]⟩ ∧ new = [hList boolK q (chL (cheR t s i b ls))]
theorem che_no {t : RTk} {s : Sta} {i : Int} {b : List Bool} {ls e : Int} (h : cheE t s i b ls = e) (h0 : e ≠ 0) {w w' : World} (hB : Below w.heap.size w w') : Made w (CheV t s i b ls) (.returned (.tuple ⟨[.slice none 0 0, .int .i64 0, .int .i64 e]⟩)) w' :=
  ⟨_, _, rfl, ⟨⟨none, 0, 0⟩, by unfold cheR; rw [h, if_neg h0]; rfl, rfl⟩, fun x hx => by
    rw [List.mem_singleton.1 hx]; unfold cheR; rw [h, if_neg h0]; exact ListAt.nil, hB⟩
abbrev KC (l D g14 g13 g11 g10 g9 g8 g7 g6 g5 : Nat) : List Nat := [l, D, g14, g13, g11, g10, g9, g8, g7, g6, g5]
abbrev LC (l D g14 g13 g11 g10 g9 g8 g7 g6 g5 : Nat) (r0 : Loop) (o5 : Obj) (g : Nat) (best : Ch) (q p : SV) (ls : Int) (j : Nat) (sq : SV) (s : Sta) : Lo :=
  [(l, .loop r0), (D, .deferred (some [])), (g14, cel 4 [.bool best.isSome]), (g13, cel 77 [.pointer (some ⟨g, 0, none⟩)]), (g11, cel 3 [.int .i64 (chE best)]), (g10, cel 31 [svV q]), (g9, cel 3 [.int .i64 ls]), (g8, cel 31 [svV p]), (g7, cel 3 [.int .i64 (j : Nat)]), (g6, cel 28 (staC sq s)), (g5, o5)]
abbrev oneC (tmps : Array Value) (v : Value) : Array Value := ((#[36] : Array Tmp).zip #[v]).foldl (fun s (p, y) => s.setIfInBounds p y) tmps
theorem LC_key {l D g14 g13 g11 g10 g9 g8 g7 g6 g5 : Nat} {r0 : Loop} {o5 : Obj} {g : Nat} {best : Ch} {q p : SV} {ls : Int} {j : Nat} {sq : SV} {s : Sta} {e : Nat × Obj} (he : e ∈ LC l D g14 g13 g11 g10 g9 g8 g7 g6 g5 r0 o5 g best q p ls j sq s) : e.1 ∈ KC l D g14 g13 g11 g10 g9 g8 g7 g6 g5 := by
  have := List.mem_map_of_mem (f := Prod.fst) he
  exact this
set_option maxHeartbeats 16000000 in
set_option maxRecDepth 10000 in
theorem che_round {l D g14 g13 g11 g10 g9 g8 g7 g6 g5 g gt gm j gn n : Nat} {t : RTk} {v : RTV} {r sq p q : SV} {s : Sta} {before on : List Bool} {best : Ch} {ls : Int} {w W w1 : World} {fn : FuncId} {a : Act} {assign body : Code} {o5 : Obj} {c : Code}
    (ho : RtOk t) (hx : (t.b.row 0).vol ≤ s.vol ∧ s.vol ≤ 1000000000) (hj : j < t.outer.length) (hbl : before.length = t.m) (hon : on.length = t.m)
    (hT : TskAt w w.heap.size v t) (hb : ListAt boolK w (Lt w.heap.size) p before) (hB : Below w.heap.size w W)
    (hF : Fam W w.heap.size (KC l D g14 g13 g11 g10 g9 g8 g7 g6 g5) [] [hList boolK ⟨some ⟨gn, 0, none⟩, t.m, t.m⟩ on, hPln g gt gm v r t, hList boolK q (chL best)]) (hks : ∀ x, x ∈ KC l D g14 g13 g11 g10 g9 g8 g7 g6 g5 → x < W.heap.size)
    (hc : Tryz.f7.body = some c) (hr : rfOf2 c = some (assign, body))
    (hf : Fits 69 [] [(13, .pointer (some ⟨g13, 0, none⟩)), (6, .pointer (some ⟨g6, 0, none⟩)), (7, .pointer (some ⟨g7, 0, none⟩)), (8, .pointer (some ⟨g8, 0, none⟩)), (9, .pointer (some ⟨g9, 0, none⟩)), (10, .pointer (some ⟨g10, 0, none⟩)), (11, .pointer (some ⟨g11, 0, none⟩)), (14, .pointer (some ⟨g14, 0, none⟩))] a)
    (S : Sys w.heap.size W (LC l D g14 g13 g11 g10 g9 g8 g7 g6 g5 (recO fn a.tmps #[36] assign body D .ready none) o5 g best q p ls j sq s) w1) :
    (Instr.yield l (#[.slice (some ⟨gn, 0, none⟩) t.m t.m] : Array Value)).run Tryz.prog w1 = .ok (.round l fn (oneC a.tmps (.slice (some ⟨gn, 0, none⟩) t.m t.m)) assign body) w1 ∧
    RoundIn Fence.wide n Tryz.prog l fn (oneC a.tmps (.slice (some ⟨gn, 0, none⟩) t.m t.m)) assign body w1 fun e1 w' => ∃ u, e1 = .returned u ∧ u = .bool true ∧
      ∃ q', Fam w' w.heap.size (KC l D g14 g13 g11 g10 g9 g8 g7 g6 g5) [] [hPln g gt gm v r t, hList boolK q' (chL (cheU ls best (t.use s.vol j before on) on))] ∧ Sys w.heap.size W (LC l D g14 g13 g11 g10 g9 g8 g7 g6 g5 (recO fn a.tmps #[36] assign body D .ready none) o5 g (cheU ls best (t.use s.vol j before on) on) q' p ls j sq s) w' := by
  have hloop := (S.own _ List.mem_cons_self).2
  obtain ⟨ks, hks1⟩ : ∃ ks, ks = KC l D g14 g13 g11 g10 g9 g8 g7 g6 g5 := ⟨_, rfl⟩
  rw [← hks1] at hF hks ⊢
  have m1 : l ∈ ks := by rw [hks1]; simp
  have m2 : D ∈ ks := by rw [hks1]; simp
  have m3 : g14 ∈ ks := by rw [hks1]; simp
  have m4 : g13 ∈ ks := by rw [hks1]; simp
  have m5 : g11 ∈ ks := by rw [hks1]; simp
  have m6 : g10 ∈ ks := by rw [hks1]; simp
  have m7 : g9 ∈ ks := by rw [hks1]; simp
  have m8 : g8 ∈ ks := by rw [hks1]; simp
  have m9 : g7 ∈ ks := by rw [hks1]; simp
  have m10 : g6 ∈ ks := by rw [hks1]; simp
  have m11 : g5 ∈ ks := by rw [hks1]; simp
  clear hks1
  have hdl := t.devs_len
  have hu := fun {L : Lo} (w5 : World) (S5 : Sys w.heap.size W L w5) (hL5 : ∀ e, e ∈ L → e.1 ∈ ks ∨ W.heap.size ≤ e.1) => use_any (x := s.vol) (i := j) (before := before) (on := on) (p := p) (q := ⟨some ⟨gn, 0, none⟩, t.m, t.m⟩) (((hF.sys S5 hL5).get (x := hPln g gt gm v r t) (.tail _ (.head _))).p.mono fun k hk => hk.1.2) (hT.sys (Sys.ofBelow (hB.trans S5.toBelow))) ho hx hj ((hb.keep fun k hk => (hB.trans S5.toBelow).block k hk).mono fun k hk => Nat.lt_of_lt_of_le hk (hB.trans S5.toBelow).size) hbl (((hF.sys S5 hL5).held (hList boolK ⟨some ⟨gn, 0, none⟩, t.m, t.m⟩ on) (.head _)).mono fun j hj => hj.2.1) hon
  refine ⟨run_yield (args := #[.slice (some ⟨gn, 0, none⟩) t.m t.m]) hloop rfl, ?_⟩
  obtain ⟨r0, hr0, hr1, hr2⟩ : ∃ r0, recO fn a.tmps #[36] assign body D .ready none = r0 ∧ r0.state = .ready ∧ r0.pending = none := ⟨_, rfl, rfl, rfl⟩
  rw [hr0] at S ⊢
  clear hloop hr0
  have hr3 : { { r0 with state := .busy } with state := .ready, pending := none } = r0 := by
    cases r0; simp only at hr1 hr2; subst hr1 hr2; rfl
  have e1 : Tryz.f7.body = some _ := rfl
  rw [e1] at hc
  cases hc
  simp only [rfOf2, Option.some.injEq, Prod.mk.injEq] at hr
  obtain ⟨rfl, rfl⟩ := hr
  clear e1
  refine round_of (((((((((hf.params1 rfl).hint 6 (.slice none 1 0)).hint 7 (.slice none 2 0)).hint 8 (.slice none 3 0)).hint 9 (.slice none 4 0)).hint 10 (.slice none 5 0)).hint 11 (.slice none 6 0)).hint 13 (.slice none 7 0)).hint 14 (.slice none 8 0)) S ?_
  simp only [LC, staC, svV] at hu ⊢
  repeat (first | (refine M0 ?_; first | refine SL ?_ | refine SB fun _ _ => ?_) | (refine XI.id ?_; first | refine XI.done ?_ | refine XI.one1 rfl ?_) | (refine XR'.id ?_; first | refine XR'.seq ?_ | refine XR'.region ?_ | refine XR'.block ?_ | refine XR'.skip ?_ | refine XR'.ret ?_ | refine XR'.cond_t rfl ?_ | refine XR'.cond_f rfl ?_ | refine XR'.exit ?_) | (refine M1 ?_; first | refine SC ?_ | refine SD ?_) | (refine M2 ?_; first | refine XE.nextI ?_ | refine XE.nextR ?_ | refine SE ?_))
  refine XE.begin (i := 0) rfl hr1 rfl ?_
  repeat (first | (refine M0 ?_; first | refine SL ?_ | refine SB fun _ _ => ?_) | (refine XI.id ?_; first | refine XI.done ?_ | refine XI.one1 rfl ?_) | (refine XR'.id ?_; first | refine XR'.seq ?_ | refine XR'.region ?_ | refine XR'.block ?_ | refine XR'.skip ?_ | refine XR'.ret ?_ | refine XR'.cond_t rfl ?_ | refine XR'.cond_f rfl ?_ | refine XR'.exit ?_) | (refine M1 ?_; first | refine SC ?_ | refine SD ?_) | (refine M2 ?_; first | refine XE.nextI ?_ | refine XE.nextR ?_ | refine SE ?_))
  refine XL.step _ (Ev.call (f := 29) (ck rfl) rfl (fun w5 S5 => hu w5 S5 ZZHM)) rfl ?_
  have hend : ∀ (q' : SV) (b' : Ch) (w' : World), cheU ls best (t.use s.vol j before on) on = b' → Sys w.heap.size W (LC l D g14 g13 g11 g10 g9 g8 g7 g6 g5 r0 o5 g b' q' p ls j sq s) w' → (hList boolK q' (chL b') = hList boolK q (chL best) ∨ hList boolK q' (chL b') = hList boolK ⟨some ⟨gn, 0, none⟩, t.m, t.m⟩ on) →
      ∃ u, Ending.returned (.bool true) = .returned u ∧ u = .bool true ∧ ∃ q', Fam w' w.heap.size ks [] [hPln g gt gm v r t, hList boolK q' (chL (cheU ls best (t.use s.vol j before on) on))] ∧ Sys w.heap.size W (LC l D g14 g13 g11 g10 g9 g8 g7 g6 g5 r0 o5 g (cheU ls best (t.use s.vol j before on) on) q' p ls j sq s) w' := fun q' b' w' e1 S' h => by
    rw [e1]
    refine ⟨_, rfl, rfl, q', Fam.forget (hF.sys S' ZZHM) (fun x hx => ?_), S'⟩
    rcases List.mem_cons.1 hx with rfl | hx
    · simp
    · rw [List.mem_singleton.1 hx]
      rcases h with h | h <;> rw [h] <;> simp
  obtain ⟨U, hU⟩ : ∃ U, U = t.use s.vol j before on := ⟨_, rfl⟩
  rw [← hU] at hend ⊢
  cases U with
  | none =>
    simp only [useV]
    repeat (first | (refine M0 ?_; first | refine SL ?_ | refine SB fun _ _ => ?_) | (refine XI.id ?_; first | refine XI.done ?_ | refine XI.one1 rfl ?_) | (refine XR'.id ?_; first | refine XR'.seq ?_ | refine XR'.region ?_ | refine XR'.block ?_ | refine XR'.skip ?_ | refine XR'.ret ?_ | refine XR'.cond_t rfl ?_ | refine XR'.cond_f rfl ?_ | refine XR'.exit ?_) | (refine M1 ?_; first | refine SC ?_ | refine SD ?_) | (refine M2 ?_; first | refine XE.nextI ?_ | refine XE.nextR ?_ | refine SE ?_))
    refine XE.endR (i := 0) rfl rfl (fun w' S' => ?_)
    simp only [hr3] at S'
    exact hend q best w' rfl S' (.inl rfl)
  | some y =>
  obtain ⟨of, en⟩ := y
  have hE : cheU ls best (some (of, en)) on = if ls ≤ of ∧ (best.isSome = true → en < chE best) then some (en, on) else best := rfl
  simp only [useV]
  repeat (first | (refine M0 ?_; first | refine SL ?_ | refine SB fun _ _ => ?_) | (refine XI.id ?_; first | refine XI.done ?_ | refine XI.one1 rfl ?_) | (refine XR'.id ?_; first | refine XR'.seq ?_ | refine XR'.region ?_ | refine XR'.block ?_ | refine XR'.skip ?_ | refine XR'.ret ?_ | refine XR'.cond_t rfl ?_ | refine XR'.cond_f rfl ?_ | refine XR'.exit ?_) | (refine M1 ?_; first | refine SC ?_ | refine SD ?_) | (refine M2 ?_; first | refine XE.nextI ?_ | refine XE.nextR ?_ | refine SE ?_))
  by_cases h1 : ls ≤ of
  rotate_left
  · rw [show decide (ls ≤ of) = false from decide_eq_false h1]
    rw [if_neg (fun h => h1 h.1)] at hE
    repeat (first | (refine M0 ?_; first | refine SL ?_ | refine SB fun _ _ => ?_) | (refine XI.id ?_; first | refine XI.done ?_ | refine XI.one1 rfl ?_) | (refine XR'.id ?_; first | refine XR'.seq ?_ | refine XR'.region ?_ | refine XR'.block ?_ | refine XR'.skip ?_ | refine XR'.ret ?_ | refine XR'.cond_t rfl ?_ | refine XR'.cond_f rfl ?_ | refine XR'.exit ?_) | (refine M1 ?_; first | refine SC ?_ | refine SD ?_) | (refine M2 ?_; first | refine XE.nextI ?_ | refine XE.nextR ?_ | refine SE ?_))
    refine XE.endR (i := 0) rfl rfl (fun w' S' => ?_)
    simp only [hr3] at S'
    exact hend q best w' hE S' (.inl rfl)
  rw [show decide (ls ≤ of) = true from decide_eq_true h1]
  obtain ⟨bs, hbs⟩ : ∃ bs, bs = best.isSome := ⟨_, rfl⟩
  obtain ⟨e0, he0⟩ : ∃ e0, e0 = chE best := ⟨_, rfl⟩
  rw [← hbs, ← he0] at hE ⊢
  cases bs with
  | false =>
    rw [if_pos ⟨h1, fun h => by cases h⟩] at hE
    repeat (first | (refine M0 ?_; first | refine SL ?_ | refine SB fun _ _ => ?_) | (refine XI.id ?_; first | refine XI.done ?_ | refine XI.one1 rfl ?_) | (refine XR'.id ?_; first | refine XR'.seq ?_ | refine XR'.region ?_ | refine XR'.block ?_ | refine XR'.skip ?_ | refine XR'.ret ?_ | refine XR'.cond_t rfl ?_ | refine XR'.cond_f rfl ?_ | refine XR'.exit ?_) | (refine M1 ?_; first | refine SC ?_ | refine SD ?_) | (refine M2 ?_; first | refine XE.nextI ?_ | refine XE.nextR ?_ | refine SE ?_))
    refine XE.endR (i := 0) rfl rfl (fun w' S' => ?_)
    simp only [hr3] at S'
    exact hend ⟨some ⟨gn, 0, none⟩, t.m, t.m⟩ (some (en, on)) w' hE S' (.inr rfl)
  | true =>
  by_cases h2 : en < e0
  · rw [if_pos ⟨h1, fun _ => h2⟩] at hE
    repeat (first | (refine M0 ?_; first | refine SL ?_ | refine SB fun _ _ => ?_) | (refine XI.id ?_; first | refine XI.done ?_ | refine XI.one1 rfl ?_) | (refine XR'.id ?_; first | refine XR'.seq ?_ | refine XR'.region ?_ | refine XR'.block ?_ | refine XR'.skip ?_ | refine XR'.ret ?_ | refine XR'.cond_t rfl ?_ | refine XR'.cond_f rfl ?_ | refine XR'.exit ?_) | (refine M1 ?_; first | refine SC ?_ | refine SD ?_) | (refine M2 ?_; first | refine XE.nextI ?_ | refine XE.nextR ?_ | refine SE ?_))
    rw [show decide (en < e0) = true from decide_eq_true h2]
    repeat (first | (refine M0 ?_; first | refine SL ?_ | refine SB fun _ _ => ?_) | (refine XI.id ?_; first | refine XI.done ?_ | refine XI.one1 rfl ?_) | (refine XR'.id ?_; first | refine XR'.seq ?_ | refine XR'.region ?_ | refine XR'.block ?_ | refine XR'.skip ?_ | refine XR'.ret ?_ | refine XR'.cond_t rfl ?_ | refine XR'.cond_f rfl ?_ | refine XR'.exit ?_) | (refine M1 ?_; first | refine SC ?_ | refine SD ?_) | (refine M2 ?_; first | refine XE.nextI ?_ | refine XE.nextR ?_ | refine SE ?_))
    refine XE.endR (i := 0) rfl rfl (fun w' S' => ?_)
    simp only [hr3] at S'
    exact hend ⟨some ⟨gn, 0, none⟩, t.m, t.m⟩ (some (en, on)) w' hE S' (.inr rfl)
  · rw [if_neg (fun h => h2 (h.2 rfl))] at hE
    repeat (first | (refine M0 ?_; first | refine SL ?_ | refine SB fun _ _ => ?_) | (refine XI.id ?_; first | refine XI.done ?_ | refine XI.one1 rfl ?_) | (refine XR'.id ?_; first | refine XR'.seq ?_ | refine XR'.region ?_ | refine XR'.block ?_ | refine XR'.skip ?_ | refine XR'.ret ?_ | refine XR'.cond_t rfl ?_ | refine XR'.cond_f rfl ?_ | refine XR'.exit ?_) | (refine M1 ?_; first | refine SC ?_ | refine SD ?_) | (refine M2 ?_; first | refine XE.nextI ?_ | refine XE.nextR ?_ | refine SE ?_))
    rw [show decide (en < e0) = false from decide_eq_false h2]
    repeat (first | (refine M0 ?_; first | refine SL ?_ | refine SB fun _ _ => ?_) | (refine XI.id ?_; first | refine XI.done ?_ | refine XI.one1 rfl ?_) | (refine XR'.id ?_; first | refine XR'.seq ?_ | refine XR'.region ?_ | refine XR'.block ?_ | refine XR'.skip ?_ | refine XR'.ret ?_ | refine XR'.cond_t rfl ?_ | refine XR'.cond_f rfl ?_ | refine XR'.exit ?_) | (refine M1 ?_; first | refine SC ?_ | refine SD ?_) | (refine M2 ?_; first | refine XE.nextI ?_ | refine XE.nextR ?_ | refine SE ?_))
    refine XE.endR (i := 0) rfl rfl (fun w' S' => ?_)
    simp only [hr3] at S'
    refine hend q best w' hE ?_ (.inl rfl)
    simp only [LC, staC, svV]
    rw [← hbs, ← he0]
    exact S'
end Go.Proofs.YtmckmlmfilmiaaaGreatDoor.X
/-
  The walk of Cheapest (runoff).
-/
namespace Go.Proofs.YtmckmlmfilmiaaaGreatDoor.X
open Go Go.RowKit Go.Proofs.YtmckmlmfilmiaaaGreatDoor.Bs
set_option linter.unusedVariables false
def CheJ (v : RTV) (r : SV) (t : RTk) (s : Sta) (j : Nat) (b : List Bool) (ls : Int) (g gt gm : Nat) (ks : List Nat) (w : World) (i : Nat) (z : World × SV × Ch) : Prop :=
  Below w.heap.size w z.1 ∧ Fam z.1 w.heap.size ks [] [hPln g gt gm v r t, hList boolK z.2.1 (chL z.2.2)] ∧ (∀ x, x ∈ ks → x < z.1.heap.size) ∧ z.2.2 = cheB t s j b ls i
theorem cheL_nil : ∀ (W : World) (ok : Nat → Prop), (hList boolK ⟨none, 0, 0⟩ (chL none)).p W ok := fun W ok => ListAt.nil
set_option maxHeartbeats 16000000 in
theorem Cheapest_made {v : RTV} {t : RTk} {sq p : SV} {s : Sta} {i ls : Int} {b : List Bool} {w : World} (ht : TskAt w w.heap.size v t) (hn : t.slu.length + t.pmp.length ≤ 5000000) (hq : IntsAt w (Lt w.heap.size) sq s.fil) (hb : ListAt boolK w (Lt w.heap.size) p b) :
    Calls Tryz.prog 7 #[tskV v t, staV sq s, .int .i64 i, svV p, .int .i64 ls] w (Made w (CheV t s i b ls)) := by
  have hpn := hb.len (by decide)
  have hb0 := hb
  have hask := fun (w5 : World) (hB : Below w.heap.size w w5) => asked_made (v := v) (t := t) (w := w5) (sq := sq) (s := s) (i := i) (p := p) (n := b.length) (ht.sys (Sys.ofBelow hB)) hn ((hq.keep fun k hk => hB.block k hk).mono fun k hk => Nat.lt_of_lt_of_le hk hB.size) hpn
  have hE : cheE t s i b ls = if askE7 t s i b.length ≠ 0 then askE7 t s i b.length else if outB ls 0 10000000 = true then 7 else if (cheB t s i.toNat b ls (2 ^ t.m)).isSome = true then 0 else 9 := rfl
  obtain ⟨Ap, np, cp⟩ := p
  simp only at hpn
  subst hpn
  simp only [tskV, tskC, svV, staV, staC] at hask ⊢
  refine enterM Tryz.func7 rfl Tryz.ntmps7 rfl ?_; simp only [frame, Nat.zero_add, Nat.reduceAdd]
  repeat (first | (refine M0 ?_; first | refine SL ?_ | refine SB fun _ _ => ?_) | (refine M1 ?_; refine SC ?_) | (refine M2 ?_; refine SE ?_))
  rename_i g5 hg5 g6 hg6 g7 hg7 g8 hg8 g9 hg9 g10 hg10 g11 hg11
  refine XL.rebase (List.Sublist.refl _) (fun W0 S0 => ?_)
  refine XL.callF (ks := [g11, g10, g9, g8, g7, g6, g5]) (rs := []) (hs := []) (b0 := w.heap.size) (wE := w) (AskV v t s i b.length) (ck rfl) rfl rfl (Fam.start S0.size) (fun k hk => S0.keyLt k hk) S0.toBelow (fun w1 S1 _ hB1 => hask w1 hB1) (fun w2 x new hR hF2 hB2 hk2 => ?_) ZZHL
  rcases hR with ⟨h0, rfl, rfl⟩ | ⟨h0, g, gt, gm, r, rfl, rfl⟩
  · rw [if_pos h0] at hE
    repeat (first | (refine M0 ?_; first | refine SL ?_ | refine SB fun _ _ => ?_) | (refine M1 ?_; refine SC ?_) | (refine M2 ?_; refine SE ?_))
    refine XC.cond _ rfl (fun h1 => ?_) (fun h1 => absurd (by simpa using h1) h0)
    repeat (first | (refine M0 ?_; first | refine SL ?_ | refine SB fun _ _ => ?_) | (refine M1 ?_; refine SC ?_) | (refine M2 ?_; refine SE ?_))
    refine XE.retM0 tok Tryz.results7 rfl (by simp only [and_self, and_true]) (fun w' S => ?_)
    exact che_no hE h0 (hB2.trans S.toBelow)
  rw [if_neg (by simp [h0])] at hE
  obtain ⟨hr0, hst, hi, hbl⟩ := askE_0 h0
  have ho := rtOk_of hr0
  obtain ⟨j, rfl⟩ : ∃ j : Nat, i = j := ⟨i.toNat, by omega⟩
  have hj : j < t.outer.length := by omega
  rw [Int.toNat_natCast] at hE
  have hp2 : Pln0 w2 _ g gt gm v r t := hF2.held (hPln g gt gm v r t) (.head _)
  obtain ⟨hlg, hc⟩ := plnCell hp2.p
  have hn15 : r.n = t.m := hp2.p.all.len (by decide)
  have c15 : w2.cell? ⟨g, 15, none⟩ = some (.slice r.A r.n r.c) := hc 15 _ rfl
  have hge := hp2.p.kg.1
  have hm4 : t.m ≤ 4 := by have := t.devs_len; unfold RTk.many at this; have := ho.s2; have := ho.p2; unfold RTk.m; omega
  cases h3 : outB ls 0 10000000 with
  | true =>
    rw [h3, if_pos rfl] at hE
    repeat (first | (refine M0 ?_; first | refine SL ?_ | refine SB fun _ _ => ?_ | refine Y4 (Ev.call (f := 12) (ck rfl) rfl (fun w5 S5 => outP h3 w5)) ?_) | (refine M1 ?_; refine SC ?_) | (refine M2 ?_; refine SE ?_))
    refine XE.retM0 tok Tryz.results7 rfl (by simp only [and_self, and_true]) (fun w' S => ?_)
    exact che_no hE (by decide) (hB2.trans S.toBelow)
  | false =>
  rw [h3, if_neg (by decide)] at hE
  repeat (first | (refine M0 ?_; first | refine SL ?_ | refine SB fun _ _ => ?_ | refine Y4 (Ev.call (f := 12) (ck rfl) rfl (fun w5 S5 => outP h3 w5)) ?_) | (refine M1 ?_; refine SC ?_) | (refine M2 ?_; refine SE ?_))
  rename_i g13 hg13 g14 hg14
  refine XL.callr (fst := []) (cap := []) (fun w1 x w2 => ∃ gp, x = .func (.func 45) #[] #[.pointer (some ⟨gp, 0, none⟩)] ∧ Sys w1.heap.size w1 [(gp, cel 77 [.pointer (some ⟨g, 0, none⟩)])] w2) (ck rfl) rfl rfl rfl (fun w1 S1 => choices_any (g := g) (w := w1)) (fun w1 x w3 S1 hR => ?_)
  obtain ⟨gp, rfl, S2⟩ := hR
  refine ⟨_, w3, (S1.join S2 (List.Sublist.refl _)).rebase (List.sublist_cons_self _ _), ?_⟩
  have hB3 : Below w.heap.size w w3 := hB2.trans (S1.toBelow.trans (S2.toBelow.mono (Nat.le_trans hB2.size S1.size)))
  have hgp0 : w2.heap.size ≤ gp := Nat.le_trans S1.size (S2.own _ (.head _)).1
  have hgpL : ∀ e, e ∈ [(g14, (0 : Nat)), (g13, 0), (g11, 0), (g10, 0), (g9, 0), (g8, 0), (g7, 0), (g6, 0), (g5, 0)] → e.1 < gp := by
    have h1 := (S2.own _ (.head _)).1
    have h2 := S1.keyLt
    intro e he
    have h3 := h2 e.1 (by simp only [List.mem_cons, List.not_mem_nil, or_false] at he; rcases he with rfl | rfl | rfl | rfl | rfl | rfl | rfl | rfl | rfl <;> simp)
    omega
  have hgpc : w3.cell? ⟨gp, 0, none⟩ = some (.pointer (some ⟨g, 0, none⟩)) := by
    have := (S2.own _ (.head _)).2
    simp [World.cell?, this]
  have hgpl : gp < w3.heap.size := S2.lt (.head _)
  have hgL : ∀ e, e ∈ [(g14, (0 : Nat)), (g13, 0), (g11, 0), (g10, 0), (g9, 0), (g8, 0), (g7, 0), (g6, 0), (g5, 0)] → e.1 ≠ g := by
    intro e he e1
    have hlg' : g < w2.heap.size := hlg
    simp only [List.mem_cons, List.not_mem_nil, or_false] at he
    rcases he with rfl | rfl | h
    · simp only at e1; omega
    · simp only at e1; omega
    · refine hge.2.2.1 (List.mem_append_right _ ?_)
      rw [← e1]
      rcases h with rfl | rfl | rfl | rfl | rfl | rfl | rfl <;> simp
  have hF3 : Fam w3 w.heap.size [g14, g13, g11, g10, g9, g8, g7, g6, g5] [] [hPln g gt gm v r t] := ((hF2.call S1 S2.toBelow ZZHL hk2 (new := []) (fun x hx => by cases hx)).1).add fun k hk => by
    left
    refine List.mem_append_left _ ?_
    simp only [List.mem_cons, List.not_mem_nil, or_false] at hk
    rcases hk with rfl | rfl | rfl | rfl | rfl | rfl | rfl | rfl | rfl <;> simp
  have hks3 : ∀ x, x ∈ [g14, g13, g11, g10, g9, g8, g7, g6, g5] → x < w3.heap.size := fun x hx => by
    have := S1.keyLt x (by simp only [List.mem_cons, List.not_mem_nil, or_false] at hx; rcases hx with rfl | rfl | rfl | rfl | rfl | rfl | rfl | rfl | rfl <;> simp)
    exact Nat.lt_of_lt_of_le this S2.size
  have c15' : w3.cell? ⟨g, 15, none⟩ = some (.slice r.A r.n r.c) := by
    obtain ⟨hlg3, hc3⟩ := plnCell (hF3.held (hPln g gt gm v r t) (.head _)).p
    exact hc3 15 _ rfl
  have hlg3 : g < w3.heap.size := Nat.lt_of_lt_of_le hlg (Nat.le_trans S1.size S2.size)
  rw [hn15] at c15'
  clear S1 S2
  repeat (first | (refine M0 ?_; first | refine SL ?_ | refine SB fun _ _ => ?_) | (refine M1 ?_; refine SC ?_) | (refine M2 ?_; refine SE ?_))
  refine XC.rangeFunc (cap := [.pointer (some ⟨gp, 0, none⟩)]) rfl (ck rfl) (fun fn a D w4 hD hf S4 => ?_)
  obtain ⟨o5, ho5⟩ : ∃ o5, o5 = cel 33 (tskC v t) := ⟨_, rfl⟩
  have hfS : Fits 69 [] [(13, .pointer (some ⟨g13, 0, none⟩)), (6, .pointer (some ⟨g6, 0, none⟩)), (7, .pointer (some ⟨g7, 0, none⟩)), (8, .pointer (some ⟨g8, 0, none⟩)), (9, .pointer (some ⟨g9, 0, none⟩)), (10, .pointer (some ⟨g10, 0, none⟩)), (11, .pointer (some ⟨g11, 0, none⟩)), (14, .pointer (some ⟨g14, 0, none⟩))] a := Sub.fits ZZSUB hf
  have hB4 : Below w.heap.size w w4 := hB3.trans S4.toBelow
  have hF4 : Fam w4 w.heap.size (KC (D + 1) D g14 g13 g11 g10 g9 g8 g7 g6 g5) [] [hPln g gt gm v r t, hList boolK ⟨none, 0, 0⟩ (chL none)] := by
    have h1 := (hF3.hold (x := hList boolK ⟨none, 0, 0⟩ (chL none)) (ok := Free w3 w.heap.size _ []) (cheL_nil _ _) (fun j hj => hj)).add (ks' := KC (D + 1) D g14 g13 g11 g10 g9 g8 g7 g6 g5) fun x hx => by
      rcases List.mem_cons.1 hx with rfl | hx
      · right; omega
      rcases List.mem_cons.1 hx with rfl | hx
      · right; omega
      · left; exact hx
    refine Fam.forget (h1.sys S4 ?_) (fun x hx => ?_)
    · intro e he
      left
      have : e.1 ∈ KC (D + 1) D g14 g13 g11 g10 g9 g8 g7 g6 g5 := List.mem_map.2 ⟨e, he, rfl⟩
      exact this
    · rcases List.mem_cons.1 hx with rfl | hx
      · exact .tail _ (.head _)
      · rw [List.mem_singleton.1 hx]; exact .head _
  have hks4 : ∀ x, x ∈ KC (D + 1) D g14 g13 g11 g10 g9 g8 g7 g6 g5 → x < w4.heap.size := fun x hx => S4.keyLt x hx
  have hfar4 : ∀ x, x < w3.heap.size → (∀ e, e ∈ [(g14, (0 : Nat)), (g13, 0), (g11, 0), (g10, 0), (g9, 0), (g8, 0), (g7, 0), (g6, 0), (g5, 0)] → e.1 ≠ x) → ∀ e : Nat × Obj, e.1 ∈ KC (D + 1) D g14 g13 g11 g10 g9 g8 g7 g6 g5 → e.1 ≠ x := fun x h1 h2 e he e1 => by
    rcases List.mem_cons.1 he with h | h
    · omega
    rcases List.mem_cons.1 h with h | h
    · omega
    exact h2 (e.1, 0) (by simpa using h) e1
  have hgpN : ∀ e, e ∈ [(g14, (0 : Nat)), (g13, 0), (g11, 0), (g10, 0), (g9, 0), (g8, 0), (g7, 0), (g6, 0), (g5, 0)] → e.1 ≠ gp := fun e he => by have := hgpL e he; omega
  have hch := chs_any (B := w.heap.size) (l := D + 1) (g := g) (gp := gp) (m := t.m) (c := r.c) (A := r.A) (fun z : World × SV × Ch => LC (D + 1) D g14 g13 g11 g10 g9 g8 g7 g6 g5 (recO fn a.tmps #[36] _ _ D .ready none) o5 g z.2.2 z.2.1 ⟨Ap, b.length, cp⟩ ls j sq s) (fun z => z.1)
    (CheJ v r t s j b ls g gt gm (KC (D + 1) D g14 g13 g11 g10 g9 g8 g7 g6 g5) w) (w4, ⟨none, 0, 0⟩, none) hm4 (by rw [ho5]; exact S4.rebase (List.Sublist.refl _)) ⟨hB4, hF4, hks4, rfl⟩ ?_ ?_ ?_ ?_ ?_ ?_ ?_
  rotate_left
  · have h := S4.farCell (a := ⟨gp, 0, none⟩) hgpl (fun e he => hfar4 gp hgpl hgpN e (List.mem_map.2 ⟨e, he, rfl⟩))
    exact h.trans hgpc
  · have h := S4.farCell (a := ⟨g, 15, none⟩) hlg3 (fun e he => hfar4 g hlg3 hgL e (List.mem_map.2 ⟨e, he, rfl⟩))
    exact h.trans c15'
  · exact Nat.lt_of_lt_of_le hgpl S4.size
  · exact Nat.lt_of_lt_of_le hlg3 S4.size
  · exact fun e he => hfar4 gp hgpl hgpN e (LC_key he)
  · exact fun e he => hfar4 g hlg3 hgL e (LC_key he)
  · rintro i ⟨zW, zq, zb⟩ gn W hi9 hJ hgn SW w1 S1
    obtain ⟨j1, j2, j3, j4⟩ := hJ
    simp only at hgn SW S1 j1 j2 j3 j4
    have hon : ListAt boolK W (Btw zW.heap.size W.heap.size) ⟨some ⟨gn, 0, none⟩, t.m, t.m⟩ (chc t.m i) := boolsAt (SW.own _ (.head _)).2 hgn (chc_len _ _) (by omega)
    have FW := (j2.sys SW (fun e he => by
      rcases List.mem_cons.1 he with rfl | he
      · exact .inr hgn
      · exact .inl (LC_key he))).hold (x := hList boolK ⟨some ⟨gn, 0, none⟩, t.m, t.m⟩ (chc t.m i)) hon (fun j hj => ⟨Nat.le_trans j1.size hj.1, hj.2, fun h => by have := j3 j h; have := hj.1; omega, fun x hx => by cases hx⟩)
    obtain ⟨a1, a2⟩ := che_round (n := 0) (on := chc t.m i) ho hst.vol hj hbl (chc_len _ _) ht hb0 (j1.trans SW.toBelow) FW (fun x hx => Nat.lt_of_lt_of_le (j3 x hx) SW.size) rfl rfl hfS S1
    refine ⟨_, _, _, _, a1, a2.mono fun e w' ⟨u, e1, e2, q', k1, k2⟩ => ⟨u, e1, e2, (w', q', _), ⟨(j1.trans SW.toBelow).trans k2.toBelow, k1, fun x hx => Nat.lt_of_lt_of_le (j3 x hx) (Nat.le_trans SW.size k2.size), ?_⟩, k2.rebase (List.Sublist.refl _)⟩⟩
    simp only
    rw [j4]; rfl
  refine hch.mono fun e w5 ⟨v5, e5, z, hJ, S5⟩ => ⟨v5, e5, .inl ?_⟩
  obtain ⟨zW, zq, zb⟩ := z
  obtain ⟨j1, j2, j3, j4⟩ := hJ
  simp only at S5 j1 j2 j3 j4
  refine ⟨_, zW, S5, ?_⟩
  rw [← j4] at hE
  subst ho5
  have hR : cheR t s (j : Int) b ls = if cheE t s (j : Int) b ls = 0 then zb else none := by unfold cheR; rw [Int.toNat_natCast, ← j4]
  cases zb with
  | none =>
    simp only [staC, svV]
    repeat (first | (refine M0 ?_; first | refine SL ?_ | refine SB fun _ _ => ?_) | (refine M1 ?_; refine SC ?_) | (refine M2 ?_; refine SE ?_))
    refine XE.retM (i := 1) tok Tryz.results7 rfl rfl rfl (by simp only [and_self, and_true]) (fun w' S => ?_)
    exact che_no hE (by decide) (j1.trans S.toBelow)
  | some y =>
  obtain ⟨en, on⟩ := y
  simp only [staC, svV]
  repeat (first | (refine M0 ?_; first | refine SL ?_ | refine SB fun _ _ => ?_) | (refine M1 ?_; refine SC ?_) | (refine M2 ?_; refine SE ?_))
  have hE0 : cheE t s (j : Int) b ls = 0 := hE
  rw [if_pos hE0] at hR
  refine XC.drawR _ [0, 1] [2, 3, 4] mixed (fun _ h => h) rfl (by kernel_rfl) ?_
  repeat (any_goals (first | (refine M0 ?_; first | refine SL ?_ | refine SB fun _ _ => ?_) | (refine M1 ?_; refine SC ?_) | (refine M2 ?_; refine SE ?_) | (refine M3 ?_; first | refine SG ?_ | refine SF ?_) | (refine M4 ?_; refine SR ?_) | (refine M5 ?_; first | exact M7 | refine YM ?_ | refine YN ?_ ?_)))
  any_goals (repeat (first | exact AnyR.nil | refine AnyR.skip rfl ?_))
  all_goals
    refine XE.retM (i := 1) tok Tryz.results7 rfl rfl rfl (by simp only [and_self, and_true]) (fun w' S => ?_)
    refine ⟨_, _, rfl, ⟨zq, by rw [hR, hE0]; rfl, rfl⟩, fun x hx => ?_, j1.trans S.toBelow⟩
    rw [List.mem_singleton.1 hx, hR]
    exact (j2.sys S (fun e he => .inl (show e.1 ∈ KC (D + 1) D g14 g13 g11 g10 g9 g8 g7 g6 g5 from List.mem_map.2 ⟨e, he, rfl⟩))).get (x := hList boolK zq (chL (some (en, on)))) (.tail _ (.head _))
end Go.Proofs.YtmckmlmfilmiaaaGreatDoor.X
/-
  The law RunoffUseful.
-/
namespace Go.Proofs.YtmckmlmfilmiaaaGreatDoor.Bs
open Go.Proofs.YtmckmlmfilmiaaaGreatDoor.X
section
variable {t : RTk} {s : Sta} {j : Nat} {b : List Bool} {ls : Int}
theorem cheB_yes : ∀ {i : Nat} {e : Int} {f : List Bool}, cheB t s j b ls i = some (e, f) → ∃ k, k < i ∧ f = chc t.m k ∧ ∃ o, t.use s.vol j b f = some (o, e) ∧ ls ≤ o := by
  intro i
  induction i with
  | zero => intro e f h; cases h
  | succ i ih =>
    intro e f h
    unfold cheB cheU at h
    split at h
    · obtain ⟨k, h1, h2⟩ := ih h; exact ⟨k, by omega, h2⟩
    · rename_i y hy
      split at h
      · rename_i hc
        cases h
        exact ⟨i, by omega, rfl, y.1, hy, hc.1⟩
      · obtain ⟨k, h1, h2⟩ := ih h; exact ⟨k, by omega, h2⟩
theorem cheB_min : ∀ {i k : Nat} {o e : Int}, k < i → t.use s.vol j b (chc t.m k) = some (o, e) → ls ≤ o → ∃ e' f, cheB t s j b ls i = some (e', f) ∧ e' ≤ e := by
  intro i
  induction i with
  | zero => intro k o e hk; omega
  | succ i ih =>
    intro k o e hk hu hl
    rcases Nat.lt_or_ge k i with h | h
    · obtain ⟨e', f, h1, h2⟩ := ih h hu hl
      unfold cheB cheU
      rw [h1]
      split
      · exact ⟨e', f, rfl, h2⟩
      · rename_i y hy
        split
        · rename_i hc
          have := hc.2 rfl
          simp only [chE, Option.map_some, Option.getD_some] at this
          exact ⟨_, _, rfl, by omega⟩
        · exact ⟨e', f, rfl, h2⟩
    · have : k = i := by omega
      subst this
      unfold cheB cheU
      rw [hu]
      simp only
      split
      · exact ⟨_, _, rfl, Int.le_refl _⟩
      · rename_i hc
        cases hb : cheB t s j b ls k with
        | none => exact absurd ⟨hl, fun h => by rw [hb] at h; cases h⟩ hc
        | some z =>
          obtain ⟨z1, z2⟩ := z
          refine ⟨z1, z2, rfl, ?_⟩
          rcases Int.lt_or_le e z1 with h5 | h5
          · exact absurd ⟨hl, fun _ => by rw [hb]; exact h5⟩ hc
          · exact h5
end
section
variable {t : RTk} {s : Sta} {i : Int} {b f : List Bool} {ls : Int}
theorem useE_0 (h : useE t s i b f = 0) : askE7 t s i b.length = 0 ∧ f.length = t.m ∧ ∃ y, t.use s.vol i.toNat b f = some y ∧ useN t s i b f = y := by
  have h' := h
  unfold useE at h'
  split at h'
  · rename_i h1; exact absurd h' h1
  rename_i h1
  split at h'
  · cases h'
  rename_i h2
  split at h'
  · cases h'
  rename_i y hy
  exact ⟨by simpa using h1, by simpa using h2, y, hy, by unfold useN; rw [if_pos h, hy]; rfl⟩
theorem useE_of {y : Int × Int} (h0 : askE7 t s i b.length = 0) (h1 : f.length = t.m) (h2 : t.use s.vol i.toNat b f = some y) : useE t s i b f = 0 ∧ useN t s i b f = y := by
  have h : useE t s i b f = 0 := by unfold useE; rw [if_neg (by simp [h0]), if_neg (by simp [h1]), h2]
  exact ⟨h, by unfold useN; rw [if_pos h, h2]; rfl⟩
theorem cheE_0 (h : cheE t s i b ls = 0) : askE7 t s i b.length = 0 ∧ (0 ≤ ls ∧ ls ≤ 10000000) ∧ ∃ y, cheB t s i.toNat b ls (2 ^ t.m) = some y ∧ cheR t s i b ls = some y := by
  have h' := h
  unfold cheE at h'
  split at h'
  · rename_i h1; exact absurd h' h1
  rename_i h1
  split at h'
  · cases h'
  rename_i h2
  split at h'
  · rename_i h3
    obtain ⟨y, hy⟩ := Option.isSome_iff_exists.1 h3
    exact ⟨by simpa using h1, outB_f.1 (Bool.not_eq_true _ ▸ h2), y, hy, by unfold cheR; rw [if_pos h, hy]⟩
  · cases h'
theorem cheE_of {y : Int × List Bool} (h0 : askE7 t s i b.length = 0) (h1 : 0 ≤ ls ∧ ls ≤ 10000000) (h2 : cheB t s i.toNat b ls (2 ^ t.m) = some y) : cheE t s i b ls = 0 ∧ cheR t s i b ls = some y := by
  have h : cheE t s i b ls = 0 := by unfold cheE; rw [if_neg (by simp [h0]), if_neg (by rw [outB_f.2 h1]; decide), h2]; rfl
  exact ⟨h, by unfold cheR; rw [if_pos h, h2]⟩
theorem che_some (h : cheE t s i b ls = 0) : ∃ (on : List Bool) (n o : Int), cheR t s i b ls = some (n, on) ∧ useE t s i b on = 0 ∧ useN t s i b on = (o, n) ∧ ls ≤ o ∧ (∀ f, useE t s i b f = 0 → ls ≤ (useN t s i b f).1 → n ≤ (useN t s i b f).2) ∧
    ∀ l, 0 ≤ l → l ≤ ls → cheE t s i b l = 0 ∧ chE (cheR t s i b l) ≤ n := by
  obtain ⟨h0, h1, ⟨n, on⟩, h2, h3⟩ := cheE_0 h
  obtain ⟨k, hk, rfl, o, h4, h5⟩ := cheB_yes h2
  obtain ⟨h6, h7⟩ := useE_of h0 (chc_len _ _) h4
  refine ⟨_, n, o, h3, h6, h7, h5, fun f hf hl => ?_, fun l l0 hl => ?_⟩
  · obtain ⟨_, g1, ⟨o', e'⟩, g2, g3⟩ := useE_0 hf
    rw [g3] at hl ⊢
    obtain ⟨k', hk', rfl⟩ := chc_all g1
    obtain ⟨e9, f9, a1, a2⟩ := cheB_min hk' g2 hl
    rw [h2] at a1
    cases a1
    exact a2
  · obtain ⟨e9, f9, a1, a2⟩ := cheB_min hk h4 (Int.le_trans hl h5)
    obtain ⟨b1, b2⟩ := cheE_of h0 ⟨l0, by omega⟩ a1
    exact ⟨b1, by rw [b2]; exact a2⟩
end
end Go.Proofs.YtmckmlmfilmiaaaGreatDoor.Bs
namespace Go.Proofs.YtmckmlmfilmiaaaGreatDoor.X
open Go Go.RowKit Go.Proofs.YtmckmlmfilmiaaaGreatDoor.Bs
set_option linter.unusedVariables false
/-- a turn: where its slices lie, and what it is. -/
structure TrV where
  q : SV
  p : SV
  r : SV
structure Trn where
  s : Sta
  tick : Int
  bef : List Bool
  on : List Bool
  least : Int
def turnC (y : TrV) (x : Trn) : List Value := [.int .i64 x.s.vol, svV y.q, .int .i64 x.tick, svV y.p, svV y.r, .int .i64 x.least]
def turnV (y : TrV) (x : Trn) : Value := .agg ⟨turnC y x⟩
structure TurnAt (w : World) (y : TrV) (x : Trn) : Prop where
  fil : IntsAt w (Lt w.heap.size) y.q x.s.fil
  bef : ListAt boolK w (Lt w.heap.size) y.p x.bef
  on : ListAt boolK w (Lt w.heap.size) y.r x.on
theorem TurnAt.below {w w' : World} {y : TrV} {x : Trn} (h : TurnAt w y x) (hB : Below w.heap.size w w') : TurnAt w' y x :=
  ⟨(h.fil.keep fun k hk => hB.block k hk).mono fun k hk => Nat.lt_of_lt_of_le hk hB.size, (h.bef.keep fun k hk => hB.block k hk).mono fun k hk => Nat.lt_of_lt_of_le hk hB.size, (h.on.keep fun k hk => hB.block k hk).mono fun k hk => Nat.lt_of_lt_of_le hk hB.size⟩
end Go.Proofs.YtmckmlmfilmiaaaGreatDoor.X
