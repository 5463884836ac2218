/-
  The walk of Cheapest (runoff).
-/
import Derived.Test.YtmckmlmfilmiaaaPart4
set_option linter.unusedVariables false
set_option linter.unusedSimpArgs false
namespace Go.Proofs.Ytmckmlmfilmiaaa.X
open Go Go.RowKit Go.Proofs.Ytmckmlmfilmiaaa.Bs
set_option linter.unusedVariables false
def CheJ (v : RTV) (r : SV) (t : RTk) (s : Sta) (j : Nat) (b : List Bool) (ls : Int) (g gt gm : Nat) (ks : List Nat) (w : World) (i : Nat) (z : World × SV × Ch) : Prop :=
  Below w.heap.size w z.1 ∧ Fam z.1 w.heap.size ks [] [hPln g gt gm v r t, hList boolK z.2.1 (chL z.2.2)] ∧ (∀ x, x ∈ ks → x < z.1.heap.size) ∧ z.2.2 = cheB t s j b ls i
theorem cheL_nil : ∀ (W : World) (ok : Nat → Prop), (hList boolK ⟨none, 0, 0⟩ (chL none)).p W ok := fun W ok => ListAt.nil
set_option maxHeartbeats 16000000 in
theorem Cheapest_made {v : RTV} {t : RTk} {sq p : SV} {s : Sta} {i ls : Int} {b : List Bool} {w : World} (ht : TskAt w w.heap.size v t) (hn : t.slu.length + t.pmp.length ≤ 5000000) (hq : IntsAt w (Lt w.heap.size) sq s.fil) (hb : ListAt boolK w (Lt w.heap.size) p b) :
    Calls Try.prog 31 #[tskV v t, staV sq s, .int .i64 i, svV p, .int .i64 ls] w (Made w (CheV t s i b ls)) := by
  have hpn := hb.len (by decide)
  have hb0 := hb
  have hask := fun (w5 : World) (hB : Below w.heap.size w w5) => asked_made (v := v) (t := t) (w := w5) (sq := sq) (s := s) (i := i) (p := p) (n := b.length) (ht.sys (Sys.ofBelow hB)) hn ((hq.keep fun k hk => hB.block k hk).mono fun k hk => Nat.lt_of_lt_of_le hk hB.size) hpn
  have hE : cheE t s i b ls = if askE t s i b.length ≠ 0 then askE t s i b.length else if outB ls 0 10000000 = true then 7 else if (cheB t s i.toNat b ls (2 ^ t.m)).isSome = true then 0 else 9 := rfl
  obtain ⟨Ap, np, cp⟩ := p
  simp only at hpn
  subst hpn
  simp only [tskV, tskC, svV, staV, staC] at hask ⊢
  refine enterM Try.func31 rfl Try.ntmps31 rfl ?_; simp only [frame, Nat.zero_add, Nat.reduceAdd]
  repeat (first | (refine M0 ?_; first | refine SL ?_ | refine SB fun _ _ => ?_) | (refine M1 ?_; refine SC ?_) | (refine M2 ?_; refine SE ?_))
  rename_i g5 hg5 g6 hg6 g7 hg7 g8 hg8 g9 hg9 g10 hg10 g11 hg11
  refine XL.rebase (List.Sublist.refl _) (fun W0 S0 => ?_)
  refine XL.callF (ks := [g11, g10, g9, g8, g7, g6, g5]) (rs := []) (hs := []) (b0 := w.heap.size) (wE := w) (AskV v t s i b.length) (ck rfl) rfl rfl (Fam.start S0.size) (fun k hk => S0.keyLt k hk) S0.toBelow (fun w1 S1 _ hB1 => hask w1 hB1) (fun w2 x new hR hF2 hB2 hk2 => ?_) ZZHL
  rcases hR with ⟨h0, rfl, rfl⟩ | ⟨h0, g, gt, gm, r, rfl, rfl⟩
  · rw [if_pos h0] at hE
    repeat (first | (refine M0 ?_; first | refine SL ?_ | refine SB fun _ _ => ?_) | (refine M1 ?_; refine SC ?_) | (refine M2 ?_; refine SE ?_))
    refine XC.cond _ rfl (fun h1 => ?_) (fun h1 => absurd (by simpa using h1) h0)
    repeat (first | (refine M0 ?_; first | refine SL ?_ | refine SB fun _ _ => ?_) | (refine M1 ?_; refine SC ?_) | (refine M2 ?_; refine SE ?_))
    refine XE.retM0 tok Try.results31 rfl (by simp only [and_self, and_true]) (fun w' S => ?_)
    exact che_no hE h0 (hB2.trans S.toBelow)
  rw [if_neg (by simp [h0])] at hE
  obtain ⟨hr0, hst, hi, hbl⟩ := askE_0 h0
  have ho := rtOk_of hr0
  obtain ⟨j, rfl⟩ : ∃ j : Nat, i = j := ⟨i.toNat, by omega⟩
  have hj : j < t.outer.length := by omega
  rw [Int.toNat_natCast] at hE
  have hp2 : Pln0 w2 _ g gt gm v r t := hF2.held (hPln g gt gm v r t) (.head _)
  obtain ⟨hlg, hc⟩ := plnCell hp2.p
  have hn15 : r.n = t.m := hp2.p.all.len (by decide)
  have c15 : w2.cell? ⟨g, 15, none⟩ = some (.slice r.A r.n r.c) := hc 15 _ rfl
  have hge := hp2.p.kg.1
  have hm4 : t.m ≤ 4 := by have := t.devs_len; unfold RTk.many at this; have := ho.s2; have := ho.p2; unfold RTk.m; omega
  cases h3 : outB ls 0 10000000 with
  | true =>
    rw [h3, if_pos rfl] at hE
    repeat (first | (refine M0 ?_; first | refine SL ?_ | refine SB fun _ _ => ?_ | refine Y4 (Ev.call (f := 42) (ck rfl) rfl (fun w5 S5 => outP h3 w5)) ?_) | (refine M1 ?_; refine SC ?_) | (refine M2 ?_; refine SE ?_))
    refine XE.retM0 tok Try.results31 rfl (by simp only [and_self, and_true]) (fun w' S => ?_)
    exact che_no hE (by decide) (hB2.trans S.toBelow)
  | false =>
  rw [h3, if_neg (by decide)] at hE
  repeat (first | (refine M0 ?_; first | refine SL ?_ | refine SB fun _ _ => ?_ | refine Y4 (Ev.call (f := 42) (ck rfl) rfl (fun w5 S5 => outP h3 w5)) ?_) | (refine M1 ?_; refine SC ?_) | (refine M2 ?_; refine SE ?_))
  rename_i g13 hg13 g14 hg14
  refine XL.callr (fst := []) (cap := []) (fun w1 x w2 => ∃ gp, x = .func (.func 85) #[] #[.pointer (some ⟨gp, 0, none⟩)] ∧ Sys w1.heap.size w1 [(gp, cel 91 [.pointer (some ⟨g, 0, none⟩)])] w2) (ck rfl) rfl rfl rfl (fun w1 S1 => choices_any (g := g) (w := w1)) (fun w1 x w3 S1 hR => ?_)
  obtain ⟨gp, rfl, S2⟩ := hR
  refine ⟨_, w3, (S1.join S2 (List.Sublist.refl _)).rebase (List.sublist_cons_self _ _), ?_⟩
  have hB3 : Below w.heap.size w w3 := hB2.trans (S1.toBelow.trans (S2.toBelow.mono (Nat.le_trans hB2.size S1.size)))
  have hgp0 : w2.heap.size ≤ gp := Nat.le_trans S1.size (S2.own _ (.head _)).1
  have hgpL : ∀ e, e ∈ [(g14, (0 : Nat)), (g13, 0), (g11, 0), (g10, 0), (g9, 0), (g8, 0), (g7, 0), (g6, 0), (g5, 0)] → e.1 < gp := by
    have h1 := (S2.own _ (.head _)).1
    have h2 := S1.keyLt
    intro e he
    have h3 := h2 e.1 (by simp only [List.mem_cons, List.not_mem_nil, or_false] at he; rcases he with rfl | rfl | rfl | rfl | rfl | rfl | rfl | rfl | rfl <;> simp)
    omega
  have hgpc : w3.cell? ⟨gp, 0, none⟩ = some (.pointer (some ⟨g, 0, none⟩)) := by
    have := (S2.own _ (.head _)).2
    simp [World.cell?, this]
  have hgpl : gp < w3.heap.size := S2.lt (.head _)
  have hgL : ∀ e, e ∈ [(g14, (0 : Nat)), (g13, 0), (g11, 0), (g10, 0), (g9, 0), (g8, 0), (g7, 0), (g6, 0), (g5, 0)] → e.1 ≠ g := by
    intro e he e1
    have hlg' : g < w2.heap.size := hlg
    simp only [List.mem_cons, List.not_mem_nil, or_false] at he
    rcases he with rfl | rfl | h
    · simp only at e1; omega
    · simp only at e1; omega
    · refine hge.2.2.1 (List.mem_append_right _ ?_)
      rw [← e1]
      rcases h with rfl | rfl | rfl | rfl | rfl | rfl | rfl <;> simp
  have hF3 : Fam w3 w.heap.size [g14, g13, g11, g10, g9, g8, g7, g6, g5] [] [hPln g gt gm v r t] := ((hF2.call S1 S2.toBelow ZZHL hk2 (new := []) (fun x hx => by cases hx)).1).add fun k hk => by
    left
    refine List.mem_append_left _ ?_
    simp only [List.mem_cons, List.not_mem_nil, or_false] at hk
    rcases hk with rfl | rfl | rfl | rfl | rfl | rfl | rfl | rfl | rfl <;> simp
  have hks3 : ∀ x, x ∈ [g14, g13, g11, g10, g9, g8, g7, g6, g5] → x < w3.heap.size := fun x hx => by
    have := S1.keyLt x (by simp only [List.mem_cons, List.not_mem_nil, or_false] at hx; rcases hx with rfl | rfl | rfl | rfl | rfl | rfl | rfl | rfl | rfl <;> simp)
    exact Nat.lt_of_lt_of_le this S2.size
  have c15' : w3.cell? ⟨g, 15, none⟩ = some (.slice r.A r.n r.c) := by
    obtain ⟨hlg3, hc3⟩ := plnCell (hF3.held (hPln g gt gm v r t) (.head _)).p
    exact hc3 15 _ rfl
  have hlg3 : g < w3.heap.size := Nat.lt_of_lt_of_le hlg (Nat.le_trans S1.size S2.size)
  rw [hn15] at c15'
  clear S1 S2
  repeat (first | (refine M0 ?_; first | refine SL ?_ | refine SB fun _ _ => ?_) | (refine M1 ?_; refine SC ?_) | (refine M2 ?_; refine SE ?_))
  refine XC.rangeFunc (cap := [.pointer (some ⟨gp, 0, none⟩)]) rfl (ck rfl) (fun fn a D w4 hD hf S4 => ?_)
  obtain ⟨o5, ho5⟩ : ∃ o5, o5 = cel 33 (tskC v t) := ⟨_, rfl⟩
  have hfS : Fits 69 [] [(13, .pointer (some ⟨g13, 0, none⟩)), (6, .pointer (some ⟨g6, 0, none⟩)), (7, .pointer (some ⟨g7, 0, none⟩)), (8, .pointer (some ⟨g8, 0, none⟩)), (9, .pointer (some ⟨g9, 0, none⟩)), (10, .pointer (some ⟨g10, 0, none⟩)), (11, .pointer (some ⟨g11, 0, none⟩)), (14, .pointer (some ⟨g14, 0, none⟩))] a := Sub.fits ZZSUB hf
  have hB4 : Below w.heap.size w w4 := hB3.trans S4.toBelow
  have hF4 : Fam w4 w.heap.size (KC (D + 1) D g14 g13 g11 g10 g9 g8 g7 g6 g5) [] [hPln g gt gm v r t, hList boolK ⟨none, 0, 0⟩ (chL none)] := by
    have h1 := (hF3.hold (x := hList boolK ⟨none, 0, 0⟩ (chL none)) (ok := Free w3 w.heap.size _ []) (cheL_nil _ _) (fun j hj => hj)).add (ks' := KC (D + 1) D g14 g13 g11 g10 g9 g8 g7 g6 g5) fun x hx => by
      rcases List.mem_cons.1 hx with rfl | hx
      · right; omega
      rcases List.mem_cons.1 hx with rfl | hx
      · right; omega
      · left; exact hx
    refine Fam.forget (h1.sys S4 ?_) (fun x hx => ?_)
    · intro e he
      left
      have : e.1 ∈ KC (D + 1) D g14 g13 g11 g10 g9 g8 g7 g6 g5 := List.mem_map.2 ⟨e, he, rfl⟩
      exact this
    · rcases List.mem_cons.1 hx with rfl | hx
      · exact .tail _ (.head _)
      · rw [List.mem_singleton.1 hx]; exact .head _
  have hks4 : ∀ x, x ∈ KC (D + 1) D g14 g13 g11 g10 g9 g8 g7 g6 g5 → x < w4.heap.size := fun x hx => S4.keyLt x hx
  have hfar4 : ∀ x, x < w3.heap.size → (∀ e, e ∈ [(g14, (0 : Nat)), (g13, 0), (g11, 0), (g10, 0), (g9, 0), (g8, 0), (g7, 0), (g6, 0), (g5, 0)] → e.1 ≠ x) → ∀ e : Nat × Obj, e.1 ∈ KC (D + 1) D g14 g13 g11 g10 g9 g8 g7 g6 g5 → e.1 ≠ x := fun x h1 h2 e he e1 => by
    rcases List.mem_cons.1 he with h | h
    · omega
    rcases List.mem_cons.1 h with h | h
    · omega
    exact h2 (e.1, 0) (by simpa using h) e1
  have hgpN : ∀ e, e ∈ [(g14, (0 : Nat)), (g13, 0), (g11, 0), (g10, 0), (g9, 0), (g8, 0), (g7, 0), (g6, 0), (g5, 0)] → e.1 ≠ gp := fun e he => by have := hgpL e he; omega
  have hch := chs_any (B := w.heap.size) (l := D + 1) (g := g) (gp := gp) (m := t.m) (c := r.c) (A := r.A) (fun z : World × SV × Ch => LC (D + 1) D g14 g13 g11 g10 g9 g8 g7 g6 g5 (recO fn a.tmps #[36] _ _ D .ready none) o5 g z.2.2 z.2.1 ⟨Ap, b.length, cp⟩ ls j sq s) (fun z => z.1)
    (CheJ v r t s j b ls g gt gm (KC (D + 1) D g14 g13 g11 g10 g9 g8 g7 g6 g5) w) (w4, ⟨none, 0, 0⟩, none) hm4 (by rw [ho5]; exact S4.rebase (List.Sublist.refl _)) ⟨hB4, hF4, hks4, rfl⟩ ?_ ?_ ?_ ?_ ?_ ?_ ?_
  rotate_left
  · have h := S4.farCell (a := ⟨gp, 0, none⟩) hgpl (fun e he => hfar4 gp hgpl hgpN e (List.mem_map.2 ⟨e, he, rfl⟩))
    exact h.trans hgpc
  · have h := S4.farCell (a := ⟨g, 15, none⟩) hlg3 (fun e he => hfar4 g hlg3 hgL e (List.mem_map.2 ⟨e, he, rfl⟩))
    exact h.trans c15'
  · exact Nat.lt_of_lt_of_le hgpl S4.size
  · exact Nat.lt_of_lt_of_le hlg3 S4.size
  · exact fun e he => hfar4 gp hgpl hgpN e (LC_key he)
  · exact fun e he => hfar4 g hlg3 hgL e (LC_key he)
  · rintro i ⟨zW, zq, zb⟩ gn W hi9 hJ hgn SW w1 S1
    obtain ⟨j1, j2, j3, j4⟩ := hJ
    simp only at hgn SW S1 j1 j2 j3 j4
    have hon : ListAt boolK W (Btw zW.heap.size W.heap.size) ⟨some ⟨gn, 0, none⟩, t.m, t.m⟩ (chc t.m i) := boolsAt (SW.own _ (.head _)).2 hgn (chc_len _ _) (by omega)
    have FW := (j2.sys SW (fun e he => by
      rcases List.mem_cons.1 he with rfl | he
      · exact .inr hgn
      · exact .inl (LC_key he))).hold (x := hList boolK ⟨some ⟨gn, 0, none⟩, t.m, t.m⟩ (chc t.m i)) hon (fun j hj => ⟨Nat.le_trans j1.size hj.1, hj.2, fun h => by have := j3 j h; have := hj.1; omega, fun x hx => by cases hx⟩)
    obtain ⟨a1, a2⟩ := che_round (n := 0) (on := chc t.m i) ho hst.vol hj hbl (chc_len _ _) ht hb0 (j1.trans SW.toBelow) FW (fun x hx => Nat.lt_of_lt_of_le (j3 x hx) SW.size) rfl rfl hfS S1
    refine ⟨_, _, _, _, a1, a2.mono fun e w' ⟨u, e1, e2, q', k1, k2⟩ => ⟨u, e1, e2, (w', q', _), ⟨(j1.trans SW.toBelow).trans k2.toBelow, k1, fun x hx => Nat.lt_of_lt_of_le (j3 x hx) (Nat.le_trans SW.size k2.size), ?_⟩, k2.rebase (List.Sublist.refl _)⟩⟩
    simp only
    rw [j4]; rfl
  refine hch.mono fun e w5 ⟨v5, e5, z, hJ, S5⟩ => ⟨v5, e5, .inl ?_⟩
  obtain ⟨zW, zq, zb⟩ := z
  obtain ⟨j1, j2, j3, j4⟩ := hJ
  simp only at S5 j1 j2 j3 j4
  refine ⟨_, zW, S5, ?_⟩
  rw [← j4] at hE
  subst ho5
  have hR : cheR t s (j : Int) b ls = if cheE t s (j : Int) b ls = 0 then zb else none := by unfold cheR; rw [Int.toNat_natCast, ← j4]
  cases zb with
  | none =>
    simp only [staC, svV]
    repeat (first | (refine M0 ?_; first | refine SL ?_ | refine SB fun _ _ => ?_) | (refine M1 ?_; refine SC ?_) | (refine M2 ?_; refine SE ?_))
    refine XE.retM (i := 1) tok Try.results31 rfl rfl rfl (by simp only [and_self, and_true]) (fun w' S => ?_)
    exact che_no hE (by decide) (j1.trans S.toBelow)
  | some y =>
  obtain ⟨en, on⟩ := y
  simp only [staC, svV]
  repeat (first | (refine M0 ?_; first | refine SL ?_ | refine SB fun _ _ => ?_) | (refine M1 ?_; refine SC ?_) | (refine M2 ?_; refine SE ?_))
  have hE0 : cheE t s (j : Int) b ls = 0 := hE
  rw [if_pos hE0] at hR
  refine XC.drawR _ [0, 1] [2, 3, 4] mixed (fun _ h => h) rfl (by kernel_rfl) ?_
  repeat (any_goals (first | (refine M0 ?_; first | refine SL ?_ | refine SB fun _ _ => ?_) | (refine M1 ?_; refine SC ?_) | (refine M2 ?_; refine SE ?_) | (refine M3 ?_; first | refine SG ?_ | refine SF ?_) | (refine M4 ?_; refine SR ?_) | (refine M5 ?_; first | exact M7 | refine YM ?_ | refine YN ?_ ?_)))
  any_goals (repeat (first | exact AnyR.nil | refine AnyR.skip rfl ?_))
  all_goals
    refine XE.retM (i := 1) tok Try.results31 rfl rfl rfl (by simp only [and_self, and_true]) (fun w' S => ?_)
    refine ⟨_, _, rfl, ⟨zq, by rw [hR, hE0]; rfl, rfl⟩, fun x hx => ?_, j1.trans S.toBelow⟩
    rw [List.mem_singleton.1 hx, hR]
    exact (j2.sys S (fun e he => .inl (show e.1 ∈ KC (D + 1) D g14 g13 g11 g10 g9 g8 g7 g6 g5 from List.mem_map.2 ⟨e, he, rfl⟩))).get (x := hList boolK zq (chL (some (en, on)))) (.tail _ (.head _))
end Go.Proofs.Ytmckmlmfilmiaaa.X
/-
  The law RunoffUseful.
-/
namespace Go.Proofs.Ytmckmlmfilmiaaa.Bs
open Go.Proofs.Ytmckmlmfilmiaaa.X
section
variable {t : RTk} {s : Sta} {j : Nat} {b : List Bool} {ls : Int}
end
section
variable {t : RTk} {s : Sta} {i : Int} {b f : List Bool} {ls : Int}
end
end Go.Proofs.Ytmckmlmfilmiaaa.Bs
namespace Go.Proofs.Ytmckmlmfilmiaaa.X
open Go Go.RowKit Go.Proofs.Ytmckmlmfilmiaaa.Bs
set_option linter.unusedVariables false
/-- a turn: where its slices lie, and what it is. -/
structure TrV where
  q : SV
  p : SV
  r : SV
structure Trn where
  s : Sta
  tick : Int
  bef : List Bool
  on : List Bool
  least : Int
def turnC (y : TrV) (x : Trn) : List Value := [.int .i64 x.s.vol, svV y.q, .int .i64 x.tick, svV y.p, svV y.r, .int .i64 x.least]
def turnV (y : TrV) (x : Trn) : Value := .agg ⟨turnC y x⟩
structure TurnAt (w : World) (y : TrV) (x : Trn) : Prop where
  fil : IntsAt w (Lt w.heap.size) y.q x.s.fil
  bef : ListAt boolK w (Lt w.heap.size) y.p x.bef
  on : ListAt boolK w (Lt w.heap.size) y.r x.on
theorem TurnAt.below {w w' : World} {y : TrV} {x : Trn} (h : TurnAt w y x) (hB : Below w.heap.size w w') : TurnAt w' y x :=
  ⟨(h.fil.keep fun k hk => hB.block k hk).mono fun k hk => Nat.lt_of_lt_of_le hk hB.size, (h.bef.keep fun k hk => hB.block k hk).mono fun k hk => Nat.lt_of_lt_of_le hk hB.size, (h.on.keep fun k hk => hB.block k hk).mono fun k hk => Nat.lt_of_lt_of_le hk hB.size⟩
end Go.Proofs.Ytmckmlmfilmiaaa.X
/-
  The walks of the document's exact and use (runoff).
-/
namespace Go.Proofs.Ytmckmlmfilmiaaa.Bs
open Go.Proofs.Ytmckmlmfilmiaaa.X
section
variable {n d o : Int} {ds : List Dev} {b f : List Bool} {k : Nat} {p : Int × Int}
theorem use_slu_no {x : Slu} (h : useTo n d o ds b f k = some p) (hd : ds[k]? = some (.slu x)) (h1 : bl f k = true) (h2 : n ≤ o * d) : useTo n d o ds b f (k + 1) = none := by
  rw [useTo_on h h1, hd]
  simp only [Option.getD_some, Dev.flow]
  rw [if_pos (by omega)]
theorem use_slu_on {x : Slu} (h : useTo n d o ds b f k = some p) (hd : ds[k]? = some (.slu x)) (h1 : bl f k = true) (h2 : ¬ n ≤ o * d) : useTo n d o ds b f (k + 1) = some (p.1 + (x.width * (n - o * d)).tdiv d, p.2 + if bl b k = true then 0 else x.move) := by
  rw [useTo_on h h1, hd]
  simp only [Option.getD_some, Dev.flow, Dev.energy]
  rw [if_neg (by omega)]
theorem use_slu_off {x : Slu} (h : useTo n d o ds b f k = some p) (hd : ds[k]? = some (.slu x)) (h1 : bl f k = false) : useTo n d o ds b f (k + 1) = some (p.1, p.2 + if bl b k = false then 0 else x.move) := by
  rw [useTo_off h h1, hd]
  simp only [Option.getD_some, Dev.energy]
theorem use_pmp_off {x : Pmp} (h : useTo n d o ds b f k = some p) (hd : ds[k]? = some (.pmp x)) (h1 : bl f k = false) : useTo n d o ds b f (k + 1) = some p := by
  rw [useTo_off h h1, hd]
  simp only [Option.getD_some, Dev.energy]
  simp
def liftE (n d o : Int) (x : Pmp) : Int := if n < o * d then (x.lift * (o * d - n) + d - 1).tdiv d else 0
theorem use_pmp_on {x : Pmp} (hd1 : 1 ≤ d) (h : useTo n d o ds b f k = some p) (hd : ds[k]? = some (.pmp x)) (h1 : bl f k = true) : useTo n d o ds b f (k + 1) = some (p.1 + x.rate, p.2 + (x.base + liftE n d o x + if bl b k = true then 0 else x.start)) := by
  rw [useTo_on h h1, hd]
  simp only [Option.getD_some, Dev.flow, Dev.energy]
  have e : (x.lift * max 0 (-(n - o * d)) + d - 1).tdiv d = liftE n d o x := by
    unfold liftE
    split
    · rename_i h2
      rw [show max 0 (-(n - o * d)) = o * d - n by omega]
    · rename_i h2
      rw [show max 0 (-(n - o * d)) = 0 by omega, Int.mul_zero]
      exact Int.tdiv_eq_zero_of_lt (by omega) (by omega)
  rw [e]
  simp
end
end Go.Proofs.Ytmckmlmfilmiaaa.Bs
namespace Go.Proofs.Ytmckmlmfilmiaaa.X
open Go Go.RowKit Go.Proofs.Ytmckmlmfilmiaaa.Bs
set_option linter.unusedVariables false
set_option maxHeartbeats 4000000 in
theorem ref7Exact_any {p : BV} {b : Bas} {w : World} (hb : BasAt w w.heap.size p b) (ho : RowsOk b) {v : Int} (hv : (b.row 0).vol ≤ v ∧ v ≤ 1000000000) :
    Calls Try.prog 78 #[basV p b, .int .i64 v] w fun e w' => e = .returned (.tuple ⟨[.int .i64 (num b v), .int .i64 (den b v)]⟩) ∧ Below w.heap.size w w' := by
  obtain ⟨A, n, c, A2, n2, c2⟩ := p
  have hn := hb.n_eq
  have hn2 := hb.n2_eq
  simp only at hn hn2
  subst hn hn2
  have h2 := ho.n2
  have h12 := ho.n12
  obtain ⟨ad, rfl, hlt⟩ := hb.rows.addr (by simp only; omega)
  simp only [basV, basC]
  refine enter Try.func78 rfl Try.ntmps78 rfl ?_; simp only [frame, Nat.zero_add, Nat.reduceAdd]
  repeat (first | (refine M0 ?_; first | refine SL ?_ | refine SB fun _ _ => ?_) | (refine M1 ?_; first | refine SC ?_ | refine SD ?_) | (refine M2 ?_; refine SE ?_) | (refine M3 ?_; first | refine SG ?_ | refine SF ?_) | (refine M4 ?_; refine SR ?_) | (refine M5 ?_; first | exact M7 | refine YM ?_ | refine YN ?_ ?_))
  have hs := seg_lt ho v
  refine XC.loopk [1, 2] rfl (fun k : Nat => [(6, .int .i64 (segTo b v k : Nat)), (7, .int .i64 ((k + 1 : Nat) : Int))]) (fun _ => _) (fun _ => w) (fun k => k + 2 ≤ b.rows.length) (fun k => b.rows.length - k) 0 (by omega) ZZSUB (fun _ h => h) ?_
  intro k hk
  dsimp only [List.cons_append, List.nil_append]
  repeat (first | (refine M0 ?_; first | refine SL ?_ | refine SB fun _ _ => ?_) | (refine M1 ?_; first | refine SC ?_ | refine SD ?_) | (refine M2 ?_; refine SE ?_) | (refine M3 ?_; first | refine SG ?_ | refine SF ?_) | (refine M4 ?_; refine SR ?_) | (refine M5 ?_; first | exact M7 | refine YM ?_ | refine YN ?_ ?_))
  refine XC.cond _ rfl (fun h1 => ?_) (fun h1 => ?_)
  · simp only [decide_eq_true_eq] at h1
    repeat (any_goals (first | (refine M0 ?_; first | refine SL ?_ | refine SB fun _ _ => ?_ | (refine XL.split _ _ rfl (fun h => ?_) (fun h => ?_) <;> rw [h]) | refine Y4 (Ev.load_old tok rfl rfl (add_lt2 hlt) (hb.rowVol (i := k + 1) (by omega))) ?_) | (refine M1 ?_; first | refine SC ?_ | refine SD ?_ | refine XC.cond _ rfl (fun h => ?_) (fun h => ?_)) | (refine M2 ?_; refine SE ?_) | (refine M3 ?_; first | refine SG ?_ | refine SF ?_ | (refine Fw.split _ _ rfl (fun h => ?_) (fun h => ?_) <;> rw [h]) | refine YF (Ev.load_old tok rfl rfl (add_lt2 hlt) (hb.rowVol (i := k + 1) (by omega))) ?_) | (refine M4 ?_; refine SR ?_) | (refine M5 ?_; first | exact M7 | refine YM ?_ | refine YN ?_ ?_)))
    · simp only [decide_eq_true_eq] at h
      have e : segTo b v (k + 1) = k + 1 := by rw [segTo, if_pos h]
      exact XE.round (k + 1) (by omega) (by omega) (by rw [e]; exact ZZSUB) (fun _ h => by first | exact h | exact h.pop (by assumption) | exact (h.pop (by assumption)).pop (by assumption) | exact ((h.pop (by assumption)).pop (by assumption)).pop (by assumption) | exact (((h.pop (by assumption)).pop (by assumption)).pop (by assumption)).pop (by assumption) | exact Sys.anchor (by assumption) h (by simp) (by simp))
    · simp only [decide_eq_false_iff_not] at h
      have e : segTo b v (k + 1) = segTo b v k := by rw [segTo, if_neg h]
      exact XE.round (k + 1) (by omega) (by omega) (by rw [e]; exact ZZSUB) (fun _ h => by first | exact h | exact h.pop (by assumption) | exact (h.pop (by assumption)).pop (by assumption) | exact ((h.pop (by assumption)).pop (by assumption)).pop (by assumption) | exact (((h.pop (by assumption)).pop (by assumption)).pop (by assumption)).pop (by assumption) | exact Sys.anchor (by assumption) h (by simp) (by simp))
  simp only [decide_eq_false_iff_not] at h1
  obtain rfl : k = b.rows.length - 2 := by omega
  have e : (segTo b v (b.rows.length - 2) : Int) = (seg b v : Nat) := rfl
  rw [e]
  repeat (first | (refine M0 ?_; first | refine SL ?_ | refine SB fun _ _ => ?_) | (refine M1 ?_; first | refine SC ?_ | refine SD ?_) | (refine M2 ?_; refine SE ?_) | (refine M3 ?_; first | refine SG ?_ | refine SF ?_) | (refine M4 ?_; refine SR ?_) | (refine M5 ?_; first | exact M7 | refine YM ?_ | refine YN ?_ ?_))
  refine XC.cutln [1] rfl (fun s : Nat × Nat => [(8, .pointer (some ⟨s.1, 0, none⟩)), (9, .pointer (some ⟨s.2, 0, none⟩))]) (fun s => [(s.1, cel 47 (rowC (b.row (seg b v)))), (s.2, cel 47 (rowC (b.row (seg b v + 1))))]) (fun s => w.heap.size ≤ s.1 ∧ w.heap.size ≤ s.2) ?_ ?_
  · refine XC.drawR _ [0, 1, 2, 3, 4, 5, 6, 7, 8, 9, 10] [11, 12, 13, 14] mixed (fun _ h => h) rfl (by kernel_rfl) ?_
    repeat (any_goals (first | (refine M0 ?_; first | refine SL ?_ | refine SB fun _ _ => ?_ | (refine XL.split _ _ rfl (fun h => ?_) (fun h => ?_) <;> rw [h]) | refine Y4 (Ev.load_old_agg tok (rowC (b.row (seg b v))) rfl rfl rfl (add_lt hlt) (hb.row (by omega))) ?_ | refine Y4 (Ev.load_old_agg tok (rowC (b.row (seg b v + 1))) rfl rfl rfl (add_lt hlt) (hb.row hs)) ?_) | (refine M1 ?_; first | refine SC ?_ | refine SD ?_ | refine XC.cond _ rfl (fun h => ?_) (fun h => ?_)) | (refine M2 ?_; refine SE ?_) | (refine M3 ?_; first | refine SG ?_ | refine SF ?_ | (refine Fw.split _ _ rfl (fun h => ?_) (fun h => ?_) <;> rw [h]) | refine YF (Ev.load_old_agg tok (rowC (b.row (seg b v))) rfl rfl rfl (add_lt hlt) (hb.row (by omega))) ?_ | refine YF (Ev.load_old_agg tok (rowC (b.row (seg b v + 1))) rfl rfl rfl (add_lt hlt) (hb.row hs)) ?_) | (refine M4 ?_; refine SR ?_) | (refine M5 ?_; first | exact M7 | refine YM ?_ | refine YN ?_ ?_)))
    all_goals
      refine XE.leaf (_, _) ZZSUB (fun _ S' => by first | exact S' | exact S'.perm (by repeat (first | exact List.Perm.refl _ | refine perm1 ?_ | refine List.Perm.cons _ ?_ | refine perm2 ?_)) | exact (S'.pop (by assumption)) | exact (S'.pop2 (by assumption))) ?_
      exact ⟨by assumption, by assumption⟩
  rintro ⟨g1, g2⟩ ⟨hg1, hg2⟩
  simp only at hg1 hg2
  dsimp only [List.cons_append, List.nil_append]
  refine XC.hint 8 2 (XC.hint 9 1 ?_)
  obtain ⟨hp1, hp2, hp3, hp4⟩ := parts_bd ho hv
  obtain ⟨ht1, ht2⟩ := terms_bd ho hv
  unfold den at hp2
  repeat (first | (refine M0 ?_; first | refine SL ?_ | refine SB fun _ _ => ?_) | (refine M1 ?_; first | refine SC ?_ | refine SD ?_) | (refine M2 ?_; refine SE ?_) | (refine M3 ?_; first | refine SG ?_ | refine SF ?_) | (refine M4 ?_; refine SR ?_) | (refine M5 ?_; first | exact M7 | refine YM ?_ | refine YN ?_ ?_))
  rw [show (b.row (seg b v + 1)).vol - (b.row (seg b v)).vol = den b v from rfl] at *
  repeat (first | (refine M0 ?_; first | refine SL ?_ | refine SB fun _ _ => ?_) | (refine M1 ?_; first | refine SC ?_ | refine SD ?_) | (refine M2 ?_; refine SE ?_) | (refine M3 ?_; first | refine SG ?_ | refine SF ?_) | (refine M4 ?_; refine SR ?_) | (refine M5 ?_; first | exact M7 | refine YM ?_ | refine YN ?_ ?_))
  refine XE.retg tok Try.results78 rfl (by simp only [and_self, and_true]) (fun w' S => ?_)
  exact ⟨rfl, S.toBelow⟩
set_option maxHeartbeats 16000000 in
set_option maxRecDepth 20000 in
theorem ref7Use_any {v : RTV} {t : RTk} {sq p q : SV} {s : Sta} {i : Nat} {before on : List Bool} {w : World} (ht : TskAt w w.heap.size v t) (ho : RtOk t) (hx : (t.b.row 0).vol ≤ s.vol ∧ s.vol ≤ 1000000000) (hi : i < t.outer.length)
    (hb : ListAt boolK w (Lt w.heap.size) p before) (hbl : before.length = t.m) (hf : ListAt boolK w (Lt w.heap.size) q on) (hfl : on.length = t.m) :
    Calls Try.prog 61 #[tskV v t, staV sq s, .int .i64 (i : Nat), svV p, svV q] w fun e w' => e = .returned (useV (t.use s.vol i before on)) ∧ Below w.heap.size w w' := by
  have hex := fun (w5 : World) (hB : Below w.heap.size w w5) => ref7Exact_any (v := s.vol) (ht.sys (Sys.ofBelow hB)).bas ho.ok.rowsOk hx
  obtain ⟨Ap, np, cp⟩ := p
  obtain ⟨Aq, nq, cq⟩ := q
  have lp := hb.len (by decide)
  have lq := hf.len (by decide)
  have lo := ht.outer.len
  have ls := ht.slu.len (by decide)
  have lm := ht.pmp.len (by decide)
  have hdl := t.devs_len
  have hs4 := ho.s2
  have hp4 := ho.p2
  have hmm : t.m = t.slu.length + t.pmp.length := hdl
  have hdl2 : t.devs.length = t.slu.length + t.pmp.length := hdl
  obtain ⟨vp, vq, ⟨Ao, no, co⟩, vr, vc, ⟨As, ns, cs⟩, ⟨Am, nm, cm⟩, von⟩ := v
  simp only at lp lq lo ls lm
  subst lp lq lo ls lm
  have hH := use_head ho hx hi
  have hU : t.use s.vol i before on = match useTo (num t.b s.vol) (den t.b s.vol) (at0 t.outer i) t.devs before on t.devs.length with
    | none => none
    | some (f, e) => some (min f 10000000, e) := rfl
  obtain ⟨ao, rfl, hlo, hco⟩ := ht.outer.at_ (by omega)
  have hcoi := hco i hi
  obtain ⟨n, hn⟩ : ∃ n, n = num t.b s.vol := ⟨_, rfl⟩
  obtain ⟨d, hd⟩ : ∃ d, d = den t.b s.vol := ⟨_, rfl⟩
  obtain ⟨o, hoo⟩ : ∃ o, o = at0 t.outer i := ⟨_, rfl⟩
  rw [← hn, ← hd] at hex
  rw [← hoo] at hcoi
  rw [← hn, ← hd, ← hoo] at hH hU
  simp only [tskV, tskC, staV, staC, basV, basC, svV] at hex ⊢
  refine enter Try.func61 rfl Try.ntmps61 rfl ?_; simp only [frame, Nat.zero_add, Nat.reduceAdd]
  repeat (first | (refine M0 ?_; first | refine SL ?_ | refine SB fun _ _ => ?_ | refine Y4 (Ev.call (f := 78) (ck rfl) rfl (fun w5 S5 => hex w5 S5.toBelow)) ?_ | refine Y4 (Ev.load_old tok rfl rfl (add_lt hlo) hcoi) ?_) | (refine M1 ?_; first | refine SC ?_ | refine SD ?_) | (refine M2 ?_; refine SE ?_) | (refine M3 ?_; first | refine SG ?_ | refine SF ?_ | refine YF (Ev.call (f := 78) (ck rfl) rfl (fun w5 S5 => hex w5 S5.toBelow)) ?_ | refine YF (Ev.load_old tok rfl rfl (add_lt hlo) hcoi) ?_) | (refine M4 ?_; refine SR ?_) | (refine M5 ?_; first | exact M7 | refine YM ?_ | refine YN ?_ ?_))
  rename_i g5 hg5 g6 hg6
  have hod := hH.od
  have hins := hH.ins
  have hd1 := hH.hd
  have hnb := hH.hn
  refine XC.loopk [3, 4, 5, 13, 14, 15] rfl (fun z : Nat × Int × Int => [(18, .int .i64 (z.1 : Nat)), (16, .int .i64 z.2.1), (17, .int .i64 z.2.2)]) (fun _ => [(g6, _), (g5, _)]) (fun _ => w) (fun z => z.1 ≤ t.slu.length ∧ useTo n d o t.devs before on z.1 = some z.2 ∧ (0 ≤ z.2.1 ∧ z.2.1 ≤ 800000000000000000 * z.1) ∧ 0 ≤ z.2.2 ∧ z.2.2 ≤ 5000000000 * z.1) (fun z => t.slu.length - z.1) (0, 0, 0) ⟨Nat.zero_le _, rfl, by simp, by simp⟩ ZZSUB (fun _ h => h) ?_
  rintro ⟨k, f, e⟩ ⟨hk, hto, hfb, heb⟩
  simp only at hk hto hfb heb
  dsimp only [List.cons_append, List.nil_append]
  repeat (first | (refine M0 ?_; first | refine SL ?_ | refine SB fun _ _ => ?_) | (refine M1 ?_; first | refine SC ?_ | refine SD ?_) | (refine M2 ?_; refine SE ?_) | (refine M3 ?_; first | refine SG ?_ | refine SF ?_) | (refine M4 ?_; refine SR ?_) | (refine M5 ?_; first | exact M7 | refine YM ?_ | refine YN ?_ ?_))
  refine XC.cond _ rfl (fun h1 => ?_) (fun h1 => ?_)
  · have hkn : k < t.slu.length := by have := of_decide_eq_true h1; omega
    obtain ⟨as_, rfl, hls⟩ := ht.slu.addr (by decide) (by omega)
    obtain ⟨ap, rfl, hlp⟩ := hb.addr (by decide) (by omega)
    obtain ⟨aq, rfl, hlq⟩ := hf.addr (by decide) (by omega)
    have hbk := boolAt hb (k := k) (by omega)
    have hfk := boolAt hf (k := k) (by omega)
    have hel := ht.slu.elem (List.getElem?_eq_getElem hkn)
    have hdk : t.devs[k]? = some (.slu t.slu[k]) := devs_slu hkn
    have hok := ho.dev _ (List.mem_of_getElem? hdk)
    obtain ⟨z, hz⟩ : ∃ z, z = t.slu[k] := ⟨_, rfl⟩
    rw [← hz] at hdk hok hel
    obtain ⟨hz1, hz2⟩ := hok
    have hel' : ∀ j u, (sluC z)[j]? = some u → w.cell? ((as_.add (k * 3)).add j) = some u := hel
    simp only [sluC] at hel'
    cases hbo : bl on k with
    | true =>
      rw [hbo] at hfk
      by_cases hno : n ≤ o * d
      · repeat (first | (refine M0 ?_; first | refine SL ?_ | refine SB fun _ _ => ?_ | refine Y4 (Ev.load_old_agg tok [.string z.name, .int .i64 z.width, .int .i64 z.move] rfl rfl rfl (add_lt hls) hel') ?_ | refine Y4 (Ev.load_old tok rfl rfl (add_lt hlq) hfk) ?_) | (refine M1 ?_; first | refine SC ?_ | refine SD ?_) | (refine M2 ?_; refine SE ?_) | (refine M3 ?_; first | refine SG ?_ | refine SF ?_ | refine YF (Ev.load_old_agg tok [.string z.name, .int .i64 z.width, .int .i64 z.move] rfl rfl rfl (add_lt hls) hel') ?_ | refine YF (Ev.load_old tok rfl rfl (add_lt hlq) hfk) ?_) | (refine M4 ?_; refine SR ?_) | (refine M5 ?_; first | exact M7 | refine YM ?_ | refine YN ?_ ?_))
        rw [show decide (n ≤ o * d) = true from decide_eq_true hno]
        repeat (first | (refine M0 ?_; first | refine SL ?_ | refine SB fun _ _ => ?_) | (refine M1 ?_; first | refine SC ?_ | refine SD ?_) | (refine M2 ?_; refine SE ?_) | (refine M3 ?_; first | refine SG ?_ | refine SF ?_) | (refine M4 ?_; refine SR ?_) | (refine M5 ?_; first | exact M7 | refine YM ?_ | refine YN ?_ ?_))
        refine XE.retg tok Try.results61 rfl (by simp only [and_self, and_true]) (fun w' S => ?_)
        rw [hU, useTo_none (by omega : k + 1 ≤ t.devs.length) (use_slu_no hto hdk hbo hno)]
        exact ⟨rfl, S.toBelow⟩
      have h4 := mul_bd (X := 10000) (Y := 80000000000000) (x := z.width) (y := n - o * d) (by omega) (by omega)
      have h5 : 0 ≤ z.width * (n - o * d) := Int.mul_nonneg hz1.1 (by omega)
      have h6 := tdiv_sml hd1.1 h5
      have hst := use_slu_on hto hdk hbo hno
      repeat (first | (refine M0 ?_; first | refine SL ?_ | refine SB fun _ _ => ?_ | refine Y4 (Ev.load_old_agg tok [.string z.name, .int .i64 z.width, .int .i64 z.move] rfl rfl rfl (add_lt hls) hel') ?_ | refine Y4 (Ev.load_old tok rfl rfl (add_lt hlq) hfk) ?_) | (refine M1 ?_; first | refine SC ?_ | refine SD ?_) | (refine M2 ?_; refine SE ?_) | (refine M3 ?_; first | refine SG ?_ | refine SF ?_ | refine YF (Ev.load_old_agg tok [.string z.name, .int .i64 z.width, .int .i64 z.move] rfl rfl rfl (add_lt hls) hel') ?_ | refine YF (Ev.load_old tok rfl rfl (add_lt hlq) hfk) ?_) | (refine M4 ?_; refine SR ?_) | (refine M5 ?_; first | exact M7 | refine YM ?_ | refine YN ?_ ?_))
      rw [show decide (n ≤ o * d) = false from decide_eq_false hno]
      repeat (first | (refine M0 ?_; first | refine SL ?_ | refine SB fun _ _ => ?_ | refine Y4 (Ev.load_old tok rfl rfl (add_lt hlq) hfk) ?_) | (refine M1 ?_; first | refine SC ?_ | refine SD ?_) | (refine M2 ?_; refine SE ?_) | (refine M3 ?_; first | refine SG ?_ | refine SF ?_ | refine YF (Ev.load_old tok rfl rfl (add_lt hlq) hfk) ?_) | (refine M4 ?_; refine SR ?_) | (refine M5 ?_; first | exact M7 | refine YM ?_ | refine YN ?_ ?_))
      cases hbb : bl before k with
      | true =>
        rw [hbb, if_pos rfl, Int.add_zero] at hst
        rw [hbb] at hbk
        repeat (first | (refine M0 ?_; first | refine SL ?_ | refine SB fun _ _ => ?_ | refine Y4 (Ev.load_old tok rfl rfl (add_lt hlq) hfk) ?_ | refine Y4 (Ev.load_old tok rfl rfl (add_lt hlp) hbk) ?_ | refine Y4 (Ev.neqB Try.underlying4 rfl rfl) ?_) | (refine M1 ?_; first | refine SC ?_ | refine SD ?_) | (refine M2 ?_; refine SE ?_) | (refine M3 ?_; first | refine SG ?_ | refine SF ?_ | refine YF (Ev.load_old tok rfl rfl (add_lt hlq) hfk) ?_ | refine YF (Ev.load_old tok rfl rfl (add_lt hlp) hbk) ?_ | refine YF (Ev.neqB Try.underlying4 rfl rfl) ?_) | (refine M4 ?_; refine SR ?_) | (refine M5 ?_; first | exact M7 | refine YM ?_ | refine YN ?_ ?_))
        exact XE.round (s := (k, f, e)) (k + 1, _, _) ⟨hkn, hst, by simp only; omega, by simp only; omega⟩ (by simp only; omega) ZZSUB (fun _ h => by first | exact h | exact h.pop (by assumption) | exact (h.pop (by assumption)).pop (by assumption) | exact ((h.pop (by assumption)).pop (by assumption)).pop (by assumption) | exact (((h.pop (by assumption)).pop (by assumption)).pop (by assumption)).pop (by assumption) | exact Sys.anchor (by assumption) h (by simp) (by simp))
      | false =>
        rw [hbb, if_neg (by decide)] at hst
        rw [hbb] at hbk
        repeat (first | (refine M0 ?_; first | refine SL ?_ | refine SB fun _ _ => ?_ | refine Y4 (Ev.load_old tok rfl rfl (add_lt hlq) hfk) ?_ | refine Y4 (Ev.load_old tok rfl rfl (add_lt hlp) hbk) ?_ | refine Y4 (Ev.neqB Try.underlying4 rfl rfl) ?_) | (refine M1 ?_; first | refine SC ?_ | refine SD ?_) | (refine M2 ?_; refine SE ?_) | (refine M3 ?_; first | refine SG ?_ | refine SF ?_ | refine YF (Ev.load_old tok rfl rfl (add_lt hlq) hfk) ?_ | refine YF (Ev.load_old tok rfl rfl (add_lt hlp) hbk) ?_ | refine YF (Ev.neqB Try.underlying4 rfl rfl) ?_) | (refine M4 ?_; refine SR ?_) | (refine M5 ?_; first | exact M7 | refine YM ?_ | refine YN ?_ ?_))
        exact XE.round (s := (k, f, e)) (k + 1, _, _) ⟨hkn, hst, by simp only; omega, by simp only; omega⟩ (by simp only; omega) ZZSUB (fun _ h => by first | exact h | exact h.pop (by assumption) | exact (h.pop (by assumption)).pop (by assumption) | exact ((h.pop (by assumption)).pop (by assumption)).pop (by assumption) | exact (((h.pop (by assumption)).pop (by assumption)).pop (by assumption)).pop (by assumption) | exact Sys.anchor (by assumption) h (by simp) (by simp))
    | false =>
      have hst := use_slu_off hto hdk hbo
      rw [hbo] at hfk
      cases hbb : bl before k with
      | true =>
        rw [hbb, if_neg (by decide)] at hst
        rw [hbb] at hbk
        repeat (first | (refine M0 ?_; first | refine SL ?_ | refine SB fun _ _ => ?_ | refine Y4 (Ev.load_old_agg tok [.string z.name, .int .i64 z.width, .int .i64 z.move] rfl rfl rfl (add_lt hls) hel') ?_ | refine Y4 (Ev.load_old tok rfl rfl (add_lt hlq) hfk) ?_ | refine Y4 (Ev.load_old tok rfl rfl (add_lt hlp) hbk) ?_ | refine Y4 (Ev.neqB Try.underlying4 rfl rfl) ?_) | (refine M1 ?_; first | refine SC ?_ | refine SD ?_) | (refine M2 ?_; refine SE ?_) | (refine M3 ?_; first | refine SG ?_ | refine SF ?_ | refine YF (Ev.load_old_agg tok [.string z.name, .int .i64 z.width, .int .i64 z.move] rfl rfl rfl (add_lt hls) hel') ?_ | refine YF (Ev.load_old tok rfl rfl (add_lt hlq) hfk) ?_ | refine YF (Ev.load_old tok rfl rfl (add_lt hlp) hbk) ?_ | refine YF (Ev.neqB Try.underlying4 rfl rfl) ?_) | (refine M4 ?_; refine SR ?_) | (refine M5 ?_; first | exact M7 | refine YM ?_ | refine YN ?_ ?_))
        exact XE.round (s := (k, f, e)) (k + 1, _, _) ⟨hkn, hst, by simp only; omega, by simp only; omega⟩ (by simp only; omega) ZZSUB (fun _ h => by first | exact h | exact h.pop (by assumption) | exact (h.pop (by assumption)).pop (by assumption) | exact ((h.pop (by assumption)).pop (by assumption)).pop (by assumption) | exact (((h.pop (by assumption)).pop (by assumption)).pop (by assumption)).pop (by assumption) | exact Sys.anchor (by assumption) h (by simp) (by simp))
      | false =>
        rw [hbb, if_pos rfl, Int.add_zero] at hst
        rw [hbb] at hbk
        repeat (first | (refine M0 ?_; first | refine SL ?_ | refine SB fun _ _ => ?_ | refine Y4 (Ev.load_old_agg tok [.string z.name, .int .i64 z.width, .int .i64 z.move] rfl rfl rfl (add_lt hls) hel') ?_ | refine Y4 (Ev.load_old tok rfl rfl (add_lt hlq) hfk) ?_ | refine Y4 (Ev.load_old tok rfl rfl (add_lt hlp) hbk) ?_ | refine Y4 (Ev.neqB Try.underlying4 rfl rfl) ?_) | (refine M1 ?_; first | refine SC ?_ | refine SD ?_) | (refine M2 ?_; refine SE ?_) | (refine M3 ?_; first | refine SG ?_ | refine SF ?_ | refine YF (Ev.load_old_agg tok [.string z.name, .int .i64 z.width, .int .i64 z.move] rfl rfl rfl (add_lt hls) hel') ?_ | refine YF (Ev.load_old tok rfl rfl (add_lt hlq) hfk) ?_ | refine YF (Ev.load_old tok rfl rfl (add_lt hlp) hbk) ?_ | refine YF (Ev.neqB Try.underlying4 rfl rfl) ?_) | (refine M4 ?_; refine SR ?_) | (refine M5 ?_; first | exact M7 | refine YM ?_ | refine YN ?_ ?_))
        exact XE.round (s := (k, f, e)) (k + 1, _, _) ⟨hkn, hst, by simp only; omega, by simp only; omega⟩ (by simp only; omega) ZZSUB (fun _ h => by first | exact h | exact h.pop (by assumption) | exact (h.pop (by assumption)).pop (by assumption) | exact ((h.pop (by assumption)).pop (by assumption)).pop (by assumption) | exact (((h.pop (by assumption)).pop (by assumption)).pop (by assumption)).pop (by assumption) | exact Sys.anchor (by assumption) h (by simp) (by simp))
  have hkn : k = t.slu.length := by have := of_decide_eq_false h1; omega
  subst hkn
  clear h1 hk
  repeat (first | (refine M0 ?_; first | refine SL ?_ | refine SB fun _ _ => ?_) | (refine M1 ?_; first | refine SC ?_ | refine SD ?_) | (refine M2 ?_; refine SE ?_) | (refine M3 ?_; first | refine SG ?_ | refine SF ?_) | (refine M4 ?_; refine SR ?_) | (refine M5 ?_; first | exact M7 | refine YM ?_ | refine YN ?_ ?_))
  refine XC.loopk [3, 4, 5, 13, 14, 15] rfl (fun z : Nat × Int × Int => [(20, .int .i64 (z.1 : Nat)), (16, .int .i64 z.2.1), (17, .int .i64 z.2.2)]) (fun _ => [(g6, _), (g5, _)]) (fun _ => w) (fun z => z.1 ≤ t.pmp.length ∧ useTo n d o t.devs before on (t.slu.length + z.1) = some z.2 ∧ (0 ≤ z.2.1 ∧ z.2.1 ≤ 800000000000000000 * (t.slu.length + z.1)) ∧ 0 ≤ z.2.2 ∧ z.2.2 ≤ 5000000000 * (t.slu.length + z.1)) (fun z => t.pmp.length - z.1) (0, f, e) ⟨Nat.zero_le _, hto, by simp only; omega, by simp only; omega⟩ ZZSUB (fun _ h => h) ?_
  clear hto hfb heb f e
  rintro ⟨k, f, e⟩ ⟨hk, hto, hfb, heb⟩
  simp only at hk hto hfb heb
  dsimp only [List.cons_append, List.nil_append]
  repeat (first | (refine M0 ?_; first | refine SL ?_ | refine SB fun _ _ => ?_) | (refine M1 ?_; first | refine SC ?_ | refine SD ?_) | (refine M2 ?_; refine SE ?_) | (refine M3 ?_; first | refine SG ?_ | refine SF ?_) | (refine M4 ?_; refine SR ?_) | (refine M5 ?_; first | exact M7 | refine YM ?_ | refine YN ?_ ?_))
  refine XC.cond _ rfl (fun h1 => ?_) (fun h1 => ?_)
  rotate_left
  · have hkn : k = t.pmp.length := by have := of_decide_eq_false h1; omega
    subst hkn
    repeat (first | (refine M0 ?_; first | refine SL ?_ | refine SB fun _ _ => ?_) | (refine M1 ?_; first | refine SC ?_ | refine SD ?_) | (refine M2 ?_; refine SE ?_) | (refine M3 ?_; first | refine SG ?_ | refine SF ?_) | (refine M4 ?_; refine SR ?_) | (refine M5 ?_; first | exact M7 | refine YM ?_ | refine YN ?_ ?_))
    refine XE.retg tok Try.results61 rfl (by simp only [and_self, and_true]) (fun w' S => ?_)
    rw [hU, hdl2, hto]
    exact ⟨rfl, S.toBelow⟩
  have hkn : k < t.pmp.length := by have := of_decide_eq_true h1; omega
  obtain ⟨am, rfl, hlm⟩ := ht.pmp.addr (by decide) (by omega)
  obtain ⟨ap, rfl, hlp⟩ := hb.addr (by decide) (by omega)
  obtain ⟨aq, rfl, hlq⟩ := hf.addr (by decide) (by omega)
  have hbk := boolAt hb (k := t.slu.length + k) (by omega)
  have hfk := boolAt hf (k := t.slu.length + k) (by omega)
  have hel := ht.pmp.elem (List.getElem?_eq_getElem hkn)
  have hdk : t.devs[t.slu.length + k]? = some (.pmp t.pmp[k]) := devs_pmp hkn
  have hok := ho.dev _ (List.mem_of_getElem? hdk)
  obtain ⟨z, hz⟩ : ∃ z, z = t.pmp[k] := ⟨_, rfl⟩
  rw [← hz] at hdk hok hel
  obtain ⟨hz1, hz2, hz3, hz4⟩ := hok
  have hel' : ∀ j u, ([.string z.name, .int .i64 z.rate, .int .i64 z.base, .int .i64 z.lift, .int .i64 z.start] : List Value)[j]? = some u → w.cell? ((am.add (k * 5)).add j) = some u := hel
  repeat (first | (refine M0 ?_; first | refine SL ?_ | refine SB fun _ _ => ?_) | (refine M1 ?_; refine SC ?_) | (refine M2 ?_; refine SE ?_))
  refine XC.cutln [3, 4, 5, 13, 14, 15, 16, 17, 20] rfl (fun g21 : Nat => [(21, .pointer (some ⟨g21, 0, none⟩)), (22, .int .i64 ((t.slu.length : Int) + (k : Int)))]) (fun g21 => [(g21, cel 42 [.string z.name, .int .i64 z.rate, .int .i64 z.base, .int .i64 z.lift, .int .i64 z.start])]) (fun g21 => w.heap.size ≤ g21) ?_ (fun g21 hg21 => ?_)
  · refine XC.drawR _ [0, 1, 2, 3, 4, 5, 6, 7, 8, 9] [10, 11, 12] mixed (fun _ h => h) rfl (by kernel_rfl) ?_
    repeat (any_goals (first | (refine M0 ?_; first | refine SL ?_ | refine SB fun _ _ => ?_ | refine Y4 (Ev.load_old_agg tok [.string z.name, .int .i64 z.rate, .int .i64 z.base, .int .i64 z.lift, .int .i64 z.start] rfl rfl rfl (add_lt hlm) hel') ?_) | (refine M1 ?_; refine SC ?_) | (refine M2 ?_; refine SE ?_) | (refine M3 ?_; first | refine SG ?_ | refine SF ?_ | refine YF (Ev.load_old_agg tok [.string z.name, .int .i64 z.rate, .int .i64 z.base, .int .i64 z.lift, .int .i64 z.start] rfl rfl rfl (add_lt hlm) hel') ?_) | (refine M4 ?_; refine SR ?_) | (refine M5 ?_; first | exact M7 | refine YM ?_ | refine YN ?_ ?_)))
    any_goals (repeat (first | exact AnyR.nil | refine AnyR.skip rfl ?_))
    all_goals exact XE.leaf _ ZZSUB (fun _ S' => by first | exact S' | exact S'.perm (by repeat (first | exact List.Perm.refl _ | refine perm1 ?_ | refine List.Perm.cons _ ?_ | refine perm2 ?_)) | exact (S'.pop (by assumption)) | exact (S'.pop2 (by assumption))) (by assumption)
  dsimp only [List.cons_append, List.nil_append]
  refine XC.hint 21 2 ?_
  cases hbo : bl on (t.slu.length + k) with
  | false =>
    have hst := use_pmp_off hto hdk hbo
    rw [hbo] at hfk
    repeat (first | (refine M0 ?_; first | refine SL ?_ | refine SB fun _ _ => ?_ | refine Y4 (Ev.load_old tok rfl rfl (add_lt hlq) hfk) ?_) | (refine M1 ?_; first | refine SC ?_ | refine SD ?_) | (refine M2 ?_; refine SE ?_) | (refine M3 ?_; first | refine SG ?_ | refine SF ?_ | refine YF (Ev.load_old tok rfl rfl (add_lt hlq) hfk) ?_) | (refine M4 ?_; refine SR ?_) | (refine M5 ?_; first | exact M7 | refine YM ?_ | refine YN ?_ ?_))
    exact XE.round (s := (k, f, e)) (k + 1, _, _) ⟨hkn, hst, by simp only; omega, by simp only; omega⟩ (by simp only; omega) ZZSUB (fun _ h => by first | exact h | exact h.pop (by assumption) | exact (h.pop (by assumption)).pop (by assumption) | exact ((h.pop (by assumption)).pop (by assumption)).pop (by assumption) | exact (((h.pop (by assumption)).pop (by assumption)).pop (by assumption)).pop (by assumption) | exact Sys.anchor (by assumption) h (by simp) (by simp))
  | true =>
  have hst := use_pmp_on hd1.1 hto hdk hbo
  rw [hbo] at hfk
  unfold liftE at hst
  repeat (first | (refine M0 ?_; first | refine SL ?_ | refine SB fun _ _ => ?_ | refine Y4 (Ev.load_old tok rfl rfl (add_lt hlq) hfk) ?_) | (refine M1 ?_; first | refine SC ?_ | refine SD ?_) | (refine M2 ?_; refine SE ?_) | (refine M3 ?_; first | refine SG ?_ | refine SF ?_ | refine YF (Ev.load_old tok rfl rfl (add_lt hlq) hfk) ?_) | (refine M4 ?_; refine SR ?_) | (refine M5 ?_; first | exact M7 | refine YM ?_ | refine YN ?_ ?_))
  by_cases hno : n < o * d
  · have hlf := lift_bd (x := o * d - n) (l := z.lift) hd1 hz3 (by omega)
    rw [if_pos hno] at hst
    refine XC.cond _ rfl (fun h2 => ?_) (fun h2 => absurd hno (of_decide_eq_false h2))
    repeat (first | (refine M0 ?_; first | refine SL ?_ | refine SB fun _ _ => ?_ | refine Y4 (Ev.load_old tok rfl rfl (add_lt hlq) hfk) ?_) | (refine M1 ?_; first | refine SC ?_ | refine SD ?_) | (refine M2 ?_; refine SE ?_) | (refine M3 ?_; first | refine SG ?_ | refine SF ?_ | refine YF (Ev.load_old tok rfl rfl (add_lt hlq) hfk) ?_) | (refine M4 ?_; refine SR ?_) | (refine M5 ?_; first | exact M7 | refine YM ?_ | refine YN ?_ ?_))
    cases hbb : bl before (t.slu.length + k) with
    | true =>
      rw [hbb, if_pos rfl, ← Int.add_assoc, ← Int.add_assoc, Int.add_zero] at hst
      rw [hbb] at hbk
      repeat (first | (refine M0 ?_; first | refine SL ?_ | refine SB fun _ _ => ?_ | refine Y4 (Ev.load_old tok rfl rfl (add_lt hlp) hbk) ?_) | (refine M1 ?_; first | refine SC ?_ | refine SD ?_) | (refine M2 ?_; refine SE ?_) | (refine M3 ?_; first | refine SG ?_ | refine SF ?_ | refine YF (Ev.load_old tok rfl rfl (add_lt hlp) hbk) ?_) | (refine M4 ?_; refine SR ?_) | (refine M5 ?_; first | exact M7 | refine YM ?_ | refine YN ?_ ?_))
      exact XE.round (s := (k, f, e)) (k + 1, _, _) ⟨hkn, hst, by simp only; omega, by simp only; omega⟩ (by simp only; omega) ZZSUB (fun _ h => by first | exact h | exact h.pop (by assumption) | exact (h.pop (by assumption)).pop (by assumption) | exact ((h.pop (by assumption)).pop (by assumption)).pop (by assumption) | exact (((h.pop (by assumption)).pop (by assumption)).pop (by assumption)).pop (by assumption) | exact Sys.anchor (by assumption) h (by simp) (by simp))
    | false =>
      rw [hbb, if_neg (by decide), ← Int.add_assoc, ← Int.add_assoc] at hst
      rw [hbb] at hbk
      repeat (first | (refine M0 ?_; first | refine SL ?_ | refine SB fun _ _ => ?_ | refine Y4 (Ev.load_old tok rfl rfl (add_lt hlp) hbk) ?_) | (refine M1 ?_; first | refine SC ?_ | refine SD ?_) | (refine M2 ?_; refine SE ?_) | (refine M3 ?_; first | refine SG ?_ | refine SF ?_ | refine YF (Ev.load_old tok rfl rfl (add_lt hlp) hbk) ?_) | (refine M4 ?_; refine SR ?_) | (refine M5 ?_; first | exact M7 | refine YM ?_ | refine YN ?_ ?_))
      exact XE.round (s := (k, f, e)) (k + 1, _, _) ⟨hkn, hst, by simp only; omega, by simp only; omega⟩ (by simp only; omega) ZZSUB (fun _ h => by first | exact h | exact h.pop (by assumption) | exact (h.pop (by assumption)).pop (by assumption) | exact ((h.pop (by assumption)).pop (by assumption)).pop (by assumption) | exact (((h.pop (by assumption)).pop (by assumption)).pop (by assumption)).pop (by assumption) | exact Sys.anchor (by assumption) h (by simp) (by simp))
  · rw [if_neg hno, Int.add_zero] at hst
    refine XC.cond _ rfl (fun h2 => absurd (of_decide_eq_true h2) hno) (fun h2 => ?_)
    repeat (first | (refine M0 ?_; first | refine SL ?_ | refine SB fun _ _ => ?_) | (refine M1 ?_; first | refine SC ?_ | refine SD ?_) | (refine M2 ?_; refine SE ?_) | (refine M3 ?_; first | refine SG ?_ | refine SF ?_) | (refine M4 ?_; refine SR ?_) | (refine M5 ?_; first | exact M7 | refine YM ?_ | refine YN ?_ ?_))
    cases hbb : bl before (t.slu.length + k) with
    | true =>
      rw [hbb, if_pos rfl, ← Int.add_assoc, Int.add_zero] at hst
      rw [hbb] at hbk
      repeat (first | (refine M0 ?_; first | refine SL ?_ | refine SB fun _ _ => ?_ | refine Y4 (Ev.load_old tok rfl rfl (add_lt hlp) hbk) ?_) | (refine M1 ?_; first | refine SC ?_ | refine SD ?_) | (refine M2 ?_; refine SE ?_) | (refine M3 ?_; first | refine SG ?_ | refine SF ?_ | refine YF (Ev.load_old tok rfl rfl (add_lt hlp) hbk) ?_) | (refine M4 ?_; refine SR ?_) | (refine M5 ?_; first | exact M7 | refine YM ?_ | refine YN ?_ ?_))
      exact XE.round (s := (k, f, e)) (k + 1, _, _) ⟨hkn, hst, by simp only; omega, by simp only; omega⟩ (by simp only; omega) ZZSUB (fun _ h => by first | exact h | exact h.pop (by assumption) | exact (h.pop (by assumption)).pop (by assumption) | exact ((h.pop (by assumption)).pop (by assumption)).pop (by assumption) | exact (((h.pop (by assumption)).pop (by assumption)).pop (by assumption)).pop (by assumption) | exact Sys.anchor (by assumption) h (by simp) (by simp))
    | false =>
      rw [hbb, if_neg (by decide), ← Int.add_assoc] at hst
      rw [hbb] at hbk
      repeat (first | (refine M0 ?_; first | refine SL ?_ | refine SB fun _ _ => ?_ | refine Y4 (Ev.load_old tok rfl rfl (add_lt hlp) hbk) ?_) | (refine M1 ?_; first | refine SC ?_ | refine SD ?_) | (refine M2 ?_; refine SE ?_) | (refine M3 ?_; first | refine SG ?_ | refine SF ?_ | refine YF (Ev.load_old tok rfl rfl (add_lt hlp) hbk) ?_) | (refine M4 ?_; refine SR ?_) | (refine M5 ?_; first | exact M7 | refine YM ?_ | refine YN ?_ ?_))
      exact XE.round (s := (k, f, e)) (k + 1, _, _) ⟨hkn, hst, by simp only; omega, by simp only; omega⟩ (by simp only; omega) ZZSUB (fun _ h => by first | exact h | exact h.pop (by assumption) | exact (h.pop (by assumption)).pop (by assumption) | exact ((h.pop (by assumption)).pop (by assumption)).pop (by assumption) | exact (((h.pop (by assumption)).pop (by assumption)).pop (by assumption)).pop (by assumption) | exact Sys.anchor (by assumption) h (by simp) (by simp))
end Go.Proofs.Ytmckmlmfilmiaaa.X
/-
  The walks of the document's asked, Use, choices and Cheapest (runoff).
-/
namespace Go.Proofs.Ytmckmlmfilmiaaa.X
open Go Go.RowKit Go.Proofs.Ytmckmlmfilmiaaa.Bs
set_option linter.unusedVariables false
set_option maxHeartbeats 8000000 in
theorem refAsked_any {v : RTV} {t : RTk} {sq p : SV} {s : Sta} {i : Int} {n : Nat} {w : World} (ht : TskAt w w.heap.size v t) (hn : t.slu.length + t.pmp.length ≤ 5000000) (hq : IntsAt w (Lt w.heap.size) sq s.fil) (hpn : p.n = n) :
    Calls Try.prog 59 #[tskV v t, staV sq s, .int .i64 i, svV p] w fun e w' => e = .returned (.int .i64 (askE t s i n)) ∧ Below w.heap.size w w' := by
  have hgo := fun (w5 : World) (hB : Below w.heap.size w w5) => good7_any (v := v) (t := t) (w := w5) (ht.sys (Sys.ofBelow hB)) hn
  have hsta := fun (w5 : World) (hB : Below w.heap.size w w5) => refCheckState_any (p := v.p) (b := t.b) (q := sq) (s := s) (w := w5) (ht.sys (Sys.ofBelow hB)).bas ((hq.keep fun k hk => hB.block k hk).mono fun k hk => Nat.lt_of_lt_of_le hk hB.size)
  have hma := fun (w5 : World) => many_any (v := v) (t := t) (w := w5) (ht.slu.len (by decide)) (ht.pmp.len (by decide)) hn
  have lo := ht.outer.len
  have mo := ht.outer.max
  have hE : askE t s i n = if rtE t ≠ 0 then rtE t else if staErr t.b s ≠ 0 then staErr t.b s else if outB i 0 ((t.outer.length : Int) - 1) = true then 4 else if n ≠ t.m then 2 else 0 := rfl
  have hmm : t.m = t.many := t.devs_len
  obtain ⟨Ap, np, cp⟩ := p
  simp only at hpn
  subst hpn
  simp only [tskV, tskC, svV, staV, staC, basV, basC] at hgo hsta hma ⊢
  refine enter Try.func59 rfl Try.ntmps59 rfl ?_; simp only [frame, Nat.zero_add, Nat.reduceAdd]
  repeat (first | (refine M0 ?_; first | refine SL ?_ | refine SB fun _ _ => ?_ | refine Y4 (Ev.call (f := 39) (ck rfl) rfl (fun w5 S5 => hgo w5 S5.toBelow)) ?_) | (refine M1 ?_; refine SC ?_) | (refine M2 ?_; refine SE ?_))
  by_cases h0 : rtE t = 0
  rotate_left
  · rw [if_pos h0] at hE
    refine XC.cond _ rfl (fun h1 => absurd (of_decide_eq_true h1) h0) (fun h1 => ?_)
    repeat (first | (refine M0 ?_; first | refine SL ?_ | refine SB fun _ _ => ?_) | (refine M1 ?_; refine SC ?_) | (refine M2 ?_; refine SE ?_))
    rw [show decide (rtE t = 0) = false from decide_eq_false h0]
    repeat (first | (refine M0 ?_; first | refine SL ?_ | refine SB fun _ _ => ?_) | (refine M1 ?_; refine SC ?_) | (refine M2 ?_; refine SE ?_))
    rw [show decide (rtE t = 0) = false from decide_eq_false h0]
    repeat (first | (refine M0 ?_; first | refine SL ?_ | refine SB fun _ _ => ?_) | (refine M1 ?_; refine SC ?_) | (refine M2 ?_; refine SE ?_))
    refine XE.retg tok Try.results59 rfl (by simp only [and_self, and_true]) (fun w' S => ?_)
    rw [hE]
    exact ⟨rfl, S.toBelow⟩
  rw [if_neg (by simp [h0])] at hE
  refine XC.cond _ rfl (fun h1 => ?_) (fun h1 => absurd h0 (of_decide_eq_false h1))
  repeat (first | (refine M0 ?_; first | refine SL ?_ | refine SB fun _ _ => ?_ | refine Y4 (Ev.call (f := 84) (ck rfl) rfl (fun w5 S5 => hsta w5 S5.toBelow)) ?_) | (refine M1 ?_; refine SC ?_) | (refine M2 ?_; refine SE ?_))
  by_cases h2 : staErr t.b s = 0
  rotate_left
  · rw [if_pos h2] at hE
    rw [show decide (staErr t.b s = 0) = false from decide_eq_false h2]
    repeat (first | (refine M0 ?_; first | refine SL ?_ | refine SB fun _ _ => ?_) | (refine M1 ?_; refine SC ?_) | (refine M2 ?_; refine SE ?_))
    rw [show decide (staErr t.b s = 0) = false from decide_eq_false h2]
    repeat (first | (refine M0 ?_; first | refine SL ?_ | refine SB fun _ _ => ?_) | (refine M1 ?_; refine SC ?_) | (refine M2 ?_; refine SE ?_))
    refine XE.retg tok Try.results59 rfl (by simp only [and_self, and_true]) (fun w' S => ?_)
    rw [hE]
    exact ⟨rfl, S.toBelow⟩
  rw [if_neg (by simp [h2])] at hE
  rw [show decide (staErr t.b s = 0) = true from decide_eq_true h2, h2]
  cases h3 : outB i 0 ((t.outer.length : Int) - 1) with
  | true =>
    rw [h3, if_pos rfl] at hE
    rw [← lo] at h3
    repeat (first | (refine M0 ?_; first | refine SL ?_ | refine SB fun _ _ => ?_ | refine Y4 (Ev.call (f := 63) (ck rfl) rfl (fun w5 S5 => inP h3 w5)) ?_) | (refine M1 ?_; refine SC ?_) | (refine M2 ?_; refine SE ?_))
    refine XE.retg tok Try.results59 rfl (by simp only [and_self, and_true]) (fun w' S => ?_)
    rw [hE]
    exact ⟨rfl, S.toBelow⟩
  | false =>
  rw [h3, if_neg (by decide)] at hE
  rw [← lo] at h3
  repeat (first | (refine M0 ?_; first | refine SL ?_ | refine SB fun _ _ => ?_ | refine Y4 (Ev.call (f := 63) (ck rfl) rfl (fun w5 S5 => inP h3 w5)) ?_ | refine Y4 (Ev.call (f := 60) (ck rfl) rfl (fun w5 S5 => hma w5)) ?_) | (refine M1 ?_; refine SC ?_) | (refine M2 ?_; refine SE ?_))
  refine XC.cond _ rfl (fun h4 => ?_) (fun h4 => ?_)
  · have h4' : np ≠ t.m := by have := of_decide_eq_true h4; omega
    rw [if_pos h4'] at hE
    repeat (first | (refine M0 ?_; first | refine SL ?_ | refine SB fun _ _ => ?_) | (refine M1 ?_; refine SC ?_) | (refine M2 ?_; refine SE ?_))
    refine XE.retg tok Try.results59 rfl (by simp only [and_self, and_true]) (fun w' S => ?_)
    rw [hE]
    exact ⟨rfl, S.toBelow⟩
  · have h4' : np = t.m := by have := of_decide_eq_false h4; omega
    rw [if_neg (by simp [h4'])] at hE
    repeat (first | (refine M0 ?_; first | refine SL ?_ | refine SB fun _ _ => ?_) | (refine M1 ?_; refine SC ?_) | (refine M2 ?_; refine SE ?_))
    refine XE.retg tok Try.results59 rfl (by simp only [and_self, and_true]) (fun w' S => ?_)
    rw [hE]
    exact ⟨rfl, S.toBelow⟩
set_option maxHeartbeats 8000000 in
theorem refUse_any {v : RTV} {t : RTk} {sq p q : SV} {s : Sta} {i : Int} {b f : List Bool} {w : World} (ht : TskAt w w.heap.size v t) (hn : t.slu.length + t.pmp.length ≤ 5000000) (hq : IntsAt w (Lt w.heap.size) sq s.fil) (hb : ListAt boolK w (Lt w.heap.size) p b) (hf : ListAt boolK w (Lt w.heap.size) q f) :
    Calls Try.prog 30 #[tskV v t, staV sq s, .int .i64 i, svV p, svV q] w fun e w' => e = .returned (.tuple ⟨[.int .i64 (useN t s i b f).1, .int .i64 (useN t s i b f).2, .int .i64 (useE t s i b f)]⟩) ∧ Below w.heap.size w w' := by
  have hpn := hb.len (by decide)
  have hqn := hf.len (by decide)
  have hmm : t.m = t.many := t.devs_len
  have hma := fun (w5 : World) => many_any (v := v) (t := t) (w := w5) (ht.slu.len (by decide)) (ht.pmp.len (by decide)) hn
  have hask := fun (w5 : World) (hB : Below w.heap.size w w5) => refAsked_any (v := v) (t := t) (w := w5) (sq := sq) (s := s) (i := i) (p := p) (n := b.length) (ht.sys (Sys.ofBelow hB)) hn ((hq.keep fun k hk => hB.block k hk).mono fun k hk => Nat.lt_of_lt_of_le hk hB.size) hpn
  have huse := fun (w5 : World) (hB : Below w.heap.size w w5) (h0 : RtOk t) (hx : (t.b.row 0).vol ≤ s.vol ∧ s.vol ≤ 1000000000) {j : Nat} (hj : j < t.outer.length) (h1 : b.length = t.m) (h2 : f.length = t.m) => ref7Use_any (sq := sq) (s := s) (i := j) (ht.sys (Sys.ofBelow hB)) h0 hx hj ((hb.keep fun k hk => hB.block k hk).mono fun k hk => Nat.lt_of_lt_of_le hk hB.size) h1 ((hf.keep fun k hk => hB.block k hk).mono fun k hk => Nat.lt_of_lt_of_le hk hB.size) h2
  have hE : useE t s i b f = if askE t s i b.length ≠ 0 then askE t s i b.length else if f.length ≠ t.m then 2 else match t.use s.vol i.toNat b f with
    | none => 170
    | some _ => 0 := rfl
  have hN : useN t s i b f = if useE t s i b f = 0 then (t.use s.vol i.toNat b f).getD (0, 0) else (0, 0) := rfl
  obtain ⟨Ap, np, cp⟩ := p
  obtain ⟨Aq, nq, cq⟩ := q
  simp only at hpn hqn
  subst hpn hqn
  simp only [tskV, tskC, svV, staV, staC] at hask huse hma ⊢
  refine enter Try.func30 rfl Try.ntmps30 rfl ?_; simp only [frame, Nat.zero_add, Nat.reduceAdd]
  repeat (first | (refine M0 ?_; first | refine SL ?_ | refine SB fun _ _ => ?_ | refine Y4 (Ev.call (f := 59) (ck rfl) rfl (fun w5 S5 => hask w5 S5.toBelow)) ?_) | (refine M1 ?_; refine SC ?_) | (refine M2 ?_; refine SE ?_))
  by_cases h0 : askE t s i b.length = 0
  rotate_left
  · rw [if_pos h0] at hE
    rw [if_neg (by rw [hE]; exact h0)] at hN
    rw [show decide (askE t s i b.length = 0) = false from decide_eq_false h0]
    repeat (first | (refine M0 ?_; first | refine SL ?_ | refine SB fun _ _ => ?_) | (refine M1 ?_; refine SC ?_) | (refine M2 ?_; refine SE ?_))
    refine XC.cond _ rfl (fun h1 => ?_) (fun h1 => absurd (by simpa using h1) h0)
    repeat (first | (refine M0 ?_; first | refine SL ?_ | refine SB fun _ _ => ?_) | (refine M1 ?_; refine SC ?_) | (refine M2 ?_; refine SE ?_))
    refine XE.retg tok Try.results30 rfl (by simp only [and_self, and_true]) (fun w' S => ?_)
    rw [hN, hE]
    exact ⟨rfl, S.toBelow⟩
  rw [if_neg (by simp [h0])] at hE
  obtain ⟨hr0, hst, hi, hbl⟩ := askE_0 h0
  have ho := rtOk_of hr0
  rw [show decide (askE t s i b.length = 0) = true from decide_eq_true h0, h0]
  repeat (first | (refine M0 ?_; first | refine SL ?_ | refine SB fun _ _ => ?_ | refine Y4 (Ev.call (f := 60) (ck rfl) rfl (fun w5 S5 => hma w5)) ?_) | (refine M1 ?_; refine SC ?_) | (refine M2 ?_; refine SE ?_))
  refine XC.cond _ rfl (fun h1 => ?_) (fun h1 => ?_)
  · have h1' : f.length ≠ t.m := by have := of_decide_eq_true h1; omega
    rw [if_pos h1'] at hE
    rw [if_neg (by rw [hE]; decide)] at hN
    repeat (first | (refine M0 ?_; first | refine SL ?_ | refine SB fun _ _ => ?_) | (refine M1 ?_; refine SC ?_) | (refine M2 ?_; refine SE ?_))
    refine XE.retg tok Try.results30 rfl (by simp only [and_self, and_true]) (fun w' S => ?_)
    rw [hN, hE]
    exact ⟨rfl, S.toBelow⟩
  have h1' : f.length = t.m := by have := of_decide_eq_false h1; omega
  rw [if_neg (by simp [h1'])] at hE
  obtain ⟨j, rfl⟩ : ∃ j : Nat, i = j := ⟨i.toNat, by omega⟩
  have hj : j < t.outer.length := by omega
  rw [Int.toNat_natCast] at hE hN
  repeat (first | (refine M0 ?_; first | refine SL ?_ | refine SB fun _ _ => ?_) | (refine M1 ?_; refine SC ?_) | (refine M2 ?_; refine SE ?_))
  refine XL.step _ (Ev.call (f := 61) (ck rfl) rfl (fun w5 S5 => huse w5 S5.toBelow ho hst.vol hj hbl h1')) rfl ?_
  cases hU : t.use s.vol j b f with
  | none =>
    rw [hU] at hE
    simp only at hE
    rw [if_neg (by rw [hE]; decide)] at hN
    simp only [useV]
    repeat (first | (refine M0 ?_; first | refine SL ?_ | refine SB fun _ _ => ?_) | (refine M1 ?_; refine SC ?_) | (refine M2 ?_; refine SE ?_))
    refine XE.retg tok Try.results30 rfl (by simp only [and_self, and_true]) (fun w' S => ?_)
    rw [hN, hE]
    exact ⟨rfl, S.toBelow⟩
  | some y =>
    rw [hU] at hE hN
    simp only at hE
    rw [if_pos hE] at hN
    simp only [useV]
    repeat (first | (refine M0 ?_; first | refine SL ?_ | refine SB fun _ _ => ?_) | (refine M1 ?_; refine SC ?_) | (refine M2 ?_; refine SE ?_))
    refine XE.retg tok Try.results30 rfl (by simp only [and_self, and_true]) (fun w' S => ?_)
    rw [hN, hE]
    exact ⟨rfl, S.toBelow⟩
end Go.Proofs.Ytmckmlmfilmiaaa.X
/-
  The walks of the document's choices and Cheapest; the law RunoffUses.
-/
namespace Go.Proofs.Ytmckmlmfilmiaaa.Bs
open Go.Proofs.Ytmckmlmfilmiaaa.X
def chs (n m : Nat) : List (List Bool) := (List.range m).map (chc n)
theorem chs_succ (n m : Nat) : chs n (m + 1) = chs n m ++ [chc n m] := by unfold chs; rw [List.range_succ, List.map_append]; rfl
theorem chs_at {n m k : Nat} {α : Type} {es : List (α × List Bool)} (h : es.map (·.2) = chs n m) (hk : k < es.length) : es[k].2 = chc n k := by
  have h1 : (es.map (·.2))[k]? = (chs n m)[k]? := by rw [h]
  have h2 : es.length = m := by have := congrArg List.length h; simpa [chs] using this
  unfold chs at h1
  rw [List.getElem?_map, List.getElem?_map, List.getElem?_eq_getElem hk, List.getElem?_range (by omega)] at h1
  simpa using h1
theorem chc_pair {n i k : Nat} (hi : i < 2) (hk : k < 2 ^ n) : chc (n + 1) (i * 2 ^ n + k) = decide ((i : Int) = 1) :: chc n k := by
  match i, hi with
  | 0, _ => rw [Nat.zero_mul, Nat.zero_add, chc_0 hk]; rfl
  | 1, _ => rw [Nat.one_mul, chc_1 hk]; rfl
end Go.Proofs.Ytmckmlmfilmiaaa.Bs
namespace Go.Proofs.Ytmckmlmfilmiaaa.X
open Go Go.RowKit Go.Proofs.Ytmckmlmfilmiaaa.Bs
set_option linter.unusedVariables false
def ChoV (n : Nat) (x : Value) (new : List Held) : Prop := ∃ (q : SV) (es : List (SV × List Bool)), x = svV q ∧ es.map (·.2) = chs n (2 ^ n) ∧ new = [hList plnK q es]
structure CiSt where
  k : Nat
  W : World
  rq : SV
  es : List (SV × List Bool)
structure CiInv (w : World) (n a m : Nat) (q : SV) (e1 : List (SV × List Bool)) (ks : List Nat) (z : CiSt) : Prop where
  le : z.k ≤ m
  bel : Below w.heap.size w z.W
  fam : Fam z.W w.heap.size ks [⟨SV × List Bool, plnK, svV z.rq, z.es⟩] [hList plnK q e1]
  es : z.es.map (·.2) = chs n (a + z.k)
structure CoSt where
  i : Nat
  W : World
  rq : SV
  es : List (SV × List Bool)
structure CoInv (w : World) (n a : Nat) (q : SV) (e1 : List (SV × List Bool)) (ks : List Nat) (z : CoSt) : Prop where
  le : z.i ≤ 2
  bel : Below w.heap.size w z.W
  fam : Fam z.W w.heap.size ks [⟨SV × List Bool, plnK, svV z.rq, z.es⟩] [hList plnK q e1]
  es : z.es.map (·.2) = chs n (z.i * a)
set_option maxHeartbeats 8000000 in
theorem refChoices_made : ∀ {n : Nat}, n ≤ 4 → ∀ {w : World}, Calls Try.prog 64 #[.int .i64 (n : Nat)] w (Made w (ChoV n)) := by
  intro n
  induction n with
  | zero =>
    intro _ w
    refine enter Try.func64 rfl Try.ntmps64 rfl ?_; simp only [frame, Nat.zero_add, Nat.reduceAdd]
    repeat (first | (refine M0 ?_; first | refine SL ?_ | refine SB fun _ _ => ?_) | (refine M1 ?_; refine SC ?_) | (refine M2 ?_; refine SE ?_))
    refine XL.newRow tok (K := plnK) (l := [(⟨none, 0, 0⟩, [])]) rfl rfl rfl rfl rfl rfl rfl rfl rfl ⟨rfl, rfl⟩ rfl rfl (Fam.start (ks := []) (Nat.le_refl w.heap.size)) (fun _ h => by cases h) (Below.refl w.heap.size w) (Nat.le_refl _) (fun a ha x hx => by
      rw [List.mem_singleton.1 ha] at hx
      rw [List.mem_singleton.1 hx]
      exact ListAt.nil) (fun w7 g7 hF7 hB7 hk7 => ?_)
    repeat (first | (refine M0 ?_; first | refine SL ?_ | refine SB fun _ _ => ?_) | (refine M1 ?_; refine SC ?_) | (refine M2 ?_; refine SE ?_))
    refine XE.retg tok Try.results64 rfl (by simp only [and_self, and_true]) (fun w' S => ?_)
    have F9 := Fam.freeze (r := ⟨some ⟨g7, 0, none⟩, 1, 1⟩) (hF7.sys S ZZHL)
    refine ⟨_, _, rfl, ⟨⟨some ⟨g7, 0, none⟩, 1, 1⟩, [(⟨none, 0, 0⟩, [])], rfl, rfl, rfl⟩, fun x hx => ?_, hB7.trans S.toBelow⟩
    rw [List.mem_singleton.1 hx]
    exact F9.get (.head _)
  | succ n ih =>
    intro hn w
    have h8 : 2 ^ n ≤ 8 := by
      have : 2 ^ n ≤ 2 ^ 3 := Nat.pow_le_pow_right (by decide) (by omega)
      omega
    obtain ⟨M, hM⟩ : ∃ M, M = 2 ^ n := ⟨_, rfl⟩
    refine enter Try.func64 rfl Try.ntmps64 rfl ?_; simp only [frame, Nat.zero_add, Nat.reduceAdd]
    repeat (first | (refine M0 ?_; first | refine SL ?_ | refine SB fun _ _ => ?_) | (refine M1 ?_; refine SC ?_) | (refine M2 ?_; refine SE ?_))
    rw [show ((n + 1 : Nat) : Int) - 1 = (n : Nat) by omega]
    refine XL.callF (ks := []) (rs := []) (hs := []) (b0 := w.heap.size) (wE := w) (ChoV n) (ck rfl) rfl rfl (Fam.start (Nat.le_refl _)) (fun k hk => by cases hk) (Below.refl _ _) (fun w1 S1 _ hB1 => ih (by omega)) (fun w2 x new hR hF2 hB2 hk2 => ?_) (fun e he => by cases he)
    obtain ⟨⟨A1, n1, c1⟩, e1, rfl, he1, rfl⟩ := hR
    have hl1 : e1.length = 2 ^ n := by have := congrArg List.length he1; simpa [chs] using this
    have hp2 : ListAt plnK w2 _ ⟨A1, n1, c1⟩ e1 := hF2.held (hList plnK ⟨A1, n1, c1⟩ e1) (.head _)
    have hn1 := hp2.len (by decide)
    simp only at hn1
    subst hn1
    clear hp2
    rw [← hM] at hl1 h8
    have F2 : Fam w2 w.heap.size [] [⟨SV × List Bool, plnK, svV ⟨none, 0, 0⟩, []⟩] [hList plnK ⟨A1, e1.length, c1⟩ e1] := hF2.nil plnK
    simp only [svV]
    repeat (first | (refine M0 ?_; first | refine SL ?_ | refine SB fun _ _ => ?_) | (refine M1 ?_; refine SC ?_) | (refine M2 ?_; refine SE ?_))
    refine XC.loopk [4] rfl (fun z : CoSt => [(5, .int .i64 (z.i : Nat)), (3, svV z.rq)]) (fun _ => []) (fun z => z.W) (CoInv w (n + 1) M ⟨A1, e1.length, c1⟩ e1 []) (fun z => 2 - z.i) ⟨0, w2, ⟨none, 0, 0⟩, []⟩ ⟨Nat.zero_le _, hB2, F2, by simp [chs]⟩ ZZSUB (fun _ h => h) ?_
    clear hF2 F2 hB2 hk2
    rintro ⟨i, W, rq, es⟩ ⟨hi, hBW, hFW, hes⟩
    simp only at hi hBW hFW hes
    simp only [svV]
    dsimp only [List.cons_append, List.nil_append]
    repeat (first | (refine M0 ?_; first | refine SL ?_ | refine SB fun _ _ => ?_) | (refine M1 ?_; refine SC ?_) | (refine M2 ?_; refine SE ?_))
    refine XC.cond _ rfl (fun h2 => ?_) (fun h2 => ?_)
    rotate_left
    · have hi2 : i = 2 := by have := of_decide_eq_false h2; omega
      subst hi2
      repeat (first | (refine M0 ?_; first | refine SL ?_ | refine SB fun _ _ => ?_) | (refine M1 ?_; refine SC ?_) | (refine M2 ?_; refine SE ?_))
      refine XE.retg tok Try.results64 rfl (by simp only [and_self, and_true]) (fun w' S => ?_)
      have F9 := Fam.freeze (r := rq) (hFW.sys S ZZHL)
      refine ⟨_, _, rfl, ⟨rq, es, rfl, ?_, rfl⟩, fun x hx => ?_, hBW.trans S.toBelow⟩
      · rw [hes, Nat.pow_succ, ← hM, Nat.mul_comm]
      · rw [List.mem_singleton.1 hx]
        exact F9.get (.head _)
    have hi2 : i < 2 := by have := of_decide_eq_true h2; omega
    repeat (first | (refine M0 ?_; first | refine SL ?_ | refine SB fun _ _ => ?_) | (refine M1 ?_; refine SC ?_) | (refine M2 ?_; refine SE ?_))
    refine XC.loopk [4, 5] rfl (fun z : CiSt => [(6, .int .i64 (z.k : Nat)), (3, svV z.rq)]) (fun _ => []) (fun z => z.W) (CiInv w (n + 1) (i * M) M ⟨A1, e1.length, c1⟩ e1 []) (fun z => M - z.k) ⟨0, W, rq, es⟩ ⟨Nat.zero_le _, hBW, hFW, hes⟩ ZZSUB (fun _ h => h) ?_
    clear hes hFW hBW W rq es
    rintro ⟨k, W, rq, es⟩ ⟨hk, hBW, hFW, hes⟩
    simp only at hk hBW hFW hes
    simp only [svV]
    dsimp only [List.cons_append, List.nil_append]
    repeat (first | (refine M0 ?_; first | refine SL ?_ | refine SB fun _ _ => ?_) | (refine M1 ?_; refine SC ?_) | (refine M2 ?_; refine SE ?_))
    refine XC.cond _ rfl (fun h3 => ?_) (fun h3 => ?_)
    rotate_left
    · have hkM : k = M := by have := of_decide_eq_false h3; omega
      subst hkM
      repeat (first | (refine M0 ?_; first | refine SL ?_ | refine SB fun _ _ => ?_) | (refine M1 ?_; refine SC ?_) | (refine M2 ?_; refine SE ?_))
      refine XE.roundW (s := CoSt.mk i W rq es) (fun w6 S6 => ⟨CoSt.mk (i + 1) w6 rq es, ⟨hi2, hBW.trans S6.toBelow, hFW.sys S6 ZZHL, ?_⟩, by simp only; omega, ZZSUB, S6.rebase ZZSL⟩)
      simp only
      rw [hes, Nat.add_mul, Nat.one_mul]
    have hkM : k < M := by have := of_decide_eq_true h3; omega
    have hke : k < e1.length := by omega
    have hel : es.length = i * M + k := by have := congrArg List.length hes; simpa [chs] using this
    have hiM : i * M ≤ 1 * 8 := Nat.mul_le_mul (by omega) h8
    repeat (first | (refine M0 ?_; first | refine SL ?_ | refine SB fun _ _ => ?_) | (refine M1 ?_; refine SC ?_) | (refine M2 ?_; refine SE ?_))
    refine XL.newRow tok (K := boolK) (l := [decide ((i : Int) = 1)]) rfl rfl rfl rfl rfl rfl rfl rfl rfl ⟨rfl, rfl⟩ rfl rfl hFW (fun _ h => by cases h) hBW hBW.size (fun a ha x hx => by cases hx) (fun w7 g7 hF7 hB7 hk7 => ?_)
    have hp7 : ListAt plnK w7 _ ⟨A1, e1.length, c1⟩ e1 := hF7.held (hList plnK ⟨A1, e1.length, c1⟩ e1) (.head _)
    obtain ⟨a1, ha1, hf1⟩ := hp7.addr (by decide) (by omega)
    subst ha1
    have hcell := hp7.elem (List.getElem?_eq_getElem hke) 0 (svV e1[k].1) rfl
    rw [add_add, Nat.add_zero] at hcell
    have hb7 : ListAt boolK w7 _ e1[k].1 e1[k].2 := hp7.ins e1[k] (List.getElem_mem hke) (hList boolK e1[k].1 e1[k].2) (.head _)
    have hon := chs_at he1 hke
    obtain ⟨oq, hoq⟩ : ∃ oq, oq = e1[k].1 := ⟨_, rfl⟩
    obtain ⟨on, hon'⟩ : ∃ on, on = e1[k].2 := ⟨_, rfl⟩
    rw [← hoq] at hcell hb7
    rw [← hon'] at hb7 hon
    have honl : on.length = n := by rw [hon, chc_len]
    simp only [svV] at hcell
    repeat (first | (refine M0 ?_; first | refine SL ?_ | refine SB fun _ _ => ?_ | refine Y4 (Ev.load_far tok rfl rfl (by rw [add_block]; exact hf1.2.1) (Free.far hf1 ZZHL) hcell) ?_) | (refine M1 ?_; refine SC ?_) | (refine M2 ?_; refine SE ?_))
    refine XL.pushL (K := boolK) (l := [decide ((i : Int) = 1)]) (l2 := on) (r2 := oq) (wE := w) 0 bools_el (by decide) rfl rfl rfl hF7 rfl hk7 hB7 (Nat.le_refl _) (fun w9 S9 => hb7.sys S9 (fun j hj => ⟨hj.2.1, fun e he => by cases he⟩)) (fun a ha x hx => by cases hx) (fun a => rfl) (by simp; omega) (by decide) (fun w8 v8 hF8 hB8 hk8 => ?_)
    obtain ⟨r8, rfl, hn8⟩ := hF8.sv (K := boolK) (l := [decide ((i : Int) = 1)] ++ on) (.head _)
    have F8 := Fam.freeze (r := r8) hF8
    simp only [svV]
    repeat (first | (refine M0 ?_; first | refine SL ?_ | refine SB fun _ _ => ?_ | refine XL.buildSlice tok rfl rfl rfl rfl rfl rfl rfl rfl rfl (fun _ _ => ?_)) | (refine M1 ?_; refine SC ?_) | (refine M2 ?_; refine SE ?_))
    refine XL.push (K := plnK) (a := (r8, [decide ((i : Int) = 1)] ++ on)) (wE := w) 0 plan_el (by decide) rfl rfl rfl F8 rfl hk8 hB8 (Nat.le_refl _) rfl (by omega) (by decide) (fun x hx => by rw [List.mem_singleton.1 hx]; exact .head _) (fun w9 v9 hF9 hB9 hk9 => ?_)
    obtain ⟨r9, rfl, hn9⟩ := hF9.sv (K := plnK) (l := es ++ [(r8, [decide ((i : Int) = 1)] ++ on)]) (.head _)
    simp only [svV]
    repeat (first | (refine M0 ?_; first | refine SL ?_ | refine SB fun _ _ => ?_) | (refine M1 ?_; refine SC ?_) | (refine M2 ?_; refine SE ?_))
    refine XE.roundW (s := CiSt.mk k W rq es) (fun w6 S6 => ⟨CiSt.mk (k + 1) w6 r9 (es ++ [(r8, [decide ((i : Int) = 1)] ++ on)]), ⟨hkM, hB9.trans S6.toBelow, Fam.forget ((hF9.sys S6 ZZHL).add (ks' := []) (fun k hk => by cases hk)) (fun x hx => by rw [List.mem_singleton.1 hx]; simp), ?_⟩, by simp only; omega, ZZSUB, S6.rebase ZZSL⟩)
    simp only
    rw [List.map_append, hes, ← Nat.add_assoc, chs_succ, hM, chc_pair hi2 (by omega), hon]
    rfl
end Go.Proofs.Ytmckmlmfilmiaaa.X
/-
  The walk of the document's Cheapest; the law RunoffUses.
-/
namespace Go.Proofs.Ytmckmlmfilmiaaa.X
open Go Go.RowKit Go.Proofs.Ytmckmlmfilmiaaa.Bs
set_option linter.unusedVariables false
/-- where the cheapest one of the first k choices was found. -/
def CheF (t : RTk) (s : Sta) (j : Nat) (b : List Bool) (ls : Int) (k : Nat) (fo be : Int) : Prop := (cheB t s j b ls k = none ∧ fo = -1) ∨ ∃ m : Nat, fo = m ∧ m < k ∧ cheB t s j b ls k = some (be, chc t.m m)
set_option maxHeartbeats 16000000 in
theorem refCheapest_made {v : RTV} {t : RTk} {sq p : SV} {s : Sta} {i ls : Int} {b : List Bool} {w : World} (ht : TskAt w w.heap.size v t) (hn : t.slu.length + t.pmp.length ≤ 5000000) (hq : IntsAt w (Lt w.heap.size) sq s.fil) (hb : ListAt boolK w (Lt w.heap.size) p b) :
    Calls Try.prog 32 #[tskV v t, staV sq s, .int .i64 i, svV p, .int .i64 ls] w (Made w (CheV t s i b ls)) := by
  have hpn := hb.len (by decide)
  have hmm : t.m = t.many := t.devs_len
  have hma := fun (w5 : World) => many_any (v := v) (t := t) (w := w5) (ht.slu.len (by decide)) (ht.pmp.len (by decide)) hn
  have hask := fun (w5 : World) (hB : Below w.heap.size w w5) => refAsked_any (v := v) (t := t) (w := w5) (sq := sq) (s := s) (i := i) (p := p) (n := b.length) (ht.sys (Sys.ofBelow hB)) hn ((hq.keep fun k hk => hB.block k hk).mono fun k hk => Nat.lt_of_lt_of_le hk hB.size) hpn
  have huse := fun (w5 : World) (hB : Below w.heap.size w w5) (h0 : RtOk t) (hx : (t.b.row 0).vol ≤ s.vol ∧ s.vol ≤ 1000000000) {j : Nat} (hj : j < t.outer.length) (h1 : b.length = t.m) {f : List Bool} {q : SV} (h2 : f.length = t.m) (hf : ListAt boolK w5 (Lt w5.heap.size) q f) => ref7Use_any (sq := sq) (s := s) (i := j) (ht.sys (Sys.ofBelow hB)) h0 hx hj ((hb.keep fun k hk => hB.block k hk).mono fun k hk => Nat.lt_of_lt_of_le hk hB.size) h1 hf h2
  have hE : cheE t s i b ls = if askE t s i b.length ≠ 0 then askE t s i b.length else if outB ls 0 10000000 = true then 7 else if (cheB t s i.toNat b ls (2 ^ t.m)).isSome = true then 0 else 9 := rfl
  obtain ⟨Ap, np, cp⟩ := p
  simp only at hpn
  subst hpn
  simp only [tskV, tskC, svV, staV, staC] at hask huse hma ⊢
  rw [← hmm] at hma
  refine enter Try.func32 rfl Try.ntmps32 rfl ?_; simp only [frame, Nat.zero_add, Nat.reduceAdd]
  repeat (first | (refine M0 ?_; first | refine SL ?_ | refine SB fun _ _ => ?_ | refine Y4 (Ev.call (f := 59) (ck rfl) rfl (fun w5 S5 => hask w5 S5.toBelow)) ?_) | (refine M1 ?_; refine SC ?_) | (refine M2 ?_; refine SE ?_))
  rename_i g5 hg5 g6 hg6
  by_cases h0 : askE t s i b.length = 0
  rotate_left
  · rw [if_pos h0] at hE
    rw [show decide (askE t s i b.length = 0) = false from decide_eq_false h0]
    repeat (first | (refine M0 ?_; first | refine SL ?_ | refine SB fun _ _ => ?_) | (refine M1 ?_; refine SC ?_) | (refine M2 ?_; refine SE ?_))
    refine XC.cond _ rfl (fun h1 => ?_) (fun h1 => absurd (by simpa using h1) h0)
    repeat (first | (refine M0 ?_; first | refine SL ?_ | refine SB fun _ _ => ?_) | (refine M1 ?_; refine SC ?_) | (refine M2 ?_; refine SE ?_))
    refine XE.retg tok Try.results32 rfl (by simp only [and_self, and_true]) (fun w' S => ?_)
    exact che_no hE h0 S.toBelow
  rw [if_neg (by simp [h0])] at hE
  obtain ⟨hr0, hst, hi, hbl⟩ := askE_0 h0
  have ho := rtOk_of hr0
  have hm4 : t.m ≤ 4 := by have := t.devs_len; unfold RTk.many at this; have := ho.s2; have := ho.p2; unfold RTk.m; omega
  obtain ⟨j, rfl⟩ : ∃ j : Nat, i = j := ⟨i.toNat, by omega⟩
  have hj : j < t.outer.length := by omega
  rw [Int.toNat_natCast] at hE
  rw [show decide (askE t s j b.length = 0) = true from decide_eq_true h0, h0]
  cases h3 : outB ls 0 10000000 with
  | true =>
    rw [h3, if_pos rfl] at hE
    repeat (first | (refine M0 ?_; first | refine SL ?_ | refine SB fun _ _ => ?_ | refine Y4 (Ev.call (f := 63) (ck rfl) rfl (fun w5 S5 => inP h3 w5)) ?_) | (refine M1 ?_; refine SC ?_) | (refine M2 ?_; refine SE ?_))
    refine XE.retg tok Try.results32 rfl (by simp only [and_self, and_true]) (fun w' S => ?_)
    exact che_no hE (by decide) S.toBelow
  | false =>
  rw [h3, if_neg (by decide)] at hE
  repeat (first | (refine M0 ?_; first | refine SL ?_ | refine SB fun _ _ => ?_ | refine Y4 (Ev.call (f := 63) (ck rfl) rfl (fun w5 S5 => inP h3 w5)) ?_ | refine Y4 (Ev.call (f := 60) (ck rfl) rfl (fun w5 S5 => hma w5)) ?_) | (refine M1 ?_; refine SC ?_) | (refine M2 ?_; refine SE ?_))
  refine XL.rebase (List.Sublist.refl _) (fun W0 S0 => ?_)
  refine XL.callF (ks := [g6, g5]) (rs := []) (hs := []) (b0 := w.heap.size) (wE := w) (ChoV t.m) (ck rfl) rfl rfl (Fam.start S0.size) (fun k hk => S0.keyLt k hk) S0.toBelow (fun w1 S1 _ hB1 => refChoices_made hm4) (fun w2 x new hR hF2 hB2 hk2 => ?_) ZZHL
  obtain ⟨⟨A1, n1, c1⟩, e1, rfl, he1, rfl⟩ := hR
  have hl1 : e1.length = 2 ^ t.m := by have := congrArg List.length he1; simpa [chs] using this
  have hp2 : ListAt plnK w2 _ ⟨A1, n1, c1⟩ e1 := hF2.held (hList plnK ⟨A1, n1, c1⟩ e1) (.head _)
  have hn1 := hp2.len (by decide)
  simp only at hn1
  subst hn1
  have h16 : 2 ^ t.m ≤ 16 := Nat.pow_le_pow_right (n := 2) (by decide) hm4
  have hpos : 0 < e1.length := by rw [hl1]; exact Nat.pow_pos (by decide)
  obtain ⟨a1, ha1, hf1⟩ := hp2.addr (by decide) hpos
  subst ha1
  simp only [svV]
  clear S0
  repeat (first | (refine M0 ?_; first | refine SL ?_ | refine SB fun _ _ => ?_) | (refine M1 ?_; refine SC ?_) | (refine M2 ?_; refine SE ?_))
  refine XC.loopk [2, 3, 4, 5, 6, 16] rfl (fun z : Nat × Int × Int => [(17, .int .i64 (z.1 : Nat)), (14, .int .i64 z.2.1), (15, .int .i64 z.2.2)]) (fun _ => [(g6, cel 28 (staC sq s)), (g5, cel 33 (tskC v t))]) (fun _ => w2) (fun z => z.1 ≤ e1.length ∧ CheF t s j b ls z.1 z.2.1 z.2.2) (fun z => e1.length - z.1) (0, -1, 0) ⟨Nat.zero_le _, .inl ⟨rfl, rfl⟩⟩ ZZSUB (fun _ h => h) ?_
  rintro ⟨k, fo, be⟩ ⟨hk, hC⟩
  simp only at hk hC
  simp only [staC, tskC]
  dsimp only [List.cons_append, List.nil_append]
  repeat (first | (refine M0 ?_; first | refine SL ?_ | refine SB fun _ _ => ?_) | (refine M1 ?_; refine SC ?_) | (refine M2 ?_; refine SE ?_))
  refine XC.cond _ rfl (fun h4 => ?_) (fun h4 => ?_)
  rotate_left
  · have hkn : k = e1.length := by have := of_decide_eq_false h4; omega
    subst hkn
    rw [← hl1] at hE
    have hR : cheR t s (j : Int) b ls = if cheE t s (j : Int) b ls = 0 then cheB t s j b ls e1.length else none := by unfold cheR; rw [Int.toNat_natCast, hl1]
    rcases hC with ⟨c1, rfl⟩ | ⟨m, rfl, hm, c1⟩
    · rw [c1, if_neg (by decide)] at hE
      repeat (first | (refine M0 ?_; first | refine SL ?_ | refine SB fun _ _ => ?_) | (refine M1 ?_; refine SC ?_) | (refine M2 ?_; refine SE ?_))
      refine XE.retg tok Try.results32 rfl (by simp only [and_self, and_true]) (fun w' S => ?_)
      exact che_no hE (by decide) (hB2.trans S.toBelow)
    · rw [c1] at hE hR
      have hE0 : cheE t s (j : Int) b ls = 0 := hE
      rw [if_pos hE0] at hR
      have hcell := hp2.elem (List.getElem?_eq_getElem hm) 0 (svV e1[m].1) rfl
      rw [add_add, Nat.add_zero] at hcell
      have hb2 : ListAt boolK w2 _ e1[m].1 e1[m].2 := hp2.ins e1[m] (List.getElem_mem hm) (hList boolK e1[m].1 e1[m].2) (.head _)
      have hon := chs_at he1 hm
      obtain ⟨oq, hoq⟩ : ∃ oq, oq = e1[m].1 := ⟨_, rfl⟩
      rw [← hoq, hon] at hb2
      rw [← hoq] at hcell
      simp only [svV] at hcell
      repeat (first | (refine M0 ?_; first | refine SL ?_ | refine SB fun _ _ => ?_ | refine Y4 (Ev.load_far tok rfl rfl (by rw [add_block]; exact hf1.2.1) (Free.far hf1 ZZHL) hcell) ?_) | (refine M1 ?_; refine SC ?_) | (refine M2 ?_; refine SE ?_))
      refine XE.retg tok Try.results32 rfl (by simp only [and_self, and_true]) (fun w' S => ?_)
      refine ⟨_, _, rfl, ⟨oq, by rw [hR, hE0]; rfl, rfl⟩, fun x hx => ?_, hB2.trans S.toBelow⟩
      rw [List.mem_singleton.1 hx, hR]
      have F9 := (hF2.hold (x := hList boolK oq (chc t.m m)) hb2 (fun j hj => hj)).sys S ZZHL
      exact F9.get (.head _)
  have hkn : k < e1.length := by have := of_decide_eq_true h4; omega
  have hcell := hp2.elem (List.getElem?_eq_getElem hkn) 0 (svV e1[k].1) rfl
  rw [add_add, Nat.add_zero] at hcell
  have hon := chs_at he1 hkn
  obtain ⟨oq, hoq⟩ : ∃ oq, oq = e1[k].1 := ⟨_, rfl⟩
  have hu := fun {L : Lo} (w5 : World) (S5 : Sys w.heap.size w2 L w5) (hL5 : ∀ e, e ∈ L → e.1 ∈ [g6, g5] ∨ w2.heap.size ≤ e.1) => huse w5 (hB2.trans S5.toBelow) ho hst.vol hj hbl (f := chc t.m k) (q := oq) (chc_len _ _) (by
    have F5 := hF2.sys S5 (fun e he => (hL5 e he).imp (fun h => List.mem_append_right _ h) id)
    have h9 : ListAt boolK w5 _ e1[k].1 e1[k].2 := (F5.held (hList plnK ⟨some a1, e1.length, c1⟩ e1) (.head _)).ins e1[k] (List.getElem_mem hkn) (hList boolK e1[k].1 e1[k].2) (.head _)
    rw [← hoq, hon] at h9
    exact h9.mono fun j hj => hj.2.1)
  rw [← hoq] at hcell
  simp only [svV] at hcell
  have hB : cheB t s j b ls (k + 1) = cheU ls (cheB t s j b ls k) (t.use s.vol j b (chc t.m k)) (chc t.m k) := rfl
  obtain ⟨U, hU⟩ : ∃ U, U = t.use s.vol j b (chc t.m k) := ⟨_, rfl⟩
  rw [← hU] at hu hB
  obtain ⟨uo, ue, ub, hV, hUV⟩ : ∃ uo ue ub, useV U = .tuple ⟨[.int .i64 uo, .int .i64 ue, .bool ub]⟩ ∧ ((ub = false ∧ U = none) ∨ (ub = true ∧ U = some (uo, ue))) := by
    cases U with
    | none => exact ⟨0, 0, false, rfl, .inl ⟨rfl, rfl⟩⟩
    | some y => exact ⟨y.1, y.2, true, rfl, .inr ⟨rfl, rfl⟩⟩
  rw [hV] at hu
  repeat (first | (refine M0 ?_; first | refine SL ?_ | refine SB fun _ _ => ?_) | (refine M1 ?_; refine SC ?_) | (refine M2 ?_; refine SE ?_))
  refine XC.cutln [2, 3, 4, 5, 6, 14, 15, 16, 17] rfl (fun _ : Unit => [(18, .int .i64 uo), (19, .int .i64 ue), (20, .bool ub)]) (fun _ => []) (fun _ => True) ?_ (fun _ _ => ?_)
  · refine XC.drawR _ [0, 1, 2, 3, 4, 5, 6, 7] [8, 9, 10, 11, 12, 13, 14, 15] mixed (fun _ h => h) rfl (by kernel_rfl) ?_
    repeat (any_goals (first | (refine M0 ?_; first | refine SL ?_ | refine SB fun _ _ => ?_ | refine Y4 (Ev.load_far tok rfl rfl (by rw [add_block]; exact hf1.2.1) (Free.far hf1 ZZHL) hcell) ?_ | refine Y4 (Ev.call (f := 61) (ck rfl) rfl (fun w5 S5 => hu w5 S5 ZZHL)) ?_) | (refine M1 ?_; refine SC ?_) | (refine M2 ?_; refine SE ?_) | (refine M3 ?_; first | refine SG ?_ | refine SF ?_ | refine YF (Ev.load_far tok rfl rfl (by rw [add_block]; exact hf1.2.1) (Free.far hf1 ZZHL) hcell) ?_ | refine YF (Ev.call (f := 61) (ck rfl) rfl (fun w5 S5 => hu w5 S5 ZZHL)) ?_) | (refine M4 ?_; refine SR ?_) | (refine M5 ?_; first | exact M7 | refine YM ?_ | refine YN ?_ ?_)))
    any_goals (repeat (first | exact AnyR.nil | refine AnyR.skip rfl ?_))
    all_goals exact XE.leaf () ZZSUB (fun _ S' => by first | exact S' | exact S'.perm (by repeat (first | exact List.Perm.refl _ | refine perm1 ?_ | refine List.Perm.cons _ ?_ | refine perm2 ?_)) | exact (S'.pop (by assumption)) | exact (S'.pop2 (by assumption))) trivial
  dsimp only [List.cons_append, List.nil_append]
  have hno : cheB t s j b ls (k + 1) = cheB t s j b ls k → CheF t s j b ls (k + 1) fo be := fun h => by
    rcases hC with ⟨c1, c2⟩ | ⟨m, c2, hm, c1⟩
    · exact .inl ⟨by rw [h]; exact c1, c2⟩
    · exact .inr ⟨m, c2, by omega, by rw [h]; exact c1⟩
  rcases hUV with ⟨rfl, rfl⟩ | ⟨rfl, rfl⟩
  · repeat (first | (refine M0 ?_; first | refine SL ?_ | refine SB fun _ _ => ?_) | (refine M1 ?_; refine SC ?_) | (refine M2 ?_; refine SE ?_))
    exact XE.round (s := (k, fo, be)) (k + 1, fo, be) ⟨hkn, hno hB⟩ (by simp only; omega) ZZSUB (fun _ h => h)
  by_cases h1 : ls ≤ uo
  rotate_left
  · repeat (first | (refine M0 ?_; first | refine SL ?_ | refine SB fun _ _ => ?_) | (refine M1 ?_; refine SC ?_) | (refine M2 ?_; refine SE ?_))
    rw [show decide (ls ≤ uo) = false from decide_eq_false h1]
    repeat (first | (refine M0 ?_; first | refine SL ?_ | refine SB fun _ _ => ?_) | (refine M1 ?_; refine SC ?_) | (refine M2 ?_; refine SE ?_))
    exact XE.round (s := (k, fo, be)) (k + 1, fo, be) ⟨hkn, hno (by rw [hB]; unfold cheU; simp only; rw [if_neg (fun h => h1 h.1)])⟩ (by simp only; omega) ZZSUB (fun _ h => h)
  repeat (first | (refine M0 ?_; first | refine SL ?_ | refine SB fun _ _ => ?_) | (refine M1 ?_; refine SC ?_) | (refine M2 ?_; refine SE ?_))
  rw [show decide (ls ≤ uo) = true from decide_eq_true h1]
  repeat (first | (refine M0 ?_; first | refine SL ?_ | refine SB fun _ _ => ?_) | (refine M1 ?_; refine SC ?_) | (refine M2 ?_; refine SE ?_))
  rcases hC with ⟨c1, rfl⟩ | ⟨m, rfl, hm, c1⟩
  · repeat (first | (refine M0 ?_; first | refine SL ?_ | refine SB fun _ _ => ?_) | (refine M1 ?_; refine SC ?_) | (refine M2 ?_; refine SE ?_))
    exact XE.round (s := (k, -1, be)) (k + 1, (k : Nat), ue) ⟨hkn, .inr ⟨k, rfl, by simp only; omega, by rw [hB, c1]; unfold cheU; simp only; rw [if_pos ⟨h1, fun h => by cases h⟩]⟩⟩ (by simp only; omega) ZZSUB (fun _ h => h)
  · repeat (first | (refine M0 ?_; first | refine SL ?_ | refine SB fun _ _ => ?_) | (refine M1 ?_; refine SC ?_) | (refine M2 ?_; refine SE ?_))
    by_cases h2 : ue < be
    · rw [show decide (ue < be) = true from decide_eq_true h2]
      repeat (first | (refine M0 ?_; first | refine SL ?_ | refine SB fun _ _ => ?_) | (refine M1 ?_; refine SC ?_) | (refine M2 ?_; refine SE ?_))
      exact XE.round (s := (k, ((m : Nat) : Int), be)) (k + 1, (k : Nat), ue) ⟨hkn, .inr ⟨k, rfl, by simp only; omega, by rw [hB, c1]; unfold cheU; simp only; rw [if_pos ⟨h1, fun _ => h2⟩]⟩⟩ (by simp only; omega) ZZSUB (fun _ h => h)
    · rw [show decide (ue < be) = false from decide_eq_false h2]
      repeat (first | (refine M0 ?_; first | refine SL ?_ | refine SB fun _ _ => ?_) | (refine M1 ?_; refine SC ?_) | (refine M2 ?_; refine SE ?_))
      exact XE.round (s := (k, ((m : Nat) : Int), be)) (k + 1, (m : Nat), be) ⟨hkn, hno (by rw [hB, c1]; unfold cheU; simp only; rw [if_neg (fun h => h2 (h.2 rfl))])⟩ (by simp only; omega) ZZSUB (fun _ h => h)
end Go.Proofs.Ytmckmlmfilmiaaa.X
/-
  The law RunoffUses.
-/
namespace Go.Proofs.Ytmckmlmfilmiaaa.X
open Go Go.RowKit Go.Proofs.Ytmckmlmfilmiaaa.Bs
set_option linter.unusedVariables false
theorem dec_ne (a : Int) : decide (a ≠ a) = false := decide_eq_false (fun h => h rfl)
theorem dec_eq (a : Int) : decide (a = a) = true := decide_eq_true rfl
set_option maxHeartbeats 8000000 in
theorem RunoffUses_any {v : RTV} {t : RTk} {y : TrV} {x : Trn} {w : World} (ht : TskAt w w.heap.size v t) (hn : t.slu.length + t.pmp.length ≤ 5000000) (hx : TurnAt w y x) :
    Calls Try.prog 8 #[tskV v t, turnV y x] w fun e w' => e = .returned (.bool true) ∧ Below w.heap.size w w' := by
  have h1 := fun (w5 : World) (hB : Below w.heap.size w w5) => Use_any (i := x.tick) (s := x.s) (b := x.bef) (f := x.on) (sq := y.q) (p := y.p) (q := y.r) (ht.sys (Sys.ofBelow hB)) hn (hx.below hB).fil (hx.below hB).bef (hx.below hB).on
  have h2 := fun (w5 : World) (hB : Below w.heap.size w w5) => refUse_any (i := x.tick) (s := x.s) (b := x.bef) (f := x.on) (sq := y.q) (p := y.p) (q := y.r) (ht.sys (Sys.ofBelow hB)) hn (hx.below hB).fil (hx.below hB).bef (hx.below hB).on
  have h3 := fun (w5 : World) (hB : Below w.heap.size w w5) => Cheapest_made (i := x.tick) (ls := x.least) (s := x.s) (b := x.bef) (sq := y.q) (p := y.p) (ht.sys (Sys.ofBelow hB)) hn (hx.below hB).fil (hx.below hB).bef
  have h4 := fun (w5 : World) (hB : Below w.heap.size w w5) => refCheapest_made (i := x.tick) (ls := x.least) (s := x.s) (b := x.bef) (sq := y.q) (p := y.p) (ht.sys (Sys.ofBelow hB)) hn (hx.below hB).fil (hx.below hB).bef
  have haw := fun {L : Lo} {W : World} (w5 : World) (S5 : Sys w.heap.size W L w5) => Awake_any (w := w5)
  obtain ⟨yq, yp, yr⟩ := y
  obtain ⟨s, tick, bef, on, ls⟩ := x
  simp only [tskV, tskC, turnV, turnC, staV, staC, svV] at h1 h2 h3 h4 ⊢
  obtain ⟨a, ha⟩ : ∃ a, a = (useN t s tick bef on).1 := ⟨_, rfl⟩
  obtain ⟨m, hm⟩ : ∃ a, a = (useN t s tick bef on).2 := ⟨_, rfl⟩
  obtain ⟨e, he⟩ : ∃ a, a = useE t s tick bef on := ⟨_, rfl⟩
  rw [← ha, ← hm, ← he] at h1 h2
  refine enter Try.func8 rfl Try.ntmps8 rfl ?_; simp only [frame, Nat.zero_add, Nat.reduceAdd]
  repeat (first | (refine M0 ?_; first | refine SL ?_ | refine SB fun _ _ => ?_ | refine Y4 (Ev.call (f := 28) (ck rfl) rfl (fun w5 S5 => h1 w5 S5.toBelow)) ?_ | refine Y4 (Ev.call (f := 30) (ck rfl) rfl (fun w5 S5 => h2 w5 S5.toBelow)) ?_) | (refine M1 ?_; refine SC ?_) | (refine M2 ?_; refine SE ?_))
  rename_i g2 hg2 g3 hg3
  rw [dec_ne]
  repeat (first | (refine M0 ?_; first | refine SL ?_ | refine SB fun _ _ => ?_) | (refine M1 ?_; refine SC ?_) | (refine M2 ?_; refine SE ?_))
  rw [dec_ne]
  repeat (first | (refine M0 ?_; first | refine SL ?_ | refine SB fun _ _ => ?_) | (refine M1 ?_; refine SC ?_) | (refine M2 ?_; refine SE ?_))
  rw [dec_ne]
  repeat (first | (refine M0 ?_; first | refine SL ?_ | refine SB fun _ _ => ?_) | (refine M1 ?_; refine SC ?_) | (refine M2 ?_; refine SE ?_))
  refine XL.rebase (List.Sublist.refl _) (fun W0 S0 => ?_)
  refine XL.callF (ks := [g3, g2]) (rs := []) (hs := []) (b0 := w.heap.size) (wE := w) (CheV t s tick bef ls) (ck rfl) rfl rfl (Fam.start S0.size) (fun k hk => S0.keyLt k hk) S0.toBelow (fun w1 S1 _ hB1 => h3 w1 hB1) (fun w2 x new hR hF2 hB2 hk2 => ?_) ZZHL
  obtain ⟨q1, rfl, rfl⟩ := hR
  simp only [svV]
  repeat (first | (refine M0 ?_; first | refine SL ?_ | refine SB fun _ _ => ?_) | (refine M1 ?_; refine SC ?_) | (refine M2 ?_; refine SE ?_))
  refine XL.callF (wE := w) (CheV t s tick bef ls) (ck rfl) rfl rfl hF2 hk2 hB2 (fun w1 S1 hF1 hB1 => h4 w1 hB1) (fun w3 x new hR hF3 hB3 hk3 => ?_) ZZHL
  obtain ⟨q2, rfl, rfl⟩ := hR
  have hbo := fun {L : Lo} (w5 : World) (S5 : Sys w.heap.size w3 L w5) (hL5 : ∀ e, e ∈ L → e.1 ∈ [g3, g2] ∨ w3.heap.size ≤ e.1) => Bools_any (p := q1) (q := q2) (w := w5) (Held.lt (x := hList boolK q1 (chL (cheR t s tick bef ls))) ((hF3.sys S5 (fun e he => (hL5 e he).imp (fun h => List.mem_append_right _ (List.mem_append_right _ h)) id)).get (by simp))) (Held.lt (x := hList boolK q2 (chL (cheR t s tick bef ls))) ((hF3.sys S5 (fun e he => (hL5 e he).imp (fun h => List.mem_append_right _ (List.mem_append_right _ h)) id)).get (by simp)))
  simp only [svV] at hbo ⊢
  obtain ⟨e2, he2⟩ : ∃ a, a = cheE t s tick bef ls := ⟨_, rfl⟩
  obtain ⟨m2, hm2⟩ : ∃ a, a = chE (cheR t s tick bef ls) := ⟨_, rfl⟩
  rw [← he2, ← hm2]
  repeat (first | (refine M0 ?_; first | refine SL ?_ | refine SB fun _ _ => ?_) | (refine M1 ?_; refine SC ?_) | (refine M2 ?_; refine SE ?_))
  refine XL.step _ (Ev.call (f := 33) (ck rfl) rfl (fun w5 S5 => hbo w5 S5 ZZHL)) rfl ?_
  rw [show decide True = true from rfl]
  repeat (first | (refine M0 ?_; first | refine SL ?_ | refine SB fun _ _ => ?_) | (refine M1 ?_; refine SC ?_) | (refine M2 ?_; refine SE ?_))
  rw [dec_eq]
  repeat (first | (refine M0 ?_; first | refine SL ?_ | refine SB fun _ _ => ?_) | (refine M1 ?_; refine SC ?_) | (refine M2 ?_; refine SE ?_))
  rw [dec_eq]
  repeat (first | (refine M0 ?_; first | refine SL ?_ | refine SB fun _ _ => ?_ | refine Y4 (Ev.call (f := 12) (ck rfl) rfl (fun w5 S5 => haw w5 S5)) ?_) | (refine M1 ?_; refine SC ?_) | (refine M2 ?_; refine SE ?_))
  refine XE.retg tok Try.results8 rfl (by simp only [and_self, and_true]) (fun w' S => ?_)
  exact ⟨rfl, hB3.trans S.toBelow⟩
end Go.Proofs.Ytmckmlmfilmiaaa.X
