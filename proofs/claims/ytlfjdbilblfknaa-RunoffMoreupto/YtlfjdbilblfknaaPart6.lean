/-
  RunoffMore: the plain law's end, and the walk.
-/
import Derived.Test.YtlfjdbilblfknaaPart4
import Derived.Test.YtlfjdbilblfknaaPart3
set_option linter.unusedVariables false
set_option linter.unusedSimpArgs false
namespace Go.Proofs.Ytlfjdbilblfknaa.Bs
open Go.Proofs.Ytlfjdbilblfknaa.X
set_option linter.unusedVariables false
/-- a pump, and by how much prices are less, High is greater, and Low is less. -/
structure Mor where
  p : Pmp
  pr : Int
  hi : Int
  lo : Int
/-- lesser prices, wider limits. -/
def wid (t : RTk) (x : Mor) : RTk := { t with prices := t.prices.map fun p => max 0 (p - x.pr), high := min 20000 (t.high + x.hi), low := max (t.b.row 0).level (t.low - x.lo) }
/-- one pump more. -/
def pum (t : RTk) (x : Mor) : RTk := { t with pmp := t.pmp ++ [x.p], on := t.on ++ [false] }
theorem rt_same {t u : RTk} (h : rtE t = 0) (hb : u.b = t.b) (hs : u.s = t.s) (h1 : u.outer = t.outer) (h2 : u.river = t.river) (h3 : u.prices.length = t.prices.length) (h4 : ∀ i, i < t.outer.length → outB (at0 u.prices i) 0 10000 = false)
    (h5 : outB u.high (-20000) 20000 = false) (h6 : outB u.low (t.b.row 0).level u.high = false) (h7 : u.slu = t.slu) (h8 : u.pmp = t.pmp) (h9 : u.on = t.on) : rtE u = 0 := by
  have hd : u.devs = t.devs := by unfold RTk.devs; rw [h7, h8]
  unfold rtE chkT at h ⊢
  rw [hb, hs, h1, h2, h3, h7, h8, h9, hd]
  by_cases a1 : chkE t.b ≠ 0
  · rw [if_pos a1] at h; exact absurd h a1
  rw [if_neg a1] at h ⊢
  by_cases a2 : staErr t.b t.s ≠ 0
  · rw [if_pos a2] at h; exact absurd h a2
  rw [if_neg a2] at h ⊢
  by_cases a3 : 6 < t.outer.length
  · rw [if_pos a3] at h; cases h
  rw [if_neg a3] at h ⊢
  by_cases a4 : t.river.length ≠ t.outer.length ∨ t.prices.length ≠ t.outer.length
  · rw [if_pos a4] at h; cases h
  rw [if_neg a4] at h ⊢
  cases a5 : firstN (tickErr t) t.outer.length with
  | some i => rw [a5] at h; cases h
  | none =>
    have a6 : firstN (tickErr u) t.outer.length = none := firstN_none fun i hi => by
      have := firstN_none_iff a5 i hi
      unfold tickErr at this ⊢
      split at this
      · cases this
      · rename_i h10
        simp only [Bool.or_eq_true, not_or, Bool.not_eq_true] at h10
        rw [h1, h2, h10.1, h10.2.1, h4 i hi]; rfl
    rw [a6]
    rw [a5] at h
    simp only at h ⊢
    rw [if_neg (by rw [h5, h6]; decide)]
    split at h
    · cases h
    · exact h
theorem wid_ok {t : RTk} {x : Mor} (h : rtE t = 0) (h1 : 0 ≤ x.pr) (h2 : 0 ≤ x.hi) (h3 : 0 ≤ x.lo) : rtE (wid t x) = 0 := by
  have ho := rtOk_of h
  have hl := ho.low
  have hh := ho.high
  have hr := ho.ok.level 0 (by have := ho.ok.n2; omega)
  refine rt_same h rfl rfl rfl rfl (by simp [wid]) (fun i hi => ?_) (outB_f.2 ?_) (outB_f.2 ?_) rfl rfl rfl
  · have hp := ho.pri_ i hi
    have hpl := ho.prices
    have : at0 (wid t x).prices i = max 0 (at0 t.prices i - x.pr) := by
      unfold at0 wid
      simp only
      rw [List.getElem?_map, List.getElem?_eq_getElem (by omega)]; rfl
    rw [this]
    exact outB_f.2 (by omega)
  · simp only [wid]; omega
  · simp only [wid]; omega
theorem wid_wider {t : RTk} {x : Mor} (h : rtE t = 0) (h1 : 0 ≤ x.pr) (h2 : 0 ≤ x.hi) (h3 : 0 ≤ x.lo) : Wider t (wid t x) := by
  have ho := rtOk_of h
  have hl := ho.low
  have hh := ho.high
  refine ⟨rfl, rfl, rfl, rfl, rfl, fun i hi => ?_, ?_, ?_⟩
  · have hp := ho.pri_ i hi
    have hpl := ho.prices
    have : at0 (wid t x).prices i = max 0 (at0 t.prices i - x.pr) := by
      unfold at0 wid
      simp only
      rw [List.getElem?_map, List.getElem?_eq_getElem (by omega)]; rfl
    rw [this]
    omega
  · simp only [wid]; omega
  · simp only [wid]; omega
theorem pum_pumped (t : RTk) (x : Mor) : Pumped t (pum t x) := ⟨rfl, rfl, rfl, rfl, rfl, rfl, ⟨x.p, by unfold RTk.devs pum; simp⟩⟩
/-- what Best finds of these. -/
theorem more_wid {t : RTk} {x : Mor} (h : bstE t = 0) (h1 : 0 ≤ x.pr) (h2 : 0 ≤ x.hi) (h3 : 0 ≤ x.lo) : rtE t = 0 ∧ bstE (wid t x) = 0 ∧ fdC (bst (wid t x)) ≤ fdC (bst t) ∧ ∃ y, (wid t x).rest (wid t x).n (wid t x).s (wid t x).on = some y := by
  have h0 : rtE t = 0 := by
    by_cases h9 : rtE t = 0
    · exact h9
    · rw [(bst_err h9).2] at h; exact h
  have hr : ∃ y, t.rest t.n t.s t.on = some y := by
    cases hr : t.rest t.n t.s t.on with
    | some y => exact ⟨y, rfl⟩
    | none => rw [(bst_none h0 hr).2] at h; cases h
  obtain ⟨⟨c, p⟩, hr⟩ := hr
  obtain ⟨c', p', k1, k2⟩ := (wid_wider (x := x) h0 h1 h2 h3).rest (rtOk_of h0) (rtOk_of h0).sta hr
  obtain ⟨e1, e2⟩ := bst_some h0 hr
  obtain ⟨e3, e4⟩ := bst_some (wid_ok (x := x) h0 h1 h2 h3) (show (wid t x).rest (wid t x).n (wid t x).s (wid t x).on = some (c', p') from k1)
  exact ⟨h0, e4, by rw [e1, e3]; exact k2, _, k1⟩
theorem more_pum {u : RTk} {x : Mor} (h0 : rtE u = 0) (hr : ∃ y, u.rest u.n u.s u.on = some y) (h2 : rtE (pum u x) = 0) : bstE (pum u x) = 0 ∧ fdC (bst (pum u x)) ≤ fdC (bst u) := by
  obtain ⟨⟨c, p⟩, hr⟩ := hr
  obtain ⟨c', p', k1, k2⟩ := (pum_pumped u x).rest (rtOk_of h0).on hr
  obtain ⟨e1, e2⟩ := bst_some h0 hr
  obtain ⟨e3, e4⟩ := bst_some h2 (show (pum u x).rest (pum u x).n (pum u x).s (pum u x).on = some (c', p') from k1)
  exact ⟨e4, by rw [e1, e3]; exact k2⟩
end Go.Proofs.Ytlfjdbilblfknaa.Bs
namespace Go.Proofs.Ytlfjdbilblfknaa.X
open Go Go.RowKit Go.Proofs.Ytlfjdbilblfknaa.Bs
set_option linter.unusedVariables false
section
variable {P : Program} {N : Nat} {B : Nat} {wS w0 : World} {ds : List Deferred} {Q : Exit → Act → World → Prop} {F : Fr} {L Ls : Lo} {ops : Array Oper} {rem : List (Nat × Oper)}
theorem XR.keep (ts : List Nat) {G0 : Fr} (hk : keepO F ts = some G0) (h : XR P N B wS w0 ds Q Ls ops rem G0 L) : XR P N B wS w0 ds Q Ls ops rem F L := ⟨fun D fuel a w h1 h2 hf => h.run D fuel a w h1 h2 ((keepO_sub _ _ hk).fits hf)⟩
theorem Fam.cut {W : World} {b0 : Nat} {a b : List Nat} {rs : List RowX} {hs : List Held} (h : Fam W b0 (a ++ b) rs hs) : Fam W b0 a rs hs := h.add fun k hk => .inl (List.mem_append_left _ hk)
theorem ltCut {a b : List Nat} {n : Nat} (h : ∀ k, k ∈ a ++ b → k < n) : ∀ k, k ∈ a → k < n := fun k hk => h k (List.mem_append_left _ hk)
theorem XR.genQ (h : ∀ Q', Q' = Q → XR P N B wS w0 ds Q' Ls ops rem F L) : XR P N B wS w0 ds Q Ls ops rem F L := h Q rfl
theorem XE.atW {e : Exit} {F0 : Fr} {L0 : Lo} (h : ∀ w6, Sys B w0 L w6 → XE N B w6 ds Q e F0 L0) (hs : Sub F0 F) (hl : List.Sublist L0 L) : XE N B w0 ds Q e F L := ⟨fun a w hf hS => (h w hS).run a w (hs.fits hf) (hS.rebase hl)⟩
theorem XL.atd {op : Op} {ty : TypeId} {p : String} {af : Array Edge} {rest : List Oper} (d : Nat) (k : XL P N B w0 ds Q ops ({ dst := some d, op := op, type := ty, pos := p, after := af, guard := none } :: rest) F L) : XL P N B w0 ds Q ops ({ dst := some d, op := op, type := ty, pos := p, after := af, guard := none } :: rest) F L := k
end
theorem wid_at {w : World} {B : Nat} {v : RTV} {t : RTk} {x : Mor} {q : SV} (h : TskAt w B v t) (hq : IntsAt w (Lt B) q (t.prices.map fun p => max 0 (p - x.pr))) : TskAt w B ⟨v.p, v.q, v.o, v.r, q, v.su, v.pu, v.on⟩ (wid t x) := ⟨h.bas, h.fil, h.outer, h.river, hq, h.slu, h.pmp, h.on, h.names⟩
theorem pum_at {w : World} {B : Nat} {v : RTV} {u : RTk} {x : Mor} {q1 q2 : SV} (h : TskAt w B v u) (h1 : ListAt pmpK w (Lt B) q1 (u.pmp ++ [x.p])) (h2 : ListAt boolK w (Lt B) q2 (u.on ++ [false])) (hn : x.p.name.size ≤ 9223372036854775807) : TskAt w B ⟨v.p, v.q, v.o, v.r, v.c, v.su, q1, q2⟩ (pum u x) :=
  ⟨h.bas, h.fil, h.outer, h.river, h.prices, h.slu, h1, h2, fun d hd => by
    have e : (pum u x).devs = u.devs ++ [.pmp x.p] := by unfold RTk.devs pum; simp
    rw [e, List.mem_append, List.mem_singleton] at hd
    rcases hd with hd | rfl
    · exact h.names d hd
    · exact hn⟩
theorem below_cell7 {B : Nat} {w w' : World} (h : Below B w w') {ad : Addr} (hb : ad.block < B) : w'.cell? ad = w.cell? ad := by unfold World.cell?; rw [h.block _ hb]
theorem pmp_el7 : elemOk Try.prog 30 pmpK.ty pmpK.m 48 = true := by kernel_rfl
def moreC (x : Mor) : List Value := [.string x.p.name, .int .i64 x.p.rate, .int .i64 x.p.base, .int .i64 x.p.lift, .int .i64 x.p.start, .int .u16 x.pr, .int .u16 x.hi, .int .u16 x.lo]
set_option maxHeartbeats 64000000 in
theorem RunoffMore_any {v : RTV} {t : RTk} {x : Mor} {w : World} (ht : TskAt w w.heap.size v t) (hn : t.slu.length + t.pmp.length ≤ 5000000) (hno : t.outer.length ≤ 5000000) (hx : (0 ≤ x.pr ∧ x.pr ≤ 65535) ∧ (0 ≤ x.hi ∧ x.hi ≤ 65535) ∧ (0 ≤ x.lo ∧ x.lo ≤ 65535) ∧ x.p.name.size ≤ 9223372036854775807) :
    Calls Try.prog 3 #[tskV v t, .agg ⟨moreC x⟩] w fun e w' => e = .returned (.bool true) ∧ Below w.heap.size w w' := by
  have hbst := fun (w5 : World) (hB : Below w.heap.size w w5) => Best_made (ht.sys (Sys.ofBelow hB)) hn
  have hgrt := fun (w5 : World) (hB : Below w.heap.size w w5) => Great_any (ht.sys (Sys.ofBelow hB)) hn hno
  have haw := fun {L : Lo} {W : World} (w5 : World) (S5 : Sys w.heap.size W L w5) => Awake7_any (w := w5)
  have lb := ht.bas.rows.len
  obtain ⟨E, hE⟩ : ∃ a, a = bstE t := ⟨_, rfl⟩
  obtain ⟨n, hnn⟩ : ∃ a, a = fdC (bst t) := ⟨_, rfl⟩
  simp only [tskV, tskC, moreC, svV] at hbst hgrt ⊢
  refine enter Try.func3 rfl Try.ntmps3 rfl ?_; simp only [frame, Nat.zero_add, Nat.reduceAdd]
  repeat (first | (refine M0 ?_; first | refine SL ?_ | refine SB fun _ _ => ?_) | (refine M1 ?_; refine SC ?_) | (refine M2 ?_; refine SE ?_))
  rename_i g2 hg2 g3 hg3
  refine XL.rebase (List.Sublist.refl _) (fun W0 S0 => ?_)
  refine XL.callF (ks := [g3, g2]) (rs := []) (hs := []) (b0 := w.heap.size) (wE := w) (BestV t) (ck rfl) rfl rfl (Fam.start S0.size) (fun k hk => S0.keyLt k hk) S0.toBelow (fun w1 S1 _ hB1 => hbst w1 hB1) (fun w2 x new hR hF2 hB2 hk2 => ?_) ZZHL
  obtain ⟨q1, rfl, rfl⟩ := hR
  rw [← hE, ← hnn]
  clear S0
  simp only [svV]
  repeat (first | (refine M0 ?_; first | refine SL ?_ | refine SB fun _ _ => ?_ | refine Y4 (Ev.call (f := 6) (ck rfl) rfl (fun w5 S5 => hgrt w5 (hB2.trans S5.toBelow))) ?_) | (refine M1 ?_; refine SC ?_) | (refine M2 ?_; refine SE ?_))
  cases hG : greatB t with
  | true =>
    repeat (first | (refine M0 ?_; first | refine SL ?_ | refine SB fun _ _ => ?_ | refine Y4 (Ev.call (f := 7) (ck rfl) rfl (fun w5 S5 => haw w5 S5)) ?_) | (refine M1 ?_; refine SC ?_) | (refine M2 ?_; refine SE ?_))
    refine XE.retg tok Try.results3 rfl (by simp only [and_self, and_true]) (fun w' S => ?_)
    exact ⟨rfl, hB2.trans S.toBelow⟩
  | false =>
  repeat (first | (refine M0 ?_; first | refine SL ?_ | refine SB fun _ _ => ?_) | (refine M1 ?_; refine SC ?_) | (refine M2 ?_; refine SE ?_))
  by_cases c1 : E = 0
  rotate_left
  · rw [show decide (E ≠ 0) = true from decide_eq_true c1]
    repeat (first | (refine M0 ?_; first | refine SL ?_ | refine SB fun _ _ => ?_ | refine Y4 (Ev.call (f := 7) (ck rfl) rfl (fun w5 S5 => haw w5 S5)) ?_) | (refine M1 ?_; refine SC ?_) | (refine M2 ?_; refine SE ?_))
    refine XE.retg tok Try.results3 rfl (by simp only [and_self, and_true]) (fun w' S => ?_)
    exact ⟨rfl, hB2.trans S.toBelow⟩
  rw [show decide (E ≠ 0) = false from decide_eq_false (fun h => h c1)]
  repeat (first | (refine M0 ?_; first | refine SL ?_ | refine SB fun _ _ => ?_) | (refine M1 ?_; refine SC ?_) | (refine M2 ?_; refine SE ?_))
  by_cases c2 : (v.p.n : Int) = 0
  · rw [show decide ((v.p.n : Int) = 0) = true from decide_eq_true c2]
    repeat (first | (refine M0 ?_; first | refine SL ?_ | refine SB fun _ _ => ?_ | refine Y4 (Ev.call (f := 7) (ck rfl) rfl (fun w5 S5 => haw w5 S5)) ?_) | (refine M1 ?_; refine SC ?_) | (refine M2 ?_; refine SE ?_))
    refine XE.retg tok Try.results3 rfl (by simp only [and_self, and_true]) (fun w' S => ?_)
    exact ⟨rfl, hB2.trans S.toBelow⟩
  rw [show decide ((v.p.n : Int) = 0) = false from decide_eq_false c2]
  repeat (first | (refine M0 ?_; first | refine SL ?_ | refine SB fun _ _ => ?_) | (refine M1 ?_; refine SC ?_) | (refine M2 ?_; refine SE ?_))
  rename_i g8 hg8
  obtain ⟨hx1, hx2, hx3, hx4⟩ := hx
  obtain ⟨hr0, hwE, hwC, hwR⟩ := more_wid (t := t) (x := x) (by rw [← hE]; exact c1) hx1.1 hx2.1 hx3.1
  have ho := rtOk_of hr0
  have hn6 := ho.n6
  have hs2 := ho.s2
  have hp2 := ho.p2
  have hpl := ho.prices
  have lp := ht.prices.len
  have hw1 : IntKind.i64.wrap x.pr = x.pr := wrap_in (by unfold i64in; omega)
  have hw2 : IntKind.i64.wrap x.hi = x.hi := wrap_in (by unfold i64in; omega)
  have hw3 : IntKind.i64.wrap x.lo = x.lo := wrap_in (by unfold i64in; omega)
  obtain ⟨Q, hQ⟩ : ∃ Q : List Int, Q = t.prices.map fun p => max 0 (p - x.pr) := ⟨_, rfl⟩
  have hQl : Q.length = t.prices.length := by rw [hQ]; simp
  refine XC.rebase (List.Sublist.refl _) (fun W0 S0 => ?_)
  have F0 : Fam W0 w.heap.size [g8, g3, g2] [⟨Int, winK, .slice none 0 0, Q.take 0⟩] [] := (Fam.start (ks := [g8, g3, g2]) (Nat.le_trans hB2.size S0.size)).nil winK
  have hk0 : ∀ k, k ∈ [g8, g3, g2] → k < W0.heap.size := fun k hk => S0.keyLt k hk
  have hB0 := hB2.trans S0.toBelow
  have hnd := S0.nd
  simp only [List.map_cons, List.map_nil, List.nodup_cons, List.mem_cons, List.not_mem_nil, or_false, not_or, not_false_eq_true, List.nodup_nil, and_true] at hnd
  obtain ⟨⟨hn83, hn82⟩, hn32⟩ := hnd
  clear S0 hF2 hk2
  refine XC.loopk [2, 3, 6, 8] rfl (fun z : Nat × World × SV => [(9, .int .i64 (z.1 : Nat))]) (fun z => [(g8, cel 33 [.slice v.p.A v.p.n v.p.c, .int .i64 t.b.leak, .int .i64 t.b.crest, .int .i64 t.b.over, .slice v.p.A2 v.p.n2 v.p.c2, .int .i64 t.s.vol, .slice v.q.A v.q.n v.q.c, .slice v.o.A v.o.n v.o.c, .slice v.r.A v.r.n v.r.c, .slice z.2.2.A z.2.2.n z.2.2.c, .int .i64 t.low, .int .i64 t.high, .slice v.su.A v.su.n v.su.c, .slice v.pu.A v.pu.n v.pu.c, .slice v.on.A v.on.n v.on.c]), (g3, cel 38 [.string x.p.name, .int .i64 x.p.rate, .int .i64 x.p.base, .int .i64 x.p.lift, .int .i64 x.p.start, .int .u16 x.pr, .int .u16 x.hi, .int .u16 x.lo]), (g2, cel 33 [.slice v.p.A v.p.n v.p.c, .int .i64 t.b.leak, .int .i64 t.b.crest, .int .i64 t.b.over, .slice v.p.A2 v.p.n2 v.p.c2, .int .i64 t.s.vol, .slice v.q.A v.q.n v.q.c, .slice v.o.A v.o.n v.o.c, .slice v.r.A v.r.n v.r.c, .slice v.c.A v.c.n v.c.c, .int .i64 t.low, .int .i64 t.high, .slice v.su.A v.su.n v.su.c, .slice v.pu.A v.pu.n v.pu.c, .slice v.on.A v.on.n v.on.c])]) (fun z => z.2.1) (fun z => z.1 ≤ t.prices.length ∧ Fam z.2.1 w.heap.size [g8, g3, g2] [⟨Int, winK, svV z.2.2, Q.take z.1⟩] [] ∧ Below w.heap.size w z.2.1 ∧ ∀ k, k ∈ [g8, g3, g2] → k < z.2.1.heap.size) (fun z => t.prices.length - z.1) (0, W0, ⟨none, 0, 0⟩) ⟨Nat.zero_le _, F0, hB0, hk0⟩ ZZSUB (fun _ h => h) ?_
  clear F0 hk0 hB0
  rintro ⟨k, W, pv⟩ ⟨hk, hFW, hBW, hkW⟩
  simp only at hk hFW hBW hkW
  simp only
  dsimp only [List.cons_append, List.nil_append]
  repeat (first | (refine M0 ?_; first | refine SL ?_ | refine SB fun _ _ => ?_) | (refine M1 ?_; refine SC ?_) | (refine M2 ?_; refine SE ?_))
  refine XC.cond _ rfl (fun h2 => ?_) (fun h2 => ?_)
  · have hkn : k < t.prices.length := by have := of_decide_eq_true h2; omega
    obtain ⟨ap, ha2, hlt, hcp⟩ := ht.prices.at_ (by omega)
    have dP := hcp k hkn
    have hpb := ho.pri_ k (by omega)
    rw [ha2]
    have htk : Q.take (k + 1) = Q.take k ++ [max 0 (at0 t.prices k - x.pr)] := by
      rw [List.take_succ_eq_append_getElem (by omega)]
      congr 2
      simp [hQ, at0, hkn]
    obtain ⟨pp, hpp⟩ : ∃ oo, oo = at0 t.prices k := ⟨_, rfl⟩
    rw [← hpp] at dP hpb htk
    have htl : (Q.take k).length ≤ 6 := by rw [List.length_take]; omega
    repeat (first | (refine M0 ?_; first | refine SL ?_ | refine SB fun _ _ => ?_) | (refine M1 ?_; refine SC ?_) | (refine M2 ?_; refine SE ?_))
    refine XC.drawRS _ [(g3, _), (g2, _)] [0, 2, 3, 4, 5, 6, 7, 8, 9, 10, 11] [1, 12, 13, 14, 15] mixed (fun _ h => Sys.anchor2 (by assumption) h ZZSM) rfl (by kernel_rfl) ?_
    repeat (any_goals (first | (refine M0 ?_; first | refine SL ?_ | refine SB fun _ _ => ?_ | refine Y4 (Ev.load_old tok rfl rfl (add_lt hlt) dP) ?_ | refine Y4 (Ev.conv Try.underlying36 Try.underlying3 rfl hw1) ?_ | refine XL.buildSlice tok rfl rfl rfl rfl rfl rfl rfl rfl rfl (fun _ _ => ?_) | (refine XL.at_push 26 ?_; refine XL.push (K := winK) (a := max 0 (pp - x.pr)) (wE := w) 0 ints_el6 (by decide) rfl rfl rfl hFW rfl hkW hBW (Nat.le_refl _) rfl (by omega) (by decide) (fun x hx => by cases hx) (fun W1 u1 hF1 hB1 hk1 => ?_); obtain ⟨ur, rfl, _⟩ := hF1.sv (K := winK) (l := Q.take k ++ [max 0 (pp - x.pr)]) (.head _); simp only [svV])) | (refine M1 ?_; refine SC ?_) | (refine M2 ?_; refine SE ?_) | (refine M3 ?_; first | refine SG ?_ | refine SF ?_ | refine YF (Ev.load_old tok rfl rfl (add_lt hlt) dP) ?_ | refine YF (Ev.conv Try.underlying36 Try.underlying3 rfl hw1) ?_) | (refine M4 ?_; refine SR ?_) | (refine M5 ?_; first | exact M7 | refine YM ?_ | refine YN ?_ ?_)))
    any_goals (repeat (first | exact AnyR.nil | refine AnyR.skip rfl ?_))
    all_goals
      refine XE.roundW (s := (k, W, pv)) (fun w6 S6 => ⟨(k + 1, w6, ur), ⟨hkn, ?_, hB1.trans S6.toBelow, fun x hx => S6.keyLt x (by simp only [List.map_cons, List.map_nil, List.mem_cons, List.not_mem_nil, or_false] at hx ⊢; omega)⟩, by simp only; omega, ZZSUB, S6.rebase ZZSL⟩)
      simp only [htk]
      exact Fam.add (hF1.sys S6 ZZHL) (fun x hx => .inl (by simp only [List.map_cons, List.map_nil, List.mem_append, List.mem_cons, List.not_mem_nil, or_false] at hx ⊢; omega))
  have hkn : k = t.prices.length := by have := of_decide_eq_false h2; omega
  subst hkn
  rw [List.take_of_length_le (by rw [hQl]; exact Nat.le_refl _)] at hFW
  clear h2
  have FP := Fam.freeze hFW
  clear hFW
  simp only [svV]
  repeat (first | (refine M0 ?_; first | refine SL ?_ | refine SB fun _ _ => ?_) | (refine M1 ?_; refine SC ?_) | (refine M2 ?_; refine SE ?_))
  have hn2 := ho.ok.n2
  have hrl := ho.ok.level 0 (by omega)
  have hlo := ho.low
  have hhi := ho.high
  have hnp : v.p.n = t.b.rows.length := ht.bas.n_eq
  obtain ⟨ab, hab, hltb, hdl⟩ : ∃ ab : Addr, v.p.A = some ab ∧ ab.block < w.heap.size ∧ w.cell? ((ab.add (0 * 2)).add 0) = some (.int .i64 (t.b.row 0).level) := by
    have hb := ht.bas
    rcases v with ⟨⟨Ab, nb, cb, Ab2, nb2, cb2⟩, vq, vo, vr, vc, vsu, vpu, von⟩
    have hnq := hb.n_eq
    simp only at hb hnq
    subst hnq
    obtain ⟨ab, rfl, hlt⟩ := hb.rows.addr (by simp only; omega)
    exact ⟨ab, rfl, hlt, hb.rowLevel (by omega)⟩
  have hdl1 := (below_cell7 hBW (ad := (ab.add (0 * 2)).add 0) (add_lt2 hltb)).trans hdl
  refine XC.cutn [2, 3, 6, 8] rfl (fun _ : Unit => []) (fun _ => [(g8, cel 33 [.slice v.p.A v.p.n v.p.c, .int .i64 t.b.leak, .int .i64 t.b.crest, .int .i64 t.b.over, .slice v.p.A2 v.p.n2 v.p.c2, .int .i64 t.s.vol, .slice v.q.A v.q.n v.q.c, .slice v.o.A v.o.n v.o.c, .slice v.r.A v.r.n v.r.c, .slice pv.A pv.n pv.c, .int .i64 (max (t.b.row 0).level (t.low - x.lo)), .int .i64 (min 20000 (t.high + x.hi)), .slice v.su.A v.su.n v.su.c, .slice v.pu.A v.pu.n v.pu.c, .slice v.on.A v.on.n v.on.c]), (g3, cel 38 [.string x.p.name, .int .i64 x.p.rate, .int .i64 x.p.base, .int .i64 x.p.lift, .int .i64 x.p.start, .int .u16 x.pr, .int .u16 x.hi, .int .u16 x.lo]), (g2, cel 33 [.slice v.p.A v.p.n v.p.c, .int .i64 t.b.leak, .int .i64 t.b.crest, .int .i64 t.b.over, .slice v.p.A2 v.p.n2 v.p.c2, .int .i64 t.s.vol, .slice v.q.A v.q.n v.q.c, .slice v.o.A v.o.n v.o.c, .slice v.r.A v.r.n v.r.c, .slice v.c.A v.c.n v.c.c, .int .i64 t.low, .int .i64 t.high, .slice v.su.A v.su.n v.su.c, .slice v.pu.A v.pu.n v.pu.c, .slice v.on.A v.on.n v.on.c])]) (fun _ => W) (fun _ => True) ?_ (fun _ _ => ?_)
  · refine XC.drawRS _ [(g3, _), (g2, _)] [0, 1, 2, 3, 4, 5, 6, 7, 8, 9, 10, 11, 12, 13, 14, 15, 16, 17, 18, 19, 20] [21, 22, 23] mixed (fun _ h => Sys.anchor2 (by assumption) h ZZSM) rfl (by kernel_rfl) ?_
    rw [hab]
    repeat (any_goals (first | (refine M0 ?_; first | refine SL ?_ | refine SB fun _ _ => ?_ | refine Y4 (Ev.load_old tok rfl rfl (add_lt2 hltb) hdl) ?_ | refine Y4 (Ev.conv Try.underlying36 Try.underlying3 rfl hw2) ?_ | refine Y4 (Ev.conv Try.underlying36 Try.underlying3 rfl hw3) ?_) | (refine M1 ?_; refine SC ?_) | (refine M2 ?_; refine SE ?_) | (refine M3 ?_; first | refine SG ?_ | refine SF ?_ | refine YF (Ev.load_old tok rfl rfl (add_lt2 hltb) hdl) ?_ | refine YF (Ev.conv Try.underlying36 Try.underlying3 rfl hw2) ?_ | refine YF (Ev.conv Try.underlying36 Try.underlying3 rfl hw3) ?_) | (refine M4 ?_; refine SR ?_) | (refine M5 ?_; first | exact M7 | refine YM ?_ | refine YN ?_ ?_)))
    any_goals (repeat (first | exact AnyR.nil | refine AnyR.skip rfl ?_))
    all_goals
      exact XE.leaf () ZZSUB (fun _ S' => by first | exact S' | exact S'.perm (by repeat (first | exact List.Perm.refl _ | refine perm1 ?_ | refine List.Perm.cons _ ?_ | refine perm2 ?_)) | exact (S'.pop (by assumption)) | exact (S'.pop2 (by assumption))) trivial
  dsimp only [List.cons_append, List.nil_append]
  have hbu := fun (w5 : World) (hB5 : Below w.heap.size w w5) (hq : IntsAt w5 (Lt w5.heap.size) pv (t.prices.map fun p => max 0 (p - x.pr))) => Best_made (t := wid t x) (wid_at (ht.sys (Sys.ofBelow hB5)) hq) hn
  simp only [tskV, tskC] at hbu
  repeat (first | (refine M0 ?_; first | refine SL ?_ | refine SB fun _ _ => ?_) | (refine M1 ?_; refine SC ?_) | (refine M2 ?_; refine SE ?_))
  refine XL.callF (wE := w) (BestV (wid t x)) (ck rfl) rfl rfl FP hkW hBW (fun w5 S5 hF5 hB5 => hbu w5 hB5 (by rw [← hQ]; exact winInts (Held.lt (x := hList winK pv Q) (hF5.get (.head _))))) (fun w3 y new hR hF hB hk => ?_) ZZHL
  obtain ⟨q3, rfl, rfl⟩ := hR
  rw [hwE]
  obtain ⟨m, hmm⟩ : ∃ a, a = fdC (bst (wid t x)) := ⟨_, rfl⟩
  rw [← hmm]
  have hmn : m ≤ n := by rw [hmm, hnn]; exact hwC
  simp only [svV]
  repeat (first | (refine M0 ?_; first | refine SL ?_ | refine SB fun _ _ => ?_) | (refine M1 ?_; refine SC ?_) | (refine M2 ?_; refine SE ?_))
  rw [show decide (n < m) = false from decide_eq_false (by omega)]
  repeat (first | (refine M0 ?_; first | refine SL ?_ | refine SB fun _ _ => ?_) | (refine M1 ?_; refine SC ?_) | (refine M2 ?_; refine SE ?_))
  have hF := Fam.forget (hs' := [hList winK pv Q]) hF (fun y hy => by rw [List.mem_singleton.1 hy]; exact .tail _ (.head _))
  have hle : w.heap.size ≤ w.heap.size := Nat.le_refl _
  have hlon := ho.on
  have hdl2 : t.devs.length = t.slu.length + t.pmp.length := RTk.devs_len t
  refine XC.cutn [2, 3, 8, 11] rfl (fun _ : World × SV × SV => []) (fun z => [(g8, cel 33 [.slice v.p.A v.p.n v.p.c, .int .i64 t.b.leak, .int .i64 t.b.crest, .int .i64 t.b.over, .slice v.p.A2 v.p.n2 v.p.c2, .int .i64 t.s.vol, .slice v.q.A v.q.n v.q.c, .slice v.o.A v.o.n v.o.c, .slice v.r.A v.r.n v.r.c, .slice pv.A pv.n pv.c, .int .i64 (max (t.b.row 0).level (t.low - x.lo)), .int .i64 (min 20000 (t.high + x.hi)), .slice v.su.A v.su.n v.su.c, .slice z.2.1.A z.2.1.n z.2.1.c, .slice z.2.2.A z.2.2.n z.2.2.c]), (g3, cel 38 [.string x.p.name, .int .i64 x.p.rate, .int .i64 x.p.base, .int .i64 x.p.lift, .int .i64 x.p.start, .int .u16 x.pr, .int .u16 x.hi, .int .u16 x.lo]), (g2, cel 33 [.slice v.p.A v.p.n v.p.c, .int .i64 t.b.leak, .int .i64 t.b.crest, .int .i64 t.b.over, .slice v.p.A2 v.p.n2 v.p.c2, .int .i64 t.s.vol, .slice v.q.A v.q.n v.q.c, .slice v.o.A v.o.n v.o.c, .slice v.r.A v.r.n v.r.c, .slice v.c.A v.c.n v.c.c, .int .i64 t.low, .int .i64 t.high, .slice v.su.A v.su.n v.su.c, .slice v.pu.A v.pu.n v.pu.c, .slice v.on.A v.on.n v.on.c])])
    (fun z => z.1) (fun z => Below w.heap.size w z.1 ∧ Fam z.1 w.heap.size [g8, g3, g2] [] [hList pmpK z.2.1 (t.pmp ++ [x.p]), hList boolK z.2.2 (t.on ++ [false]), hList winK pv Q] ∧ ∀ k, k ∈ [g8, g3, g2] → k < z.1.heap.size) ?_ ?_
  · refine XC.drawRT3 (trunc w w.heap.size) [(g8, cel 33 [.slice v.p.A v.p.n v.p.c, .int .i64 t.b.leak, .int .i64 t.b.crest, .int .i64 t.b.over, .slice v.p.A2 v.p.n2 v.p.c2, .int .i64 t.s.vol, .slice v.q.A v.q.n v.q.c, .slice v.o.A v.o.n v.o.c, .slice v.r.A v.r.n v.r.c, .slice pv.A pv.n pv.c, .int .i64 (max (t.b.row 0).level (t.low - x.lo)), .int .i64 (min 20000 (t.high + x.hi)), .slice v.su.A v.su.n v.su.c, .slice v.pu.A v.pu.n v.pu.c, .slice v.on.A v.on.n v.on.c]), (g3, cel 38 [.string x.p.name, .int .i64 x.p.rate, .int .i64 x.p.base, .int .i64 x.p.lift, .int .i64 x.p.start, .int .u16 x.pr, .int .u16 x.hi, .int .u16 x.lo]), (g2, cel 33 [.slice v.p.A v.p.n v.p.c, .int .i64 t.b.leak, .int .i64 t.b.crest, .int .i64 t.b.over, .slice v.p.A2 v.p.n2 v.p.c2, .int .i64 t.s.vol, .slice v.q.A v.q.n v.q.c, .slice v.o.A v.o.n v.o.c, .slice v.r.A v.r.n v.r.c, .slice v.c.A v.c.n v.c.c, .int .i64 t.low, .int .i64 t.high, .slice v.su.A v.su.n v.su.c, .slice v.pu.A v.pu.n v.pu.c, .slice v.on.A v.on.n v.on.c])] [1, 2, 4, 5, 9, 10] [0, 3, 6, 7, 8, 11, 12, 13, 14] mixed (fun _ h => Sys.anchorT hB h (by intro e he; repeat (first | (cases he; done) | (rcases List.mem_cons.1 he with rfl | he; · repeat (first | exact List.mem_cons_self | apply List.mem_cons_of_mem)))) (by simp [hn83, hn82, hn32]) hle) rfl rfl rfl (by kernel_rfl) (by kernel_rfl) (by kernel_rfl) (by kernel_rfl) rfl (by kernel_rfl) ?_
    repeat (first | (refine M3 ?_; first | refine SG ?_ | refine SF ?_ | refine YF (Ev.load_loc tok 0 (g := g8) (o := 13) rfl rfl rfl rfl) ?_ | refine YF (Ev.load_loc tok 0 (g := g8) (o := 14) rfl rfl rfl rfl) ?_ | refine YF (Ev.load_loc_agg tok 1 (g := g3) (o := 0) rfl rfl rfl rfl) ?_))
    refine XR.keep [2, 3, 8, 11, 95, 98, 103] rfl ?_
    obtain ⟨c8, hc8⟩ : ∃ c, c = cel 33 [.slice v.p.A v.p.n v.p.c, .int .i64 t.b.leak, .int .i64 t.b.crest, .int .i64 t.b.over, .slice v.p.A2 v.p.n2 v.p.c2, .int .i64 t.s.vol, .slice v.q.A v.q.n v.q.c, .slice v.o.A v.o.n v.o.c, .slice v.r.A v.r.n v.r.c, .slice pv.A pv.n pv.c, .int .i64 (max (t.b.row 0).level (t.low - x.lo)), .int .i64 (min 20000 (t.high + x.hi)), .slice v.su.A v.su.n v.su.c, .slice v.pu.A v.pu.n v.pu.c, .slice v.on.A v.on.n v.on.c] := ⟨_, rfl⟩
    rw [← hc8]
    obtain ⟨c3, hc3⟩ : ∃ c, c = cel 38 [.string x.p.name, .int .i64 x.p.rate, .int .i64 x.p.base, .int .i64 x.p.lift, .int .i64 x.p.start, .int .u16 x.pr, .int .u16 x.hi, .int .u16 x.lo] := ⟨_, rfl⟩
    rw [← hc3]
    obtain ⟨c2, hc2⟩ : ∃ c, c = cel 33 [.slice v.p.A v.p.n v.p.c, .int .i64 t.b.leak, .int .i64 t.b.crest, .int .i64 t.b.over, .slice v.p.A2 v.p.n2 v.p.c2, .int .i64 t.s.vol, .slice v.q.A v.q.n v.q.c, .slice v.o.A v.o.n v.o.c, .slice v.r.A v.r.n v.r.c, .slice v.c.A v.c.n v.c.c, .int .i64 t.low, .int .i64 t.high, .slice v.su.A v.su.n v.su.c, .slice v.pu.A v.pu.n v.pu.c, .slice v.on.A v.on.n v.on.c] := ⟨_, rfl⟩
    rw [← hc2]
    refine XR.genQ (fun Q9 hQ9 => ?_)
    have hleaf : ∀ (w7 : World) (q1 q2 : SV), Below w.heap.size w w7 → Fam w7 w.heap.size [g8, g3, g2] [] [hList pmpK q1 (t.pmp ++ [x.p]), hList boolK q2 (t.on ++ [false]), hList winK pv Q] → (∀ k, k ∈ [g8, g3, g2] → k < w7.heap.size) → XE 138 w.heap.size w7 [] Q9 .normal [(1000000 + 107, .slice none 2 0), (107, .pointer (some ⟨g8, Nat.add 0 13, none⟩)), (100, svV q1), (106, svV q2), (1000000 + 8, .slice none 2 0), (1000000 + 2, .slice none 0 0), (1000000 + 3, .slice none 1 0), (2, .pointer (some ⟨g2, 0, none⟩)), (3, .pointer (some ⟨g3, 0, none⟩)), (8, .pointer (some ⟨g8, 0, none⟩)), (11, .int .i64 m)] [(g8, c8), (g3, c3), (g2, c2)] := by
      rintro w7 ⟨p1, pn, p3⟩ ⟨b1, bn, b3⟩ hB hF hk
      subst hQ9 hc8 hc3 hc2
      simp only [svV]
      refine XE.lastR (fun _ _ h => h) ?_
      repeat (first | (refine M0 ?_; first | refine SL ?_ | refine SB fun _ _ => ?_) | (refine M2 ?_; refine SE ?_) | (refine M3 ?_; first | refine SG ?_ | refine SF ?_) | (refine M4 ?_; refine SR ?_) | (refine M5 ?_; first | exact M7 | refine YM ?_ | refine YN ?_ ?_))
      refine XE.lastR (fun _ _ h => h) ?_
      repeat (first | (refine M0 ?_; first | refine SL ?_ | refine SB fun _ _ => ?_) | (refine M2 ?_; refine SE ?_) | (refine M3 ?_; first | refine SG ?_ | refine SF ?_) | (refine M4 ?_; refine SR ?_) | (refine M5 ?_; first | exact M7 | refine YM ?_ | refine YN ?_ ?_))
      refine XE.lastR (fun _ _ h => h) ?_
      repeat (first | (refine M0 ?_; first | refine SL ?_ | refine SB fun _ _ => ?_) | (refine M2 ?_; refine SE ?_) | (refine M3 ?_; first | refine SG ?_ | refine SF ?_) | (refine M4 ?_; refine SR ?_) | (refine M5 ?_; first | exact M7 | refine YM ?_ | refine YN ?_ ?_))
      exact XE.leafW (fun w6 S6 => ⟨(w6, ⟨p1, pn, p3⟩, ⟨b1, bn, b3⟩), ⟨hB.trans S6.toBelow, hF.sys S6 ZZHL, fun x hx => S6.keyLt x (by simp only [List.map_cons, List.map_nil, List.mem_cons, List.not_mem_nil, or_false] at hx ⊢; omega)⟩, ZZSUB, S6.rebase ZZSL⟩)
    clear hQ9
    have hnLs : (List.map (·.1) [(g8, c8), (g3, c3), (g2, c2)]).Nodup := by simp [hn83, hn82, hn32]
    repeat (any_goals (first | (refine M4 ?_; refine SR ?_) | (refine M5 ?_; first | exact M7 | refine YM ?_ | refine YN ?_ ?_) | (refine M3 ?_; first | refine SG ?_ | refine SF ?_) | (refine M2 ?_; (with_reducible refine atHeld ?_); refine z7 ?_ (hn := hnLs)) | (refine M0 ?_; first | (refine XL.atd 93 ?_; refine XL.newRow tok (K := pmpK) (l := []) (wE := w) rfl rfl rfl rfl rfl rfl rfl rfl rfl ⟨rfl, rfl⟩ rfl rfl hF hk hB hB.size (fun a ha => by cases ha) (fun w7 gx hF hB hk => ?_) ZZHL; replace hF := Fam.cut hF; replace hk := ltCut hk) | (refine XL.atd 101 ?_; refine XL.newRow tok (K := boolK) (l := []) (wE := w) rfl rfl rfl rfl rfl rfl rfl rfl rfl ⟨rfl, rfl⟩ rfl rfl hF hk hB hB.size (fun a ha => by cases ha) (fun w7 gx hF hB hk => ?_) ZZHL; replace hF := Fam.cut hF; replace hk := ltCut hk) | (refine XL.atd 99 ?_; refine XL.buildSlice tok rfl rfl rfl rfl rfl rfl rfl rfl rfl (fun _ _ => ?_)) | (refine XL.atd 105 ?_; refine XL.buildSlice tok rfl rfl rfl rfl rfl rfl rfl rfl rfl (fun _ _ => ?_)) | (refine XL.atd 96 ?_; (first | refine XL.pushL (K := pmpK) (l := []) (l2 := t.pmp) (r2 := v.pu) (wE := w) 0 pmp_el7 (by decide) rfl rfl rfl hF rfl hk hB (Nat.le_refl _) (fun w9 S9 => (ht.sys (Sys.ofBelow (hB.trans S9.toBelow))).pmp) (fun a ha x hx => by cases hx) (fun a => rfl) (by simp only [List.length_nil]; omega) (by decide) (fun w7 v8 hF hB hk => ?_) ZZHL | refine XL.pushL (K := pmpK) (l := []) (l2 := t.pmp) (r2 := v.pu) (wE := w) 1 pmp_el7 (by decide) rfl rfl rfl hF rfl hk hB (Nat.le_refl _) (fun w9 S9 => (ht.sys (Sys.ofBelow (hB.trans S9.toBelow))).pmp) (fun a ha x hx => by cases hx) (fun a => rfl) (by simp only [List.length_nil]; omega) (by decide) (fun w7 v8 hF hB hk => ?_) ZZHL); simp only [List.set_cons_zero, List.set_cons_succ, List.nil_append] at hF; obtain ⟨⟨p1, pn, p3⟩, rfl, hrr⟩ := hF.sv (K := pmpK) (l := t.pmp) (v := v8) (by first | exact .head _ | exact .tail _ (.head _)); simp only [svV]; replace hF := Fam.cut hF; replace hk := ltCut hk) | (refine XL.atd 100 ?_; (first | refine XL.push (K := pmpK) (a := x.p) (wE := w) 0 pmp_el7 (by decide) rfl rfl rfl hF rfl hk hB (Nat.le_refl _) rfl (by omega) (by decide) (fun x hx => by cases hx) (fun w7 v8 hF hB hk => ?_) | refine XL.push (K := pmpK) (a := x.p) (wE := w) 1 pmp_el7 (by decide) rfl rfl rfl hF rfl hk hB (Nat.le_refl _) rfl (by omega) (by decide) (fun x hx => by cases hx) (fun w7 v8 hF hB hk => ?_)); simp only [List.set_cons_zero, List.set_cons_succ] at hF; obtain ⟨⟨p1, pn, p3⟩, rfl, hrr⟩ := hF.sv (K := pmpK) (l := t.pmp ++ [x.p]) (v := v8) (by first | exact .head _ | exact .tail _ (.head _)); simp only [svV]; replace hF := Fam.cut hF; replace hk := ltCut hk) | (refine XL.atd 104 ?_; (first | refine XL.pushL (K := boolK) (l := []) (l2 := t.on) (r2 := v.on) (wE := w) 0 bools_el (by decide) rfl rfl rfl hF rfl hk hB (Nat.le_refl _) (fun w9 S9 => (ht.sys (Sys.ofBelow (hB.trans S9.toBelow))).on) (fun a ha x hx => by cases hx) (fun a => rfl) (by simp only [List.length_nil]; omega) (by decide) (fun w7 v8 hF hB hk => ?_) ZZHL | refine XL.pushL (K := boolK) (l := []) (l2 := t.on) (r2 := v.on) (wE := w) 1 bools_el (by decide) rfl rfl rfl hF rfl hk hB (Nat.le_refl _) (fun w9 S9 => (ht.sys (Sys.ofBelow (hB.trans S9.toBelow))).on) (fun a ha x hx => by cases hx) (fun a => rfl) (by simp only [List.length_nil]; omega) (by decide) (fun w7 v8 hF hB hk => ?_) ZZHL); simp only [List.set_cons_zero, List.set_cons_succ, List.nil_append] at hF; obtain ⟨⟨b1, bn, b3⟩, rfl, hrr⟩ := hF.sv (K := boolK) (l := t.on) (v := v8) (by first | exact .head _ | exact .tail _ (.head _)); simp only [svV]; replace hF := Fam.cut hF; replace hk := ltCut hk) | (refine XL.atd 106 ?_; (first | refine XL.push (K := boolK) (a := false) (wE := w) 0 bools_el (by decide) rfl rfl rfl hF rfl hk hB (Nat.le_refl _) rfl (by omega) (by decide) (fun x hx => by cases hx) (fun w7 v8 hF hB hk => ?_) | refine XL.push (K := boolK) (a := false) (wE := w) 1 bools_el (by decide) rfl rfl rfl hF rfl hk hB (Nat.le_refl _) rfl (by omega) (by decide) (fun x hx => by cases hx) (fun w7 v8 hF hB hk => ?_)); simp only [List.set_cons_zero, List.set_cons_succ] at hF; obtain ⟨⟨b1, bn, b3⟩, rfl, hrr⟩ := hF.sv (K := boolK) (l := t.on ++ [false]) (v := v8) (by first | exact .head _ | exact .tail _ (.head _)); simp only [svV]; replace hF := Fam.cut hF; replace hk := ltCut hk) | refine SL ?_)))
    all_goals
      have F6 := Fam.freeze (Fam.freeze hF)
      exact XE.atW (fun w6 S6 => hleaf w6 ⟨p1, pn, p3⟩ ⟨b1, bn, b3⟩ (hB.trans S6.toBelow) (Fam.forget (Fam.add (F6.sys S6 ZZHL) (fun x hx => .inl (by simp only [List.mem_cons, List.not_mem_nil, or_false] at hx; rcases hx with rfl | rfl | rfl <;> simp))) (fun y hy => by simp only [List.mem_cons, List.not_mem_nil, or_false] at hy ⊢; rcases hy with rfl | rfl | rfl <;> simp)) (fun x hx => S6.keyLt x (by simp only [List.mem_cons, List.not_mem_nil, or_false] at hx; rcases hx with rfl | rfl | rfl <;> simp))) ZZSUB ZZSL
  rintro ⟨Wz, ⟨p1, pn, p3⟩, ⟨b1, bn, b3⟩⟩ ⟨hB, hF, hk⟩
  dsimp only [List.cons_append, List.nil_append]
  have hlu : (pum (wid t x) x).slu.length + (pum (wid t x) x).pmp.length ≤ 5000000 := by simp only [pum, wid, List.length_append, List.length_singleton]; omega
  have hat := fun (w5 : World) {ks : List Nat} (hB5 : Below w.heap.size w w5) (F5 : Fam w5 w.heap.size ks [] [hList pmpK ⟨p1, pn, p3⟩ (t.pmp ++ [x.p]), hList boolK ⟨b1, bn, b3⟩ (t.on ++ [false]), hList winK pv Q]) => pum_at (u := wid t x) (wid_at (ht.sys (Sys.ofBelow hB5)) (by rw [← hQ]; exact winInts (Held.lt (x := hList winK pv Q) (F5.get (.tail _ (.tail _ (.head _))))))) (Held.lt (x := hList pmpK ⟨p1, pn, p3⟩ (t.pmp ++ [x.p])) (F5.get (.head _))) (Held.lt (x := hList boolK ⟨b1, bn, b3⟩ (t.on ++ [false])) (F5.get (.tail _ (.head _)))) hx4
  have hch := fun (w5 : World) {ks : List Nat} (hB5 : Below w.heap.size w w5) (F5 : Fam w5 w.heap.size ks [] [hList pmpK ⟨p1, pn, p3⟩ (t.pmp ++ [x.p]), hList boolK ⟨b1, bn, b3⟩ (t.on ++ [false]), hList winK pv Q]) => rnCheck_any (hat w5 hB5 F5) hlu
  have hgr := fun (w5 : World) {ks : List Nat} (hB5 : Below w.heap.size w w5) (F5 : Fam w5 w.heap.size ks [] [hList pmpK ⟨p1, pn, p3⟩ (t.pmp ++ [x.p]), hList boolK ⟨b1, bn, b3⟩ (t.on ++ [false]), hList winK pv Q]) => Great_any (hat w5 hB5 F5) hlu hno
  have hbe := fun (w5 : World) {ks : List Nat} (hB5 : Below w.heap.size w w5) (F5 : Fam w5 w.heap.size ks [] [hList pmpK ⟨p1, pn, p3⟩ (t.pmp ++ [x.p]), hList boolK ⟨b1, bn, b3⟩ (t.on ++ [false]), hList winK pv Q]) => Best_made (hat w5 hB5 F5) hlu
  simp only [tskV, tskC, chkTV, svV] at hch hgr hbe
  obtain ⟨E2, hE2⟩ : ∃ a, a = (chkT (pum (wid t x) x)).2.2 := ⟨_, rfl⟩
  rw [← hE2] at hch
  repeat (first | (refine M0 ?_; first | refine SL ?_ | refine SB fun _ _ => ?_) | (refine M1 ?_; refine SC ?_) | (refine M2 ?_; refine SE ?_))
  refine Y4 (Ev.call (f := 8) (ck rfl) rfl (fun w5 S5 => hch w5 (hB.trans S5.toBelow) (hF.sys S5 ZZHL))) ?_
  repeat (first | (refine M0 ?_; first | refine SL ?_ | refine SB fun _ _ => ?_) | (refine M1 ?_; refine SC ?_) | (refine M2 ?_; refine SE ?_))
  by_cases c3 : E2 = 0
  rotate_left
  · rw [show decide (E2 ≠ 0) = true from decide_eq_true c3]
    repeat (first | (refine M0 ?_; first | refine SL ?_ | refine SB fun _ _ => ?_ | refine Y4 (Ev.call (f := 7) (ck rfl) rfl (fun w5 S5 => haw w5 S5)) ?_) | (refine M1 ?_; refine SC ?_) | (refine M2 ?_; refine SE ?_))
    refine XE.retg tok Try.results3 rfl (by simp only [and_self, and_true]) (fun w' S => ?_)
    exact ⟨rfl, hB.trans S.toBelow⟩
  rw [show decide (E2 ≠ 0) = false from decide_eq_false (fun h => h c3)]
  repeat (first | (refine M0 ?_; first | refine SL ?_ | refine SB fun _ _ => ?_) | (refine M1 ?_; refine SC ?_) | (refine M2 ?_; refine SE ?_))
  refine Y4 (Ev.call (f := 6) (ck rfl) rfl (fun w5 S5 => hgr w5 (hB.trans S5.toBelow) (hF.sys S5 ZZHL))) ?_
  repeat (first | (refine M0 ?_; first | refine SL ?_ | refine SB fun _ _ => ?_) | (refine M1 ?_; refine SC ?_) | (refine M2 ?_; refine SE ?_))
  cases hG2 : greatB (pum (wid t x) x) with
  | true =>
    repeat (first | (refine M0 ?_; first | refine SL ?_ | refine SB fun _ _ => ?_ | refine Y4 (Ev.call (f := 7) (ck rfl) rfl (fun w5 S5 => haw w5 S5)) ?_) | (refine M1 ?_; refine SC ?_) | (refine M2 ?_; refine SE ?_))
    refine XE.retg tok Try.results3 rfl (by simp only [and_self, and_true]) (fun w' S => ?_)
    exact ⟨rfl, hB.trans S.toBelow⟩
  | false =>
  obtain ⟨hpE, hpC⟩ := more_pum (u := wid t x) (x := x) (wid_ok hr0 hx1.1 hx2.1 hx3.1) hwR (hE2.symm.trans c3)
  repeat (first | (refine M0 ?_; first | refine SL ?_ | refine SB fun _ _ => ?_) | (refine M1 ?_; refine SC ?_) | (refine M2 ?_; refine SE ?_))
  refine XL.callF (wE := w) (BestV (pum (wid t x) x)) (ck rfl) rfl rfl hF hk hB (fun w5 S5 hF5 hB5 => hbe w5 hB5 hF5) (fun w3 y new hR hF hB hk => ?_) ZZHL
  obtain ⟨q4, rfl, rfl⟩ := hR
  rw [hpE]
  obtain ⟨m2, hm2⟩ : ∃ a, a = fdC (bst (pum (wid t x) x)) := ⟨_, rfl⟩
  rw [← hm2]
  have hmm2 : m2 ≤ m := by rw [hm2, hmm]; exact hpC
  simp only [svV]
  repeat (first | (refine M0 ?_; first | refine SL ?_ | refine SB fun _ _ => ?_) | (refine M1 ?_; refine SC ?_) | (refine M2 ?_; refine SE ?_))
  rw [show decide (m2 ≤ m) = true from decide_eq_true hmm2]
  repeat (first | (refine M0 ?_; first | refine SL ?_ | refine SB fun _ _ => ?_ | refine Y4 (Ev.call (f := 7) (ck rfl) rfl (fun w5 S5 => haw w5 S5)) ?_) | (refine M1 ?_; refine SC ?_) | (refine M2 ?_; refine SE ?_))
  refine XE.retg tok Try.results3 rfl (by simp only [and_self, and_true]) (fun w' S => ?_)
  exact ⟨rfl, hB.trans S.toBelow⟩
end Go.Proofs.Ytlfjdbilblfknaa.X
