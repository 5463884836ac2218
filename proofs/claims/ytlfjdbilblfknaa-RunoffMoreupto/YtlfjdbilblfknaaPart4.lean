/-
  The plain law of RunoffMore: lesser prices, a greater High, a lesser Low; one pump more.
-/
import Derived.Test.YtlfjdbilblfknaaPart3
set_option linter.unusedVariables false
set_option linter.unusedSimpArgs false
namespace Go.Proofs.Ytlfjdbilblfknaa.Bs
open Go.Proofs.Ytlfjdbilblfknaa.X
set_option linter.unusedVariables false
/-- lesser prices, wider limits. -/
structure Wider (t u : RTk) : Prop where
  b : u.b = t.b
  outer : u.outer = t.outer
  river : u.river = t.river
  slu : u.slu = t.slu
  pmp : u.pmp = t.pmp
  pri : ∀ i, i < t.outer.length → at0 u.prices i ≤ at0 t.prices i
  low : u.low ≤ t.low
  high : t.high ≤ u.high
section
variable {t u : RTk}
theorem Wider.devs (h : Wider t u) : u.devs = t.devs := by unfold RTk.devs; rw [h.slu, h.pmp]
theorem Wider.use (h : Wider t u) (v : Int) (i : Nat) (b f : List Bool) : u.use v i b f = t.use v i b f := by
  unfold RTk.use
  rw [h.b, h.outer, h.devs]
theorem Wider.tickOf (h : Wider t u) (i : Nat) (f : Int) : u.tickOf i f = t.tickOf i f := by
  unfold RTk.tickOf
  rw [h.outer, h.river]
theorem doD_of {s : Sta} {i : Nat} {b f : List Bool} (h : t.doE s i b f = 0) : ∃ a e, t.use s.vol i b f = some (a, e) ∧ stepE t.b s (t.tickOf i a) = 0 ∧ t.low * den t.b (outS t.b s (t.tickOf i a)).vol ≤ num t.b (outS t.b s (t.tickOf i a)).vol ∧ num t.b (outS t.b s (t.tickOf i a)).vol ≤ t.high * den t.b (outS t.b s (t.tickOf i a)).vol ∧ t.doD s i b f = ⟨outS t.b s (t.tickOf i a), a, e, e * at0 t.prices i⟩ := by
  have h' := h
  unfold RTk.doE at h'
  cases hu : t.use s.vol i b f with
  | none => rw [hu] at h'; cases h'
  | some p =>
    obtain ⟨a, e⟩ := p
    rw [hu] at h'
    simp only at h'
    split at h'
    · cases h'
    rename_i h1
    split at h'
    · cases h'
    rename_i h2
    split at h'
    · cases h'
    rename_i h3
    refine ⟨a, e, rfl, by simpa using h1, by omega, by omega, ?_⟩
    unfold RTk.doD
    rw [if_pos h, hu]
theorem doE_of {s : Sta} {i : Nat} {b f : List Bool} {a e : Int} (hu : t.use s.vol i b f = some (a, e)) (h1 : stepE t.b s (t.tickOf i a) = 0) (h2 : t.low * den t.b (outS t.b s (t.tickOf i a)).vol ≤ num t.b (outS t.b s (t.tickOf i a)).vol) (h3 : num t.b (outS t.b s (t.tickOf i a)).vol ≤ t.high * den t.b (outS t.b s (t.tickOf i a)).vol) :
    t.doE s i b f = 0 ∧ t.doD s i b f = ⟨outS t.b s (t.tickOf i a), a, e, e * at0 t.prices i⟩ := by
  have h : t.doE s i b f = 0 := by
    unfold RTk.doE
    rw [hu]
    simp only
    rw [if_neg (by simpa using h1), if_neg (by omega), if_neg (by omega)]
  refine ⟨h, ?_⟩
  unfold RTk.doD
  rw [if_pos h, hu]
/-- a good tick stays good, and costs no more. -/
theorem Wider.does (h : Wider t u) (ho : RtOk t) {s : Sta} (hs : StaOk t.b s) {i : Nat} (hi : i < t.outer.length) {b f : List Bool} (e : t.doE s i b f = 0) : u.doE s i b f = 0 ∧ (u.doD s i b f).s = (t.doD s i b f).s ∧ (u.doD s i b f).cost ≤ (t.doD s i b f).cost ∧ StaOk t.b (t.doD s i b f).s := by
  obtain ⟨a, c, h1, h2, h3, h4, h5⟩ := doD_of e
  have hd : 0 ≤ c := by
    obtain ⟨_, _, _, p, k1, _, k3⟩ := do_sta ho hs hi e
    rw [h1] at k1
    cases k1
    exact (use_bd ho hs.vol hi h1).2.1
  obtain ⟨hst, _⟩ := do_sta ho hs hi e
  have hden := den_pos ho.ok.rowsOk (outS t.b s (t.tickOf i a)).vol
  have k1 : u.low * den t.b (outS t.b s (t.tickOf i a)).vol ≤ t.low * den t.b (outS t.b s (t.tickOf i a)).vol := Int.mul_le_mul_of_nonneg_right h.low (by omega)
  have k2 : t.high * den t.b (outS t.b s (t.tickOf i a)).vol ≤ u.high * den t.b (outS t.b s (t.tickOf i a)).vol := Int.mul_le_mul_of_nonneg_right h.high (by omega)
  obtain ⟨g1, g2⟩ := doE_of (t := u) (s := s) (i := i) (b := b) (f := f) (a := a) (e := c) (by rw [h.use]; exact h1) (by rw [h.b, h.tickOf]; exact h2) (by rw [h.b, h.tickOf]; omega) (by rw [h.b, h.tickOf]; omega)
  refine ⟨g1, by rw [g2, h5, h.b, h.tickOf], ?_, hst⟩
  rw [g2, h5]
  exact Int.mul_le_mul_of_nonneg_left (h.pri i hi) hd
theorem Wider.flw (h : Wider t u) (ho : RtOk t) : ∀ {p : Plan} {i : Nat} {s : Sta} {b : List Bool}, StaOk t.b s → i + p.length ≤ t.outer.length → (t.flw i s b p).2 = 0 → (u.flw i s b p).2 = 0 ∧ costs (u.flw i s b p).1 ≤ costs (t.flw i s b p).1 := by
  intro p
  induction p with
  | nil => intro i s b _ _ _; exact ⟨rfl, Int.le_refl _⟩
  | cons on r ih =>
    intro i s b hs hl e
    simp only [List.length_cons] at hl
    obtain ⟨h0, h1, h2⟩ := flw_cons e
    obtain ⟨k0, k1, k2, k3⟩ := h.does ho hs (by omega) h0
    obtain ⟨j1, j2⟩ := ih k3 (by omega) h1
    rw [flw_cons_of k0, h2, k1, costs_cons, costs_cons]
    exact ⟨j1, by omega⟩
/-- the cheapest plan costs no more. -/
theorem Wider.rest (h : Wider t u) (ho : RtOk t) {s : Sta} (hs : StaOk t.b s) {b : List Bool} {c : Int} {p : Plan} (e : t.rest t.n s b = some (c, p)) : ∃ c' p', u.rest u.n s b = some (c', p') ∧ c' ≤ c := by
  have hn : u.n = t.n := by unfold RTk.n; rw [h.outer]
  have hm : u.m = t.m := by unfold RTk.m; rw [h.devs]
  obtain ⟨g, hc⟩ := rest_good (Nat.le_refl _) e
  have g0 := g.ok
  rw [Nat.sub_self] at g0 hc
  obtain ⟨j1, j2⟩ := h.flw ho hs (i := 0) (by rw [g.len]; exact Nat.le_of_eq (Nat.zero_add _)) g0
  obtain ⟨c', p', k1, k2, _⟩ := rest_least (t := u) (k := u.n) (s := s) (before := b) (q := p) (Nat.le_refl _) ⟨by rw [hn]; exact g.len, fun on hon => by rw [hm]; exact g.row on hon, by rw [Nat.sub_self]; exact j1⟩
  rw [Nat.sub_self] at k2
  exact ⟨c', p', k1, by omega⟩
end
/-! ### one pump more -/
theorem bl_app {l : List Bool} {k : Nat} (h : k < l.length) : bl (l ++ [false]) k = bl l k := by
  unfold bl
  rw [List.getElem?_append_left h]
theorem bl_end (l : List Bool) : bl (l ++ [false]) l.length = false := by
  unfold bl
  rw [List.getElem?_append_right (Nat.le_refl _), Nat.sub_self]; rfl
theorem useTo_more {n d o : Int} {ds : List Dev} {x : Dev} {b f : List Bool} (hb : b.length = ds.length) (hf : f.length = ds.length) : ∀ k, k ≤ ds.length → useTo n d o (ds ++ [x]) (b ++ [false]) (f ++ [false]) k = useTo n d o ds b f k := by
  intro k
  induction k with
  | zero => intro _; rfl
  | succ k ih =>
    intro hk
    unfold useTo
    rw [ih (by omega), bl_app (by omega), bl_app (by omega), List.getElem?_append_left (by omega)]
theorem useTo_last {n d o : Int} {ds : List Dev} {x : Pmp} {b f : List Bool} (hb : b.length = ds.length) (hf : f.length = ds.length) : useTo n d o (ds ++ [.pmp x]) (b ++ [false]) (f ++ [false]) (ds.length + 1) = useTo n d o ds b f ds.length := by
  have h := useTo_more (n := n) (d := d) (o := o) (x := .pmp x) hb hf ds.length (Nat.le_refl _)
  have e1 : bl (f ++ [false]) ds.length = false := by rw [← hf]; exact bl_end f
  cases hu : useTo n d o ds b f ds.length with
  | none => rw [hu] at h; exact useTo_none (Nat.le_succ _) h
  | some p =>
    rw [hu] at h
    rw [useTo_off h e1, List.getElem?_append_right (Nat.le_refl _), Nat.sub_self]
    simp [Dev.energy]
structure Pumped (t u : RTk) : Prop where
  b : u.b = t.b
  outer : u.outer = t.outer
  river : u.river = t.river
  pri : u.prices = t.prices
  low : u.low = t.low
  high : u.high = t.high
  devs : ∃ x, u.devs = t.devs ++ [.pmp x]
section
variable {t u : RTk}
theorem Pumped.use (h : Pumped t u) (v : Int) (i : Nat) {b f : List Bool} (hb : b.length = t.m) (hf : f.length = t.m) : u.use v i (b ++ [false]) (f ++ [false]) = t.use v i b f := by
  obtain ⟨x, hx⟩ := h.devs
  unfold RTk.use
  rw [h.b, h.outer, hx, List.length_append, List.length_singleton, useTo_last hb hf]
theorem Pumped.doE (h : Pumped t u) (s : Sta) (i : Nat) {b f : List Bool} (hb : b.length = t.m) (hf : f.length = t.m) : u.doE s i (b ++ [false]) (f ++ [false]) = t.doE s i b f := by
  unfold RTk.doE RTk.tickOf
  rw [h.use _ _ hb hf, h.b, h.outer, h.river, h.low, h.high]
theorem Pumped.doD (h : Pumped t u) (s : Sta) (i : Nat) {b f : List Bool} (hb : b.length = t.m) (hf : f.length = t.m) : u.doD s i (b ++ [false]) (f ++ [false]) = t.doD s i b f := by
  unfold RTk.doD
  rw [h.doE _ _ hb hf, h.use _ _ hb hf]
  unfold RTk.tickOf
  rw [h.b, h.outer, h.river, h.pri]
theorem Pumped.flw (h : Pumped t u) : ∀ {p : Plan} {i : Nat} {s : Sta} {b : List Bool}, b.length = t.m → (∀ on, on ∈ p → on.length = t.m) → u.flw i s (b ++ [false]) (p.map (· ++ [false])) = t.flw i s b p := by
  intro p
  induction p with
  | nil => intro i s b _ _; rfl
  | cons on r ih =>
    intro i s b hb hp
    have ho := hp on (.head _)
    rw [List.map_cons, flw_eq, flw_eq, h.doE _ _ hb ho, h.doD _ _ hb ho, ih ho fun x hx => hp x (.tail _ hx)]
theorem Pumped.rest (h : Pumped t u) {s : Sta} {b : List Bool} (hb : b.length = t.m) {c : Int} {p : Plan} (e : t.rest t.n s b = some (c, p)) : ∃ c' p', u.rest u.n s (b ++ [false]) = some (c', p') ∧ c' ≤ c := by
  have hn : u.n = t.n := by unfold RTk.n; rw [h.outer]
  have hm : u.m = t.m + 1 := by obtain ⟨x, hx⟩ := h.devs; unfold RTk.m; rw [hx, List.length_append]; rfl
  obtain ⟨g, hc⟩ := rest_good (Nat.le_refl _) e
  have g0 := g.ok
  rw [Nat.sub_self] at g0 hc
  have hf := h.flw (p := p) (i := 0) (s := s) hb g.row
  obtain ⟨c', p', k1, k2, _⟩ := rest_least (t := u) (k := u.n) (s := s) (before := b ++ [false]) (q := p.map (· ++ [false])) (Nat.le_refl _) ⟨by rw [List.length_map, hn]; exact g.len, fun on hon => by
    obtain ⟨x, hx, rfl⟩ := List.mem_map.1 hon
    rw [List.length_append, g.row x hx, hm]; rfl, by rw [Nat.sub_self, hf]; exact g0⟩
  rw [Nat.sub_self, hf] at k2
  exact ⟨c', p', k1, by omega⟩
end
end Go.Proofs.Ytlfjdbilblfknaa.Bs
/-
  The walks of the choices: the iterator (runoff).
-/
namespace Go.Proofs.Ytlfjdbilblfknaa.X
open Go Go.RowKit Go.Proofs.Ytlfjdbilblfknaa.Bs
set_option linter.unusedVariables false
theorem choices_any {g : Nat} {w : World} :
    Calls Try.prog 35 #[.pointer (some ⟨g, 0, none⟩)] w fun e w' => ∃ v, e = .returned v ∧ ∃ gp, v = .func (.func 46) #[] #[.pointer (some ⟨gp, 0, none⟩)] ∧ Sys w.heap.size w [(gp, cel 71 [.pointer (some ⟨g, 0, none⟩)])] w' := by
  refine enter Try.func35 rfl Try.ntmps35 rfl ?_; simp only [frame, Nat.zero_add, Nat.reduceAdd]
  repeat (first | (refine M0 ?_; first | refine SL ?_ | refine SB fun _ _ => ?_ | refine Y4 (Ev.makeFunc rfl rfl) ?_) | (refine M1 ?_; first | refine SC ?_ | refine SD ?_) | (refine M2 ?_; refine SE ?_) | (refine M3 ?_; first | refine SG ?_ | refine SF ?_ | refine YF (Ev.makeFunc rfl rfl) ?_) | (refine M4 ?_; refine SR ?_) | (refine M5 ?_; first | exact M7 | refine YM ?_ | refine YN ?_ ?_))
  refine XE.retg tok Try.results35 rfl (by simp only [and_self, and_true]) (fun w' S => ?_)
  exact ⟨_, rfl, _, rfl, S⟩
theorem bools_el : elemOk Try.prog 31 4 1 1 = true := by kernel_rfl
theorem bools_zero : (Try.prog.info? 4).bind (·.zero) = some (.bool false) := by kernel_rfl
/-- the first k of choice i are set. -/
def prt (m i k : Nat) : List Bool := (List.range m).map fun j => decide (j < k) && i.testBit (m - 1 - j)
theorem prt_len (m i k : Nat) : (prt m i k).length = m := by simp [prt]
theorem prt_0 (m i : Nat) : prt m i 0 = List.replicate m false := by
  apply List.ext_getElem (by simp [prt])
  intro j h1 h2
  simp [prt]
theorem prt_m (m i : Nat) : prt m i m = chc m i := by
  apply List.ext_getElem (by simp [prt, chc])
  intro j h1 h2
  have : j < m := by simpa [prt] using h1
  simp [prt, chc, this]
theorem prt_set {m i k : Nat} (hk : k < m) : (bools (prt m i k)).set k (.bool (i.testBit (m - 1 - k))) = bools (prt m i (k + 1)) := by
  apply List.ext_getElem (by simp [bools, prt])
  intro j h1 h2
  have hj : j < m := by simpa [bools, prt] using h2
  rw [List.getElem_set]
  by_cases e : k = j
  · subst e
    simp [bools, prt]
  · have e2 : decide (j < k) = decide (j < k + 1) := by
      rcases Nat.lt_or_gt_of_ne e with h | h
      · simp [show ¬ j < k by omega, show ¬ j < k + 1 by omega]
      · simp [show j < k by omega, show j < k + 1 by omega]
    simp [bools, prt, e, e2]
theorem bit_eq (i n : Nat) : decide ((((i >>> n) % 2 : Nat) : Int) = 1) = i.testBit n := by
  rw [Nat.testBit_eq_decide_div_mod_eq, Nat.shiftRight_eq_div_pow]
  simp only [decide_eq_decide]
  omega
section
variable {P : Program} {N : Nat} {B : Nat} {w0 : World} {ds : List Deferred} {F : Fr} {L : Lo} {pu : Prop} {dst : Option Tmp} {ty : TypeId} {p : String} {af : Array Edge} {gd : Option (Nat × Bool)}
theorem Ev.shrQ {x y : Operand} {t u : TypeId} {j : IntKind} {m n : Nat} {q : Int} (hx : evo F x = some (.int .i64 (m : Nat))) (hy : evo F y = some (.int j q)) (hq : q = (n : Nat)) (hn : n ≤ 64) :
    Ev P N B w0 ds pu F L ⟨dst, .binOp .shr t x y u, ty, p, af, gd⟩ (.int .i64 ((m >>> n : Nat) : Int)) := by
  subst hq
  exact Ev.shrN hx hy hn
end
set_option maxHeartbeats 16000000 in
theorem chs_any {σ : Type} (Lf : σ → Lo) (Wf : σ → World) (J : Nat → σ → Prop) {B l g gp m c : Nat} {A : Option Addr} (s0 : σ) (hm : m ≤ 4) (S0 : Sys B (Wf s0) (Lf s0) (Wf s0)) (h0 : J 0 s0)
    (hgp : (Wf s0).cell? ⟨gp, 0, none⟩ = some (.pointer (some ⟨g, 0, none⟩))) (hg : (Wf s0).cell? ⟨g, 15, none⟩ = some (.slice A m c)) (hlp : gp < (Wf s0).heap.size) (hlg : g < (Wf s0).heap.size) (hfp : ∀ e, e ∈ Lf s0 → e.1 ≠ gp) (hfg : ∀ e, e ∈ Lf s0 → e.1 ≠ g)
    (hy : ∀ i s gn W, i < 2 ^ m → J i s → (Wf s).heap.size ≤ gn → Sys B (Wf s) ((gn, cel 4 (bools (chc m i))) :: Lf s) W → ∀ w1, Sys B W (Lf s) w1 →
      ∃ fn tmps assign body, (Instr.yield l (#[.slice (some ⟨gn, 0, none⟩) m m] : Array Value)).run Try.prog w1 = .ok (.round l fn tmps assign body) w1 ∧
        RoundIn Fence.wide 0 Try.prog l fn tmps assign body w1 fun e w' => ∃ v, e = .returned v ∧ v = .bool true ∧ ∃ s', J (i + 1) s' ∧ Sys B (Wf s') (Lf s') w') :
    Calls Try.prog 46 #[.func (.yield l) #[] #[], .pointer (some ⟨gp, 0, none⟩)] (Wf s0) fun e w' => ∃ v, e = .returned v ∧ ∃ s, J (2 ^ m) s ∧ Sys B (Wf s) (Lf s) w' := by
  have h16 : 2 ^ m ≤ 16 := Nat.pow_le_pow_right (n := 2) (by decide) hm
  obtain ⟨M, hM⟩ : ∃ M, M = 2 ^ m := ⟨_, rfl⟩
  refine enterL Try.func46 rfl Try.ntmps46 rfl (S0) ?_; simp only [frame, Nat.zero_add, Nat.reduceAdd]
  repeat (first | (refine M0 ?_; first | refine SL ?_ | refine SB fun _ _ => ?_ | refine Y4 (Ev.load_far tok rfl rfl hlp hfp hgp) ?_ | refine Y4 (Ev.load_far tok rfl rfl hlg hfg hg) ?_ | refine Y4 (Ev.shl1 (n := m) rfl (by omega)) ?_) | (refine M1 ?_; first | refine SC ?_ | refine SD ?_) | (refine M2 ?_; refine SE ?_) | (refine M3 ?_; first | refine SG ?_ | refine SF ?_ | refine YF (Ev.load_far tok rfl rfl hlp hfp hgp) ?_ | refine YF (Ev.load_far tok rfl rfl hlg hfg hg) ?_ | refine YF (Ev.shl1 (n := m) rfl (by omega)) ?_) | (refine M4 ?_; refine SR ?_) | (refine M5 ?_; first | exact M7 | refine YM ?_ | refine YN ?_ ?_))
  rw [← hM] at h16 hy ⊢
  refine XC.loopk [0, 3, 13] rfl (fun s : Nat × σ => [(14, .int .i64 (s.1 : Nat))]) (fun s => Lf s.2) (fun s => Wf s.2) (fun s => s.1 ≤ M ∧ J s.1 s.2) (fun s => M - s.1) (0, s0) ⟨Nat.zero_le _, h0⟩ ZZSUB (fun _ h => h) ?_
  rintro ⟨i, s⟩ ⟨hi, hJ⟩
  simp only at hi hJ
  dsimp only [List.cons_append, List.nil_append]
  repeat (first | (refine M0 ?_; first | refine SL ?_ | refine SB fun _ _ => ?_) | (refine M1 ?_; first | refine SC ?_ | refine SD ?_) | (refine M2 ?_; refine SE ?_) | (refine M3 ?_; first | refine SG ?_ | refine SF ?_) | (refine M4 ?_; refine SR ?_) | (refine M5 ?_; first | exact M7 | refine YM ?_ | refine YN ?_ ?_))
  refine XC.cond _ rfl (fun h1 => ?_) (fun h1 => ?_)
  rotate_left
  · have him : i = M := by have := of_decide_eq_false h1; omega
    subst him
    repeat (first | (refine M0 ?_; first | refine SL ?_ | refine SB fun _ _ => ?_) | (refine M1 ?_; first | refine SC ?_ | refine SD ?_) | (refine M2 ?_; refine SE ?_) | (refine M3 ?_; first | refine SG ?_ | refine SF ?_) | (refine M4 ?_; refine SR ?_) | (refine M5 ?_; first | exact M7 | refine YM ?_ | refine YN ?_ ?_))
    refine XE.end0 Try.results46 (fun w' S => ?_)
    exact ⟨_, rfl, s, hJ, S⟩
  have him : i < M := by have := of_decide_eq_true h1; omega
  repeat (first | (refine M0 ?_; first | refine SL ?_ | refine SB fun _ _ => ?_ | refine XL.makeBools bools_el bools_zero rfl rfl rfl (by omega) (fun _ _ => ?_)) | (refine M1 ?_; first | refine SC ?_ | refine SD ?_) | (refine M2 ?_; refine SE ?_) | (refine M3 ?_; first | refine SG ?_ | refine SF ?_) | (refine M4 ?_; refine SR ?_) | (refine M5 ?_; first | exact M7 | refine YM ?_ | refine YN ?_ ?_))
  rename_i gn hgn
  rw [← prt_0 m i]
  refine XC.loopk [0, 3, 4, 5, 13, 14, 20] rfl (fun k : Nat => [(21, .int .i64 (k : Nat))]) (fun k => (gn, cel 4 (bools (prt m i k))) :: Lf s) (fun _ => Wf s) (fun k => k ≤ m) (fun k => m - k) 0 (Nat.zero_le _) ZZSUB (fun _ h => h) ?_
  intro k hk
  dsimp only [List.cons_append, List.nil_append]
  repeat (first | (refine M0 ?_; first | refine SL ?_ | refine SB fun _ _ => ?_) | (refine M1 ?_; first | refine SC ?_ | refine SD ?_) | (refine M2 ?_; refine SE ?_) | (refine M3 ?_; first | refine SG ?_ | refine SF ?_) | (refine M4 ?_; refine SR ?_) | (refine M5 ?_; first | exact M7 | refine YM ?_ | refine YN ?_ ?_))
  refine XC.cond _ rfl (fun h2 => ?_) (fun h2 => ?_)
  · have hkm : k < m := by have := of_decide_eq_true h2; omega
    have hq : (m : Int) - 1 - (k : Int) = ((m - 1 - k : Nat) : Int) := by omega
    have hlt : i >>> (m - 1 - k) < 4611686018427387904 := Nat.lt_of_le_of_lt (Nat.shiftRight_le _ _) (by omega)
    repeat (first | (refine M0 ?_; first | refine SL ?_ | refine SB fun _ _ => ?_ | refine Y4 (Ev.shrQ (m := i) (n := m - 1 - k) rfl rfl hq (by omega)) ?_ | refine Y4 (Ev.and1 (m := i >>> (m - 1 - k)) rfl hlt) ?_) | (refine M1 ?_; first | refine SC ?_ | refine SD ?_) | (refine M2 ?_; refine SE ?_) | (refine M3 ?_; first | refine SG ?_ | refine SF ?_ | refine YF (Ev.shrQ (m := i) (n := m - 1 - k) rfl rfl hq (by omega)) ?_ | refine YF (Ev.and1 (m := i >>> (m - 1 - k)) rfl hlt) ?_) | (refine M4 ?_; refine SR ?_) | (refine M5 ?_; first | exact M7 | refine YM ?_ | refine YN ?_ ?_))
    rw [bit_eq]
    refine XL.store_at tok 0 (o := 0) (j := k * 1) rfl rfl rfl rfl rfl (by rw [bools_len, prt_len]; omega) rfl ?_
    rw [Nat.zero_add, Nat.mul_one k, prt_set (i := i) hkm]
    repeat (first | (refine M0 ?_; first | refine SL ?_ | refine SB fun _ _ => ?_) | (refine M1 ?_; first | refine SC ?_ | refine SD ?_) | (refine M2 ?_; refine SE ?_) | (refine M3 ?_; first | refine SG ?_ | refine SF ?_) | (refine M4 ?_; refine SR ?_) | (refine M5 ?_; first | exact M7 | refine YM ?_ | refine YN ?_ ?_))
    exact XE.round (s := k) (k + 1) hkm (by omega) ZZSUB (fun _ h => h)
  have hkm : k = m := by have := of_decide_eq_false h2; omega
  rw [hkm, prt_m]
  repeat (first | (refine M0 ?_; first | refine SL ?_ | refine SB fun _ _ => ?_) | (refine XI.id ?_; first | refine XI.done ?_ | refine XI.one1 rfl ?_) | (refine XR'.id ?_; first | refine XR'.seq ?_ | refine XR'.region ?_ | refine XR'.block ?_ | refine XR'.skip ?_ | refine XR'.ret ?_ | refine XR'.cond_t rfl ?_ | refine XR'.cond_f rfl ?_ | refine XR'.exit ?_) | (refine M1 ?_; first | refine XC.regionI (id := 10) 1 ?_ | refine SC ?_ | refine SD ?_) | (refine M2 ?_; first | refine XE.nextI ?_ | refine XE.nextR ?_ | refine SE ?_))
  refine XI.rebase (L' := Lf s) (List.sublist_cons_self _ _) (fun W3 S3 => ?_)
  refine XI.yield (vs := [.slice (some ⟨gn, 0, none⟩) m m]) rfl rfl rfl (fun _ v w' => v = .bool true ∧ ∃ s', J (i + 1) s' ∧ Sys B (Wf s') (Lf s') w') (fun w4 S4 => ?_) (fun w4 v5 w5 S4 ⟨e5, s', hJ', S5⟩ => ⟨_, _, S5, ?_⟩)
  · exact hy i s gn W3 him hJ hgn S3 w4 S4
  subst e5
  repeat (first | (refine M0 ?_; first | refine SL ?_ | refine SB fun _ _ => ?_) | (refine XI.id ?_; first | refine XI.done ?_ | refine XI.one1 rfl ?_) | (refine XR'.id ?_; first | refine XR'.seq ?_ | refine XR'.region ?_ | refine XR'.block ?_ | refine XR'.skip ?_ | refine XR'.ret ?_ | refine XR'.cond_t rfl ?_ | refine XR'.cond_f rfl ?_ | refine XR'.exit ?_) | (refine M1 ?_; first | refine SC ?_ | refine SD ?_) | (refine M2 ?_; first | refine XE.nextI ?_ | refine XE.nextR ?_ | refine SE ?_))
  exact XE.round (s := (i, s)) (i + 1, s') ⟨him, hJ'⟩ (by simp only; omega) ZZSUB (fun _ h => h)
end Go.Proofs.Ytlfjdbilblfknaa.X
/-
  The walk of place (runoff).
-/
namespace Go.Proofs.Ytlfjdbilblfknaa.X
open Go Go.RowKit Go.Proofs.Ytlfjdbilblfknaa.Bs
set_option linter.unusedVariables false
theorem ints_el6 : elemOk Try.prog 26 3 1 8 = true := by kernel_rfl
theorem arr6 : arrB (Try.prog.underlying 108) = some (6, 3) := by kernel_rfl
theorem int_sz : (Try.prog.info? 3).map (·.size) = some 1 := by kernel_rfl
theorem pad_list {l : List Int} (h : l.length ≤ 6) : (ints l ++ List.replicate (6 - l.length) (.int .i64 0) : List Value) = [.int .i64 (at0 l 0), .int .i64 (at0 l 1), .int .i64 (at0 l 2), .int .i64 (at0 l 3), .int .i64 (at0 l 4), .int .i64 (at0 l 5)] := by
  match l, h with
  | [], _ => rfl
  | [_], _ => rfl
  | [_, _], _ => rfl
  | [_, _, _], _ => rfl
  | [_, _, _, _], _ => rfl
  | [_, _, _, _, _], _ => rfl
  | [_, _, _, _, _, _], _ => rfl
theorem obits_on {l : List Bool} {k : Nat} (h : bl l k = true) : obits l (k + 1) = obits l k ||| 2 ^ k := by
  rw [obits, if_pos h]
theorem obits_off {l : List Bool} {k : Nat} (h : bl l k = false) : obits l (k + 1) = obits l k := by
  rw [obits, if_neg (by simp [h])]
set_option maxHeartbeats 8000000 in
theorem place_any {g i : Nat} {sq p : SV} {s : Sta} {before : List Bool} {w : World} (hq : IntsAt w (Lt w.heap.size) sq s.fil) (h6 : s.fil.length ≤ 6) (hb : ListAt boolK w (Lt w.heap.size) p before) (hbl : before.length ≤ 4) :
    Calls Try.prog 38 #[.pointer (some ⟨g, 0, none⟩), staV sq s, .int .i64 (i : Nat), svV p] w fun e w' => e = .returned (.agg ⟨placeC i s before⟩) ∧ Below w.heap.size w w' := by
  obtain ⟨Ap, np, cp⟩ := p
  obtain ⟨Aq, nq, cq⟩ := sq
  have lp := hb.len (by decide)
  have lq := hq.len
  simp only at lp lq
  subst lp lq
  simp only [staV, staC, svV]
  refine enter Try.func38 rfl Try.ntmps38 rfl ?_; simp only [frame, Nat.zero_add, Nat.reduceAdd]
  repeat (first | (refine M0 ?_; first | refine SL ?_ | refine SB fun _ _ => ?_) | (refine M1 ?_; first | refine SC ?_ | refine SD ?_) | (refine M2 ?_; refine SE ?_) | (refine M3 ?_; first | refine SG ?_ | refine SF ?_) | (refine M4 ?_; refine SR ?_) | (refine M5 ?_; first | exact M7 | refine YM ?_ | refine YN ?_ ?_))
  rename_i g5 hg5 g8 hg8 g9 hg9
  have h16 : ∀ k, k ≤ 4 → 2 ^ k ≤ 16 := fun k hk => Nat.pow_le_pow_right (n := 2) (by decide) hk
  have hob := fun k => obits_lt before k
  refine XC.loopk [5, 8, 9, 16, 17] rfl (fun k : Nat => [(18, .int .i64 (k : Nat))]) (fun k => [(g9, cel 110 [.int .i64 (i : Nat), .int .i64 s.vol, .int .i64 (obits before k : Nat), .int .i64 0, .int .i64 0, .int .i64 0, .int .i64 0, .int .i64 0, .int .i64 0]), (g8, cel 110 [.int .i64 0, .int .i64 0, .int .i64 0, .int .i64 0, .int .i64 0, .int .i64 0, .int .i64 0, .int .i64 0, .int .i64 0]), (g5, cel 28 [.int .i64 s.vol, .slice Aq s.fil.length cq])]) (fun _ => w) (fun k => k ≤ before.length) (fun k => before.length - k) 0 (Nat.zero_le _) ZZSUB (fun _ h => h) ?_
  intro k hk
  dsimp only [List.cons_append, List.nil_append]
  repeat (first | (refine M0 ?_; first | refine SL ?_ | refine SB fun _ _ => ?_) | (refine M1 ?_; first | refine SC ?_ | refine SD ?_) | (refine M2 ?_; refine SE ?_) | (refine M3 ?_; first | refine SG ?_ | refine SF ?_) | (refine M4 ?_; refine SR ?_) | (refine M5 ?_; first | exact M7 | refine YM ?_ | refine YN ?_ ?_))
  refine XC.cond _ rfl (fun h1 => ?_) (fun h1 => ?_)
  · have hkl : k < before.length := by have := of_decide_eq_true h1; omega
    obtain ⟨ap, rfl, hlp⟩ := hb.addr (by decide) (by omega)
    have hbk := boolAt hb (k := k) hkl
    have hk1 := hob k
    have hk2 := h16 k (by omega)
    repeat (first | (refine M0 ?_; first | refine SL ?_ | refine SB fun _ _ => ?_ | refine Y4 (Ev.load_old tok rfl rfl (add_lt hlp) hbk) ?_) | (refine M1 ?_; first | refine SC ?_ | refine SD ?_) | (refine M2 ?_; refine SE ?_) | (refine M3 ?_; first | refine SG ?_ | refine SF ?_ | refine YF (Ev.load_old tok rfl rfl (add_lt hlp) hbk) ?_) | (refine M4 ?_; refine SR ?_) | (refine M5 ?_; first | exact M7 | refine YM ?_ | refine YN ?_ ?_))
    refine XC.cond _ rfl (fun h2 => ?_) (fun h2 => ?_)
    · repeat (first | (refine M0 ?_; first | refine SL ?_ | refine SB fun _ _ => ?_ | refine Y4 (Ev.shl1 (n := k) rfl (by omega)) ?_ | refine Y4 (Ev.orN (a := obits before k) (b := 2 ^ k) rfl rfl (by omega) (by omega)) ?_) | (refine M1 ?_; first | refine SC ?_ | refine SD ?_) | (refine M2 ?_; refine SE ?_) | (refine M3 ?_; first | refine SG ?_ | refine SF ?_ | refine YF (Ev.shl1 (n := k) rfl (by omega)) ?_ | refine YF (Ev.orN (a := obits before k) (b := 2 ^ k) rfl rfl (by omega) (by omega)) ?_) | (refine M4 ?_; refine SR ?_) | (refine M5 ?_; first | exact M7 | refine YM ?_ | refine YN ?_ ?_))
      rw [← obits_on h2]
      exact XE.round (s := k) (k + 1) hkl (by omega) ZZSUB (fun _ h => h)
    · repeat (first | (refine M0 ?_; first | refine SL ?_ | refine SB fun _ _ => ?_) | (refine M1 ?_; first | refine SC ?_ | refine SD ?_) | (refine M2 ?_; refine SE ?_) | (refine M3 ?_; first | refine SG ?_ | refine SF ?_) | (refine M4 ?_; refine SR ?_) | (refine M5 ?_; first | exact M7 | refine YM ?_ | refine YN ?_ ?_))
      rw [← obits_off h2]
      exact XE.round (s := k) (k + 1) hkl (by omega) ZZSUB (fun _ h => h)
  have hkl : k = before.length := by have := of_decide_eq_false h1; omega
  rw [hkl]
  repeat (first | (refine M0 ?_; first | refine SL ?_ | refine SB fun _ _ => ?_) | (refine M1 ?_; refine SC ?_) | (refine M2 ?_; refine SE ?_))
  refine XC.drawT mixed rfl rfl (by kernel_rfl) ?_
  repeat (first | (refine M0 ?_; first | refine SL ?_ | refine SB fun _ _ => ?_ | refine Y4 (Ev.sliceArr rfl arr6 int_sz (by decide)) ?_) | (refine M2 ?_; refine SE ?_) | (refine M3 ?_; first | refine SG ?_ | refine SF ?_ | refine YF (Ev.sliceArr rfl arr6 int_sz (by decide)) ?_) | (refine M4 ?_; refine SR ?_) | (refine M5 ?_; first | exact M7 | refine YM ?_ | refine YN ?_ ?_))
  refine XL.copyIn 0 (o := 3) (vs := ints s.fil) ints_el6 rfl rfl rfl rfl (fun w5 S5 => (hq.arg S5).rd) h6 (by simp only [List.length_cons, List.length_nil]; omega) (fun v hv => by obtain ⟨x, _, rfl⟩ := List.mem_map.1 hv; rfl) rfl ?_
  have e9 : (([.int .i64 (i : Nat), .int .i64 s.vol, .int .i64 (obits before before.length : Nat), .int .i64 0, .int .i64 0, .int .i64 0, .int .i64 0, .int .i64 0, .int .i64 0] : List Value).take 3 ++ ints s.fil ++ ([.int .i64 (i : Nat), .int .i64 s.vol, .int .i64 (obits before before.length : Nat), .int .i64 0, .int .i64 0, .int .i64 0, .int .i64 0, .int .i64 0, .int .i64 0] : List Value).drop (3 + s.fil.length)) = placeC i s before := by
    have e1 : ([.int .i64 (i : Nat), .int .i64 s.vol, .int .i64 (obits before before.length : Nat), .int .i64 0, .int .i64 0, .int .i64 0, .int .i64 0, .int .i64 0, .int .i64 0] : List Value).drop (3 + s.fil.length) = List.replicate (6 - s.fil.length) (.int .i64 0) := by
      rw [← List.drop_drop, show ([.int .i64 (i : Nat), .int .i64 s.vol, .int .i64 (obits before before.length : Nat), .int .i64 0, .int .i64 0, .int .i64 0, .int .i64 0, .int .i64 0, .int .i64 0] : List Value).drop 3 = List.replicate 6 (.int .i64 0) from rfl, List.drop_replicate]
    rw [e1, List.append_assoc, pad_list h6]
    rfl
  rw [e9]
  simp only [placeC]
  repeat (first | (refine M0 ?_; first | refine SL ?_ | refine SB fun _ _ => ?_) | (refine M1 ?_; refine SC ?_) | (refine M2 ?_; refine SE ?_))
  refine XE.retg tok Try.results38 rfl (by simp only [and_self, and_true]) (fun w' S => ?_)
  exact ⟨rfl, S.toBelow⟩
end Go.Proofs.Ytlfjdbilblfknaa.X
/-
  The rounds of rest: what a choice does to the best rest and to what is known (runoff).
-/
namespace Go.Proofs.Ytlfjdbilblfknaa.Bs
open Go.Proofs.Ytlfjdbilblfknaa.X
theorem rest_bd {t : RTk} (h : RtOk t) : ∀ {k : Nat} {s : Sta} {b : List Bool} {c : Int} {p : Plan}, k ≤ t.n → StaOk t.b s → t.rest k s b = some (c, p) → 0 ≤ c ∧ c ≤ 200000000000000 * k := by
  intro k
  induction k with
  | zero => intro s b c p _ _ e; cases e; simp
  | succ k ih =>
    intro s b c p hk hs e
    obtain ⟨on, p', _, h0, h1⟩ := rest_next e
    obtain ⟨a1, a2, a3, _⟩ := do_sta h hs (show t.n - (k + 1) < t.outer.length by unfold RTk.n at *; omega) h0
    have := ih (by omega) a1 h1
    omega
theorem rest_len {t : RTk} {k : Nat} {s : Sta} {b : List Bool} (hk : k ≤ t.n) : (fdP (t.rest k s b)).length ≤ k := by
  cases h : t.rest k s b with
  | none => simp [fdP]
  | some x => obtain ⟨c, p⟩ := x; exact Nat.le_of_eq (rest_good hk h).1.len
end Go.Proofs.Ytlfjdbilblfknaa.Bs
namespace Go.Proofs.Ytlfjdbilblfknaa.X
open Go Go.RowKit Go.Proofs.Ytlfjdbilblfknaa.Bs
set_option linter.unusedVariables false
def rfOf2 : Code → Option (Code × Code)
  | .rangeFunc _ _ a b => some (a, b)
  | .seq x y => match rfOf2 x with
    | some r => some r
    | none => rfOf2 y
  | .block _ c => rfOf2 c
  | .scope c => rfOf2 c
  | _ => none
/-- what rest answers. -/
def RestR (t : RTk) (gm k : Nat) (ks : List Nat) (kvs : List (Value × Value)) (s : Sta) (b : List Bool) (w : World) (vv : Value) (w' : World) : Prop :=
  ∃ (q : SV) (new : List (Value × Value)), vv = tailV q (t.rest k s b) ∧ Sys gm w [(gm, mapO (kvs ++ new))] w' ∧ Fam w' gm ks [] [hMem t (kvs ++ new), hPlan q (fdP (t.rest k s b))] ∧ KeysOk Try.prog 110 (kvs ++ new) ∧ NewK (t.n - k) new
def RestC (t : RTk) (v : RTV) (r : SV) (g gt gm k : Nat) : Prop :=
  ∀ {w : World} {ks : List Nat} {kvs : List (Value × Value)} {sq p : SV} {s : Sta} {b : List Bool}, PlnAt w (Ng' gm w) g gt gm v r t → TskAt w gm v t → w.heap[gm]? = some (mapO kvs) → Fam w gm ks [] [hMem t kvs] → gm ∈ ks → (∀ k, k ∈ ks → k < w.heap.size) → KeysOk Try.prog 110 kvs →
    StaOk t.b s → b.length = t.m → IntsAt w (Ng' gm w) sq s.fil → ListAt boolK w (Ng' gm w) p b →
    Calls Try.prog 20 #[.pointer (some ⟨g, 0, none⟩), staV sq s, .int .i64 (t.n - k : Nat), svV p] w fun e w' => ∃ vv, e = .returned vv ∧ RestR t gm k ks kvs s b w vv w'
theorem better_none (x : Bs.Fd) : better x none = x := by cases x <;> rfl
theorem one_none {t : RTk} {more : Sta → List Bool → Bs.Fd} {s : Sta} {i : Nat} {b f : List Bool} (h : t.doE s i b f ≠ 0) : t.one more s i b f = none := by unfold RTk.one; rw [if_neg h]
theorem plan_el : elemOk Try.prog 39 31 1 24 = true := by kernel_rfl
theorem Kp.growV {gm : Nat} {w W W' : World} {L : Lo} {v : Value} (h : Kp gm w W) (hB : Below gm w W') (ho : ∀ j, j < W.heap.size → (∀ e, e ∈ L → e.1 ≠ j) → v.ownBlock ≠ some j → W'.heap[j]? = W.heap[j]?) (hL : ∀ e, e ∈ L → e.1 ∈ [gm] ∨ w.heap.size ≤ e.1) (hv : ∀ k, v.ownBlock = some k → w.heap.size ≤ k) : Kp gm w W' :=
  ⟨hB, fun j hj => (ho j (Nat.lt_of_lt_of_le hj.1 h.below.size) (fun e he e1 => by
    rcases hL e he with h1 | h1
    · exact hj.2 (by rw [← e1]; exact List.mem_singleton.1 h1)
    · have := hj.1; omega) fun e => by have := hv j e; have := hj.1; omega).trans (h.old j hj)⟩
theorem mem_two {α : Type} {a b : α} {l : List α} (h1 : a ∈ l) (h2 : b ∈ l) : ∀ e, e ∈ [a, b] → e ∈ l := fun e he => by
  rcases List.mem_cons.1 he with rfl | he
  · exact h1
  · rw [List.mem_singleton.1 he]; exact h2
theorem one_none2 {t : RTk} {more : Sta → List Bool → Bs.Fd} {s : Sta} {i : Nat} {b f : List Bool} (h : more (t.doD s i b f).s f = none) : t.one more s i b f = none := by unfold RTk.one; split <;> simp [h]
theorem isSome_f {x : Bs.Fd} (h : x.isSome = false) : x = none := by cases x with
  | none => rfl
  | some y => cases h
/-- what costs as much already is no better. -/
theorem better_old {t : RTk} {more : Sta → List Bool → Bs.Fd} {s : Sta} {i : Nat} {b f : List Bool} {best : Bs.Fd} (hb : best.isSome = true) (h : ∀ c p, more (t.doD s i b f).s f = some (c, p) → fdC best ≤ (t.doD s i b f).cost + c) : better best (t.one more s i b f) = best := by
  cases best with
  | none => cases hb
  | some x =>
    cases h1 : t.one more s i b f with
    | none => rfl
    | some y =>
      obtain ⟨_, c, p, h2, rfl⟩ := one_some h1
      have := h c p h2
      simp only [fdC, Option.map_some, Option.getD_some] at this
      simp only [better]
      rw [if_neg (show ¬ ((t.doD s i b f).cost + c < x.1) by omega)]
/-- what is found first, or costs less. -/
theorem better_new {t : RTk} {more : Sta → List Bool → Bs.Fd} {s : Sta} {i : Nat} {b f : List Bool} {best : Bs.Fd} {c : Int} {p : Plan} (h0 : t.doE s i b f = 0) (hm : more (t.doD s i b f).s f = some (c, p)) (h : best.isSome = true → (t.doD s i b f).cost + c < fdC best) : better best (t.one more s i b f) = some ((t.doD s i b f).cost + c, f :: p) := by
  rw [one_of h0 hm]
  cases best with
  | none => rfl
  | some x =>
    have := h rfl
    simp only [fdC, Option.map_some, Option.getD_some] at this
    simp only [better]
    rw [if_pos (show (t.doD s i b f).cost + c < x.1 by omega)]
abbrev KR (l D g12 g10 g9 g8 g7 g6 g5 g4 : Nat) : List Nat := [l, D, g12, g10, g9, g8, g7, g6, g5, g4]
abbrev LR (l D g12 g10 g9 g8 g7 g6 g5 g4 gm : Nat) (r0 : Loop) (o10 o9 o8 : Obj) (q : SV) (best : Bs.Fd) (p : SV) (i0 : Nat) (sq : SV) (s : Sta) (g : Nat) (kvs : List (Value × Value)) : Lo :=
  [(l, .loop r0), (D, .deferred (some [])), (g12, cel 75 (tailC q best)), (g10, o10), (g9, o9), (g8, o8), (g7, cel 31 [svV p]), (g6, cel 3 [.int .i64 (i0 : Nat)]), (g5, cel 28 (staC sq s)), (g4, cel 71 [.pointer (some ⟨g, 0, none⟩)]), (gm, mapO kvs)]
abbrev oneV (tmps : Array Value) (v : Value) : Array Value := ((#[44] : Array Tmp).zip #[v]).foldl (fun s (p, y) => s.setIfInBounds p y) tmps
/-- what a round leaves. -/
def RoundR (t : RTk) (gm : Nat) (ks : List Nat) (kvs : List (Value × Value)) (i1 : Nat) (best : Bs.Fd) (L : SV → List (Value × Value) → Lo) (w w' : World) : Prop :=
  ∃ (W' : World) (q' : SV) (new : List (Value × Value)), Kp gm w W' ∧ Fam W' gm ks [] [hMem t (kvs ++ new), hPlan q' (fdP best)] ∧ (∀ k, k ∈ ks → k < W'.heap.size) ∧ KeysOk Try.prog 110 (kvs ++ new) ∧ NewK i1 new ∧ Sys gm W' (L q' (kvs ++ new)) w'
set_option maxHeartbeats 32000000 in
set_option maxRecDepth 10000 in
theorem rest_round {l D g12 g10 g9 g8 g7 g6 g5 g4 gm g gt k i0 j gn n : Nat} {t : RTk} {v : RTV} {r sq p q : SV} {s : Sta} {before on : List Bool} {best : Bs.Fd} {ks : List Nat} {kvs : List (Value × Value)} {w W w1 : World} {fn : FuncId} {a : Act} {assign body : Code} {o10 o9 o8 : Obj} {c : Code}
    (IH : RestC t v r g gt gm k) (ho : RtOk t) (hc0 : chkE t.b = 0) (hi0 : i0 = t.n - (k + 1)) (hk : k + 1 ≤ t.n) (hs : StaOk t.b s) (hbl : before.length = t.m) (hon : on.length = t.m) (hm4 : t.m ≤ 4)
    (hP : PlnAt w (Ng' gm w) g gt gm v r t) (hT : TskAt w gm v t) (hgm : gm < w.heap.size) (hq : IntsAt w (Ng' gm w) sq s.fil) (hb : ListAt boolK w (Ng' gm w) p before)
    (hown : ∀ x, x ∈ KR l D g12 g10 g9 g8 g7 g6 g5 g4 → w.heap.size ≤ x) (hKp : Kp gm w W) (hgk : gm ∈ ks)
    (hF : Fam W gm (KR l D g12 g10 g9 g8 g7 g6 g5 g4 ++ ks) [] [hList boolK ⟨some ⟨gn, 0, none⟩, t.m, t.m⟩ on, hMem t kvs, hPlan q (fdP best)]) (hks : ∀ x, x ∈ KR l D g12 g10 g9 g8 g7 g6 g5 g4 ++ ks → x < W.heap.size) (hkeys : KeysOk Try.prog 110 kvs)
    (hbest : ∀ c p, best = some (c, p) → 0 ≤ c ∧ c ≤ 2000000000000000)
    (hc : Try.f20.body = some c) (hr : rfOf2 c = some (assign, body))
    (hf : Fits 109 [] [(4, .pointer (some ⟨g4, 0, none⟩)), (5, .pointer (some ⟨g5, 0, none⟩)), (6, .pointer (some ⟨g6, 0, none⟩)), (12, .pointer (some ⟨g12, 0, none⟩)), (7, .pointer (some ⟨g7, 0, none⟩))] a)
    (S : Sys gm W (LR l D g12 g10 g9 g8 g7 g6 g5 g4 gm (recO fn a.tmps #[44] assign body D .ready none) o10 o9 o8 q best p i0 sq s g kvs) w1) :
    (Instr.yield l (#[.slice (some ⟨gn, 0, none⟩) t.m t.m] : Array Value)).run Try.prog w1 = .ok (.round l fn (oneV a.tmps (.slice (some ⟨gn, 0, none⟩) t.m t.m)) assign body) w1 ∧
    RoundIn Fence.wide n Try.prog l fn (oneV a.tmps (.slice (some ⟨gn, 0, none⟩) t.m t.m)) assign body w1 fun e1 w' => ∃ u, e1 = .returned u ∧ u = .bool true ∧
      RoundR t gm (KR l D g12 g10 g9 g8 g7 g6 g5 g4 ++ ks) kvs (i0 + 1) (better best (t.one (t.rest k) s i0 before on)) (fun q' kvs' => LR l D g12 g10 g9 g8 g7 g6 g5 g4 gm (recO fn a.tmps #[44] assign body D .ready none) o10 o9 o8 q' (better best (t.one (t.rest k) s i0 before on)) p i0 sq s g kvs') w w' := by
  have hloop := (S.own _ List.mem_cons_self).2
  have hgg : gm ∈ [gm] := .head _
  obtain ⟨ks1, hks1⟩ : ∃ ks1, ks1 = KR l D g12 g10 g9 g8 g7 g6 g5 g4 ++ ks := ⟨_, rfl⟩
  rw [← hks1] at hF hks ⊢
  have b1 := hown l (by simp)
  have b2 := hown D (by simp)
  have b3 := hown g12 (by simp)
  have b4 := hown g10 (by simp)
  have b5 := hown g9 (by simp)
  have b6 := hown g8 (by simp)
  have b7 := hown g7 (by simp)
  have b8 := hown g6 (by simp)
  have b9 := hown g5 (by simp)
  have b0 := hown g4 (by simp)
  have m1 : l ∈ ks1 := by rw [hks1]; simp
  have m2 : D ∈ ks1 := by rw [hks1]; simp
  have m3 : g12 ∈ ks1 := by rw [hks1]; simp
  have m4 : g10 ∈ ks1 := by rw [hks1]; simp
  have m5 : g9 ∈ ks1 := by rw [hks1]; simp
  have m6 : g8 ∈ ks1 := by rw [hks1]; simp
  have m7 : g7 ∈ ks1 := by rw [hks1]; simp
  have m8 : g6 ∈ ks1 := by rw [hks1]; simp
  have m9 : g5 ∈ ks1 := by rw [hks1]; simp
  have m0 : g4 ∈ ks1 := by rw [hks1]; simp
  have mg : gm ∈ ks1 := by rw [hks1]; exact List.mem_append_right _ hgk
  clear hks1 hgk
  have hgW : gm ≤ W.heap.size := Nat.le_of_lt (Nat.lt_of_lt_of_le hgm hKp.below.size)
  have hi : i0 < t.outer.length := by unfold RTk.n at hi0 hk; omega
  have hi6 : i0 < 6 := Nat.lt_of_lt_of_le hi ho.n6
  refine ⟨run_yield (args := #[.slice (some ⟨gn, 0, none⟩) t.m t.m]) hloop rfl, ?_⟩
  obtain ⟨r0, hr0, hr1, hr2⟩ : ∃ r0, recO fn a.tmps #[44] assign body D .ready none = r0 ∧ r0.state = .ready ∧ r0.pending = none := ⟨_, rfl, rfl, rfl⟩
  rw [hr0] at S ⊢
  clear hloop hr0
  have hr3 : { { r0 with state := .busy } with state := .ready, pending := none } = r0 := by
    cases r0; simp only at hr1 hr2; subst hr1 hr2; rfl
  have e1 : Try.f20.body = some _ := rfl
  rw [e1] at hc
  cases hc
  simp only [rfOf2, Option.some.injEq, Prod.mk.injEq] at hr
  obtain ⟨rfl, rfl⟩ := hr
  clear e1
  refine round_of ((((((hf.params1 rfl).hint 4 (.slice none 1 0)).hint 5 (.slice none 2 0)).hint 6 (.slice none 3 0)).hint 7 (.slice none 4 0)).hint 12 (.slice none 8 0)) S ?_
  simp only [LR, staC, tailC, svV]
  repeat (first | (refine M0 ?_; first | refine SL ?_ | refine SB fun _ _ => ?_) | (refine XI.id ?_; first | refine XI.done ?_ | refine XI.one1 rfl ?_) | (refine XR'.id ?_; first | refine XR'.seq ?_ | refine XR'.region ?_ | refine XR'.block ?_ | refine XR'.skip ?_ | refine XR'.ret ?_ | refine XR'.cond_t rfl ?_ | refine XR'.cond_f rfl ?_ | refine XR'.exit ?_) | (refine M1 ?_; first | refine SC ?_ | refine SD ?_) | (refine M2 ?_; first | refine XE.nextI ?_ | refine XE.nextR ?_ | refine SE ?_))
  refine XE.begin (i := 0) rfl hr1 rfl ?_
  repeat (first | (refine M0 ?_; first | refine SL ?_ | refine SB fun _ _ => ?_) | (refine XI.id ?_; first | refine XI.done ?_ | refine XI.one1 rfl ?_) | (refine XR'.id ?_; first | refine XR'.seq ?_ | refine XR'.region ?_ | refine XR'.block ?_ | refine XR'.skip ?_ | refine XR'.ret ?_ | refine XR'.cond_t rfl ?_ | refine XR'.cond_f rfl ?_ | refine XR'.exit ?_) | (refine M1 ?_; first | refine SC ?_ | refine SD ?_) | (refine M2 ?_; first | refine XE.nextI ?_ | refine XE.nextR ?_ | refine SE ?_))
  refine XL.callr (fst := []) (cap := []) (fun w2 x w3 => ∃ q2 : SV, x = .tuple ⟨[.agg ⟨doneC q2 (t.doD s i0 before on)⟩, .int .i64 (t.doE s i0 before on)]⟩ ∧ IntsAt w3 (Btw w2.heap.size w3.heap.size) q2 (t.doD s i0 before on).s.fil ∧ Below w2.heap.size w2 w3) (ck rfl) rfl rfl rfl (fun w2 S2 => ?_) (fun w2 x w3 S2 hR => ?_)
  · have K2 : Kp gm w w2 := hKp.sys S2 ZZHM
    have F2 := hF.sys S2 ZZHM
    simp only [List.nil_append, List.append_nil]
    exact (do_made (g := g) (gt := gt) (gm := gm) (v := v) (r := r) (p := p) (q := ⟨some ⟨gn, 0, none⟩, t.m, t.m⟩) (sq := sq) ⟨(hP.keep K2.old).mono K2.lt, (hT.below K2.below).more (Nat.le_trans hgW S2.size)⟩ hc0 ho ((hq.keep K2.old).mono K2.lt) hs hi ((hb.keep K2.old).mono K2.lt) hbl ((F2.held (hList boolK ⟨some ⟨gn, 0, none⟩, t.m, t.m⟩ on) (.head _)).mono fun j hj => hj.2.1) hon).mono fun e w' ⟨v, new, e1, e2, e3, e4⟩ => by
      obtain ⟨q2, rfl, rfl⟩ := e2
      exact ⟨_, e1, q2, rfl, e3 _ (.head _), e4⟩
  obtain ⟨q2, rfl, hq2, hB2⟩ := hR
  refine ⟨_, w3, S2.made hB2, ?_⟩
  have K3 : Kp gm w w3 := (hKp.sys S2 ZZHM).made hB2 (Nat.le_trans hgW S2.size)
  have F3 : Fam w3 gm ks1 [] (hInts q2 (t.doD s i0 before on).s.fil :: _) := ((hF.call S2 hB2 ZZHM hks (new := [hInts q2 (t.doD s i0 before on).s.fil]) (fun x hx => by rw [List.mem_singleton.1 hx]; exact hq2)).1).add fun k hk => .inl (List.mem_append_right _ hk)
  have hks3 : ∀ x, x ∈ ks1 → x < w3.heap.size := fun x hx => Nat.lt_of_lt_of_le (hks x hx) (Nat.le_trans S2.size hB2.size)
  have hg3 : gm ≤ w3.heap.size := Nat.le_trans hgW (Nat.le_trans S2.size hB2.size)
  clear S2 hB2 hq2 hF hks hgW hKp S
  obtain ⟨E, hE⟩ : ∃ E, E = t.doE s i0 before on := ⟨_, rfl⟩
  obtain ⟨d, hd⟩ : ∃ d, d = t.doD s i0 before on := ⟨_, rfl⟩
  rw [← hd] at F3
  rw [← hE, ← hd]
  simp only [doneC]
  repeat (first | (refine M0 ?_; first | refine SL ?_ | refine SB fun _ _ => ?_) | (refine XI.id ?_; first | refine XI.done ?_ | refine XI.one1 rfl ?_) | (refine XR'.id ?_; first | refine XR'.seq ?_ | refine XR'.region ?_ | refine XR'.block ?_ | refine XR'.skip ?_ | refine XR'.ret ?_ | refine XR'.cond_t rfl ?_ | refine XR'.cond_f rfl ?_ | refine XR'.exit ?_) | (refine M1 ?_; first | refine SC ?_ | refine SD ?_) | (refine M2 ?_; first | refine XE.nextI ?_ | refine XE.nextR ?_ | refine SE ?_))
  rename_i g14 hg14
  have b14 : w.heap.size ≤ g14 := Nat.le_trans K3.below.size hg14
  by_cases hE0 : E = 0
  rotate_left
  · rw [show decide (E ≠ 0) = true from decide_eq_true hE0]
    repeat (first | (refine M0 ?_; first | refine SL ?_ | refine SB fun _ _ => ?_) | (refine XI.id ?_; first | refine XI.done ?_ | refine XI.one1 rfl ?_) | (refine XR'.id ?_; first | refine XR'.seq ?_ | refine XR'.region ?_ | refine XR'.block ?_ | refine XR'.skip ?_ | refine XR'.ret ?_ | refine XR'.cond_t rfl ?_ | refine XR'.cond_f rfl ?_ | refine XR'.exit ?_) | (refine M1 ?_; first | refine SC ?_ | refine SD ?_) | (refine M2 ?_; first | refine XE.nextI ?_ | refine XE.nextR ?_ | refine SE ?_))
    refine XE.endR (i := 1) rfl rfl (fun w' S' => ?_)
    rw [one_none (by rw [← hE]; exact hE0), better_none]
    have hr3' := hr3
    simp only at hr3'
    simp only [hr3'] at S'
    refine ⟨_, rfl, rfl, w', q, [], K3.sys S' ZZHM, Fam.forget (F3.sys S' ZZHM) ?_, ?_, ?_, (fun x hx => by cases hx), ?_⟩
    · intro x hx
      rcases List.mem_cons.1 hx with rfl | hx
      · simp
      · rw [List.mem_singleton.1 hx]; simp
    · exact fun x hx => Nat.lt_of_lt_of_le (hks3 x hx) S'.size
    · rw [List.append_nil]; exact hkeys
    · exact S'.rebase (by rw [List.append_nil]; simp only [LR, staC, tailC, svV]; repeat (first | exact List.Sublist.refl _ | exact List.nil_sublist _ | refine List.Sublist.cons_cons _ ?_ | refine List.Sublist.cons _ ?_))
  rw [show decide (E ≠ 0) = false from decide_eq_false (fun h => h hE0)]
  have hd0 : t.doE s i0 before on = 0 := by rw [← hE]; exact hE0
  obtain ⟨hds, hdc0, hdc1, _⟩ := do_sta ho hs hi hd0
  rw [← hd] at hds hdc0 hdc1
  obtain ⟨bs, hbs⟩ : ∃ bs, bs = best.isSome := ⟨_, rfl⟩
  obtain ⟨c0, hc0'⟩ : ∃ c0, c0 = fdC best := ⟨_, rfl⟩
  rw [← hbs, ← hc0']
  have hmore0 : ∀ c p, t.rest k d.s on = some (c, p) → 0 ≤ c ∧ c ≤ 200000000000000 * k := fun c p h => rest_bd ho (by omega) hds h
  cases bs
  all_goals
    repeat (first | (refine M0 ?_; first | refine SL ?_ | refine SB fun _ _ => ?_) | (refine XI.id ?_; first | refine XI.done ?_ | refine XI.one1 rfl ?_) | (refine XR'.id ?_; first | refine XR'.seq ?_ | refine XR'.region ?_ | refine XR'.block ?_ | refine XR'.skip ?_ | refine XR'.ret ?_ | refine XR'.cond_t rfl ?_ | refine XR'.cond_f rfl ?_ | refine XR'.exit ?_) | (refine M1 ?_; first | refine SC ?_ | refine SD ?_) | (refine M2 ?_; first | refine XE.nextI ?_ | refine XE.nextR ?_ | refine SE ?_))
  rotate_left
  refine XR'.cond _ rfl (fun h2 => ?_) (fun h2 => ?_)
  · repeat (first | (refine M0 ?_; first | refine SL ?_ | refine SB fun _ _ => ?_) | (refine XI.id ?_; first | refine XI.done ?_ | refine XI.one1 rfl ?_) | (refine XR'.id ?_; first | refine XR'.seq ?_ | refine XR'.region ?_ | refine XR'.block ?_ | refine XR'.skip ?_ | refine XR'.ret ?_ | refine XR'.cond_t rfl ?_ | refine XR'.cond_f rfl ?_ | refine XR'.exit ?_) | (refine M1 ?_; first | refine SC ?_ | refine SD ?_) | (refine M2 ?_; first | refine XE.nextI ?_ | refine XE.nextR ?_ | refine SE ?_))
    refine XE.endR (i := 1) rfl rfl (fun w' S' => ?_)
    rw [better_old hbs.symm (fun c p h => by rw [← hd] at h ⊢; have := hmore0 c p h; have := of_decide_eq_true h2; omega)]
    have hr3' := hr3
    simp only at hr3'
    simp only [hr3'] at S'
    refine ⟨_, rfl, rfl, w', q, [], K3.sys S' ZZHM, Fam.forget (F3.sys S' ZZHM) ?_, ?_, ?_, (fun x hx => by cases hx), ?_⟩
    · intro x hx
      rcases List.mem_cons.1 hx with rfl | hx
      · simp
      · rw [List.mem_singleton.1 hx]; simp
    · exact fun x hx => Nat.lt_of_lt_of_le (hks3 x hx) S'.size
    · rw [List.append_nil]; exact hkeys
    · exact S'.rebase (by rw [List.append_nil]; simp only [LR, staC, tailC, svV]; rw [← hbs, ← hc0']; repeat (first | exact List.Sublist.refl _ | exact List.nil_sublist _ | refine List.Sublist.cons_cons _ ?_ | refine List.Sublist.cons _ ?_))
  repeat (first | (refine M0 ?_; first | refine SL ?_ | refine SB fun _ _ => ?_) | (refine XI.id ?_; first | refine XI.done ?_ | refine XI.one1 rfl ?_) | (refine XR'.id ?_; first | refine XR'.seq ?_ | refine XR'.region ?_ | refine XR'.block ?_ | refine XR'.skip ?_ | refine XR'.ret ?_ | refine XR'.cond_t rfl ?_ | refine XR'.cond_f rfl ?_ | refine XR'.exit ?_) | (refine M1 ?_; first | refine SC ?_ | refine SD ?_) | (refine M2 ?_; first | refine XE.nextI ?_ | refine XE.nextR ?_ | refine SE ?_))
  all_goals
    have htk : ((i0 : Int) + 1) = ((t.n - k : Nat) : Int) := by omega
    rw [htk]
    obtain ⟨ks2, hks2⟩ : ∃ ks2, ks2 = g14 :: ks1 := ⟨_, rfl⟩
    have n14 : g14 ∈ ks2 := by rw [hks2]; exact .head _
    have hsub : ∀ x, x ∈ ks1 → x ∈ ks2 := fun x hx => by rw [hks2]; exact .tail _ hx
    have n1 := hsub _ m1
    have n2 := hsub _ m2
    have n3 := hsub _ m3
    have n4 := hsub _ m4
    have n5 := hsub _ m5
    have n6 := hsub _ m6
    have n7 := hsub _ m7
    have n8 := hsub _ m8
    have n9 := hsub _ m9
    have n0 := hsub _ m0
    have ng := hsub _ mg
    have F3' := F3.add (ks' := ks2) fun x hx => by
      rw [hks2] at hx
      rcases List.mem_cons.1 hx with rfl | hx
      · exact .inr hg14
      · exact .inl hx
    refine XL.callr (fst := []) (cap := []) (fun w4 x w5 => RestR t gm k ks2 kvs d.s on w4 x w5) (ck rfl) rfl rfl rfl (fun w4 S4 => ?_) (fun w4 x w5 S4 hR => ?_)
    · have K4 : Kp gm w w4 := K3.sys S4 ZZHM
      have F4 := F3'.sys S4 ZZHM
      simp only [List.nil_append, List.append_nil]
      refine IH (w := w4) (ks := ks2) (kvs := kvs) (sq := q2) (p := ⟨some ⟨gn, 0, none⟩, t.m, t.m⟩) (s := d.s) (b := on) ((hP.keep K4.old).mono K4.mono) (hT.below K4.below) ?_ (F4.forget fun x hx => by rw [List.mem_singleton.1 hx]; simp) ng (fun x hx => ?_) hkeys hds hon ?_ ?_
      · exact (S4.own (gm, mapO kvs) (by repeat (first | exact List.mem_cons_self | apply List.mem_cons_of_mem))).2
      · rw [hks2] at hx
        rcases List.mem_cons.1 hx with rfl | hx
        · exact S4.lt (e := (x, _)) (.head _)
        · exact Nat.lt_of_lt_of_le (hks3 x hx) S4.size
      · exact (F4.held (hInts q2 d.s.fil) (.head _)).mono fun j hj => ⟨hj.2.1, fun e => hj.2.2.1 (e ▸ ng)⟩
      · exact (F4.held (hList boolK ⟨some ⟨gn, 0, none⟩, t.m, t.m⟩ on) (.tail _ (.head _))).mono fun j hj => ⟨hj.2.1, fun e => hj.2.2.1 (e ▸ ng)⟩
    obtain ⟨q5, new, rfl, S5, F5, hkeys5, hnew⟩ := hR
    have S5' := S4.turned 11 rfl rfl S5
    refine ⟨_, w5, S5'.rebase (List.Sublist.refl _), ?_⟩
    have K5 : Kp gm w w5 := K3.sys S5' ZZHM
    have F6 := (F3'.sys S4 ZZHM).after S5 ng F5
    have hks5 : ∀ x, x ∈ ks2 → x < w5.heap.size := fun x hx => by
      rw [hks2] at hx
      rcases List.mem_cons.1 hx with rfl | hx
      · exact Nat.lt_of_lt_of_le (S4.lt (e := (x, _)) (.head _)) S5.size
      · exact Nat.lt_of_lt_of_le (hks3 x hx) (Nat.le_trans S4.size S5.size)
    clear F3 F3' F5 S4 S5 S5' K3
    obtain ⟨fd, hfd⟩ : ∃ fd, fd = t.rest k d.s on := ⟨_, rfl⟩
    rw [← hfd] at F6
    have hc5 : 0 ≤ fdC fd ∧ fdC fd ≤ 2000000000000000 := by
      cases hfd' : fd with
      | none => simp [fdC]
      | some y =>
        have h6 : (k : Int) ≤ 6 := by have := ho.n6; unfold RTk.n at hk; omega
        have := hmore0 y.1 y.2 (by rw [← hfd, hfd'])
        simp only [fdC, Option.map_some, Option.getD_some]
        omega
    rw [← hfd]
    simp only [tailV, tailC]
    obtain ⟨c5, hc5'⟩ : ∃ c5, c5 = fdC fd := ⟨_, rfl⟩
    obtain ⟨ms, hms⟩ : ∃ ms, ms = fd.isSome := ⟨_, rfl⟩
    rw [← hc5'] at hc5
    rw [← hc5', ← hms]
    have hks5' : ∀ x, x ∈ ks1 → x < w5.heap.size := fun x hx => hks5 x (hsub x hx)
    repeat (first | (refine M0 ?_; first | refine SL ?_ | refine SB fun _ _ => ?_) | (refine XI.id ?_; first | refine XI.done ?_ | refine XI.one1 rfl ?_) | (refine XR'.id ?_; first | refine XR'.seq ?_ | refine XR'.region ?_ | refine XR'.block ?_ | refine XR'.skip ?_ | refine XR'.ret ?_ | refine XR'.cond_t rfl ?_ | refine XR'.cond_f rfl ?_ | refine XR'.exit ?_) | (refine M1 ?_; first | refine SC ?_ | refine SD ?_) | (refine M2 ?_; first | refine XE.nextI ?_ | refine XE.nextR ?_ | refine SE ?_))
  all_goals
    rename_i g16 hg16
    have b16 : w.heap.size ≤ g16 := Nat.le_trans K5.below.size hg16
    cases ms
  all_goals
    repeat (first | (refine M0 ?_; first | refine SL ?_ | refine SB fun _ _ => ?_) | (refine XI.id ?_; first | refine XI.done ?_ | refine XI.one1 rfl ?_) | (refine XR'.id ?_; first | refine XR'.seq ?_ | refine XR'.region ?_ | refine XR'.block ?_ | refine XR'.skip ?_ | refine XR'.ret ?_ | refine XR'.cond_t rfl ?_ | refine XR'.cond_f rfl ?_ | refine XR'.exit ?_) | (refine M1 ?_; first | refine SC ?_ | refine SD ?_) | (refine M2 ?_; first | refine XE.nextI ?_ | refine XE.nextR ?_ | refine SE ?_))
  · refine XE.endR (i := 2) rfl rfl (fun w' S' => ?_)
    rw [one_none2 (by rw [← hd, ← hfd]; exact isSome_f hms.symm), better_none]
    have hr3' := hr3
    simp only at hr3'
    simp only [hr3'] at S'
    refine ⟨_, rfl, rfl, w', q, new, K5.sys S' ZZHM, Fam.forget ((F6.sys S' ZZHM).add (fun x hx => .inl (hsub x hx))) ?_, ?_, ?_, (by rw [hi0, show t.n - (k + 1) + 1 = t.n - k by omega]; exact hnew), ?_⟩
    · intro x hx
      rcases List.mem_cons.1 hx with rfl | hx
      · simp
      · rw [List.mem_singleton.1 hx]; simp
    · exact fun x hx => Nat.lt_of_lt_of_le (hks5'  x hx) S'.size
    · exact hkeys5
    · exact S'.rebase (by simp only [LR, staC, tailC, svV]; rw [← hbs, ← hc0']; repeat (first | exact List.Sublist.refl _ | exact List.nil_sublist _ | refine List.Sublist.cons_cons _ ?_ | refine List.Sublist.cons _ ?_))
  refine XR'.cond _ rfl (fun h3 => ?_) (fun h3 => ?_)
  · repeat (first | (refine M0 ?_; first | refine SL ?_ | refine SB fun _ _ => ?_) | (refine XI.id ?_; first | refine XI.done ?_ | refine XI.one1 rfl ?_) | (refine XR'.id ?_; first | refine XR'.seq ?_ | refine XR'.region ?_ | refine XR'.block ?_ | refine XR'.skip ?_ | refine XR'.ret ?_ | refine XR'.cond_t rfl ?_ | refine XR'.cond_f rfl ?_ | refine XR'.exit ?_) | (refine M1 ?_; first | refine SC ?_ | refine SD ?_) | (refine M2 ?_; first | refine XE.nextI ?_ | refine XE.nextR ?_ | refine SE ?_))
    refine XE.endR (i := 2) rfl rfl (fun w' S' => ?_)
    rw [better_old hbs.symm (fun c p h => by rw [← hd, ← hfd] at h; rw [← hd]; have := of_decide_eq_true h3; rw [hc5', h] at this; simp only [fdC, Option.map_some, Option.getD_some] at this; omega)]
    have hr3' := hr3
    simp only at hr3'
    simp only [hr3'] at S'
    refine ⟨_, rfl, rfl, w', q, new, K5.sys S' ZZHM, Fam.forget ((F6.sys S' ZZHM).add (fun x hx => .inl (hsub x hx))) ?_, ?_, ?_, (by rw [hi0, show t.n - (k + 1) + 1 = t.n - k by omega]; exact hnew), ?_⟩
    · intro x hx
      rcases List.mem_cons.1 hx with rfl | hx
      · simp
      · rw [List.mem_singleton.1 hx]; simp
    · exact fun x hx => Nat.lt_of_lt_of_le (hks5'  x hx) S'.size
    · exact hkeys5
    · exact S'.rebase (by simp only [LR, staC, tailC, svV]; rw [← hbs, ← hc0']; repeat (first | exact List.Sublist.refl _ | exact List.nil_sublist _ | refine List.Sublist.cons_cons _ ?_ | refine List.Sublist.cons _ ?_))
  rotate_left
  · refine XE.endR (i := 2) rfl rfl (fun w' S' => ?_)
    rw [one_none2 (by rw [← hd, ← hfd]; exact isSome_f hms.symm), better_none]
    have hr3' := hr3
    simp only at hr3'
    simp only [hr3'] at S'
    refine ⟨_, rfl, rfl, w', q, new, K5.sys S' ZZHM, Fam.forget ((F6.sys S' ZZHM).add (fun x hx => .inl (hsub x hx))) ?_, ?_, ?_, (by rw [hi0, show t.n - (k + 1) + 1 = t.n - k by omega]; exact hnew), ?_⟩
    · intro x hx
      rcases List.mem_cons.1 hx with rfl | hx
      · simp
      · rw [List.mem_singleton.1 hx]; simp
    · exact fun x hx => Nat.lt_of_lt_of_le (hks5'  x hx) S'.size
    · exact hkeys5
    · exact S'.rebase (by simp only [LR, staC, tailC, svV]; rw [← hbs, ← hc0']; repeat (first | exact List.Sublist.refl _ | exact List.nil_sublist _ | refine List.Sublist.cons_cons _ ?_ | refine List.Sublist.cons _ ?_))
  have hlt : best.isSome = true → d.cost + fdC fd < fdC best := fun h => by rw [← hbs] at h; cases h
  rotate_left
  have hlt : best.isSome = true → d.cost + fdC fd < fdC best := fun _ => by have := of_decide_eq_false h3; omega
  all_goals
    repeat (first | (refine M0 ?_; first | refine SL ?_ | refine SB fun _ _ => ?_) | (refine XI.id ?_; first | refine XI.done ?_ | refine XI.one1 rfl ?_) | (refine XR'.id ?_; first | refine XR'.seq ?_ | refine XR'.region ?_ | refine XR'.block ?_ | refine XR'.skip ?_ | refine XR'.ret ?_ | refine XR'.cond_t rfl ?_ | refine XR'.cond_f rfl ?_ | refine XR'.exit ?_) | (refine M1 ?_; first | refine SC ?_ | refine SD ?_) | (refine M2 ?_; first | refine XE.nextI ?_ | refine XE.nextR ?_ | refine SE ?_))
    obtain ⟨⟨c6, p5⟩, hy⟩ := Option.isSome_iff_exists.1 hms.symm
    have hc6 : c6 = c5 := by rw [hc5', hy]; rfl
    subst hc6
    have hbn : better best (t.one (t.rest k) s i0 before on) = some (d.cost + c6, on :: p5) := by
      rw [better_new hd0 (c := c6) (p := p5) (by rw [← hd, ← hfd]; exact hy) (fun h => by rw [← hd]; have := hlt h; rw [hy] at this; simpa [fdC] using this), ← hd]
    rw [hbn]
    have hlen5 : p5.length ≤ k := by
      have := rest_len (t := t) (k := k) (s := d.s) (b := on) (by omega)
      rw [← hfd, hy] at this
      simpa [fdP] using this
    have hk6 : k ≤ 6 := by have := ho.n6; unfold RTk.n at hk; omega
    have hg5 : gm ≤ w5.heap.size := Nat.le_trans (Nat.le_of_lt hgm) K5.below.size
    have hne : g14 ≠ g16 := fun e => by have := hks5 g14 n14; omega
    refine XR'.drawRS (trunc w5 gm) [(g16, cel 75 [.bool true, .int .i64 c6, .slice q5.A q5.n q5.c]), (g14, cel 66 [.int .i64 d.s.vol, .slice q2.A q2.n q2.c, .int .i64 d.out, .int .i64 d.energy, .int .i64 d.cost])] [0, 1, 2, 3, 4, 5, 7, 8] [6, 9, 10, 11] mixed (fun _ h => Sys.anchorT (Below.refl _ _) h (mem_two (.head _) (.tail _ (.head _))) (by simp; exact fun e => hne e.symm) hg5) rfl rfl (by kernel_rfl) ?_
    repeat (first | (refine M0 ?_; first | refine SL ?_ | refine SB fun _ _ => ?_ | refine Y4 (Ev.load_at tok 1 (g := g14) (o := 4) (j := 0) rfl rfl rfl rfl) ?_ | refine Y4 (Ev.load_at tok 0 (g := g16) (o := 1) (j := 0) rfl rfl rfl rfl) ?_ | refine Y4 (Ev.load_at tok 0 (g := g16) (o := 2) (j := 0) rfl rfl rfl rfl) ?_) | (refine M2 ?_; refine SE ?_) | (refine M3 ?_; first | refine SG ?_ | refine SF ?_ | refine YF (Ev.load_at tok 1 (g := g14) (o := 4) (j := 0) rfl rfl rfl rfl) ?_ | refine YF (Ev.load_at tok 0 (g := g16) (o := 1) (j := 0) rfl rfl rfl rfl) ?_ | refine YF (Ev.load_at tok 0 (g := g16) (o := 2) (j := 0) rfl rfl rfl rfl) ?_) | (refine M4 ?_; refine SRJ ?_) | (refine M5 ?_; first | exact M7 | refine YM ?_ | refine YN ?_ ?_))
    refine XL.newRowW tok (K := plnK) (l := [(⟨some ⟨gn, 0, none⟩, t.m, t.m⟩, on)]) (rs := []) rfl rfl rfl rfl rfl rfl rfl rfl rfl ⟨rfl, rfl⟩ rfl rfl F6 hks5 (Below.refl gm w5) hg5 (fun a ha x hx => ?_) (fun w6 g20 hsz6 hg20 hold6 F7 hB6 hk7 => ?_) ZZHM
    · rw [List.mem_singleton.1 ha] at hx
      rw [List.mem_singleton.1 hx]
      exact F6.held (hList boolK ⟨some ⟨gn, 0, none⟩, t.m, t.m⟩ on) (by simp)
    have K6 : Kp gm w w6 := K5.grow hB6 hold6 ZZHM
    refine XL.done ?_
    refine XE.heldR (fun _ h => Sys.anchorT hB6 h (mem_two (.head _) (.tail _ (.head _))) (by simp; exact fun e => hne e.symm) hg5) ?_
    repeat (first | (refine M0 ?_; first | refine SL ?_ | refine SB fun _ _ => ?_) | (refine M2 ?_; refine SE ?_) | (refine M3 ?_; first | refine SG ?_ | refine SF ?_) | (refine M4 ?_; refine SRJ ?_) | (refine M5 ?_; first | exact M7 | refine YM ?_ | refine YN ?_ ?_))
    have hp5 : fdP fd = p5 := by rw [hy]; rfl
    obtain ⟨es5, hL5, he5⟩ : PlanAt w6 _ q5 (fdP fd) := F7.held (hPlan q5 (fdP fd)) (by simp)
    rw [hp5] at he5
    have hl5 : es5.length ≤ 6 := by have := congrArg List.length he5; simp at this; omega
    refine XL.pushLW (K := plnK) (l := [(⟨some ⟨gn, 0, none⟩, t.m, t.m⟩, on)]) (l2 := es5) (r2 := q5) (bytes := 24) (wE := w5) 0 plan_el (by decide) rfl rfl rfl F7 rfl hk7 hB6 (Nat.le_refl gm) (fun w9 S9 => hL5.sys S9 (fun j hj => ⟨hj.2.1, fun e he e1 => hj.2.2.1 (by rw [← e1]; exact List.mem_append_left _ (List.mem_map.2 ⟨e, he, rfl⟩))⟩)) (fun a ha x hx => hL5.ins a ha x hx) (fun a => rfl) (by simp only [List.length_singleton]; omega) (by decide) (fun w7 v7 hsz7 hold7 F8 hB7 hk8 => ?_)
    have K7 : Kp gm w w7 := K6.growV (K5.below.trans hB7) hold7 ZZHM (fun x hx => by simp only [Value.ownBlock, Option.some.injEq] at hx; rw [← hx]; exact Nat.le_trans K5.below.size hg20)
    obtain ⟨r7, rfl, hn7⟩ := F8.sv (K := plnK) (l := [(⟨some ⟨gn, 0, none⟩, t.m, t.m⟩, on)] ++ es5) (List.mem_singleton.2 rfl)
    simp only [svV]
    refine XL.done ?_
    refine XE.heldR (fun _ h => Sys.anchorT hB7 h (mem_two (.head _) (.tail _ (.head _))) (by simp; exact fun e => hne e.symm) hg5) ?_
    repeat (first | (refine M0 ?_; first | refine SL ?_ | refine SB fun _ _ => ?_) | (refine M2 ?_; refine SE ?_) | (refine M3 ?_; first | refine SG ?_ | refine SF ?_) | (refine M4 ?_; refine SRJ ?_) | (refine M5 ?_; first | exact M7 | refine YM ?_ | refine YN ?_ ?_))
    refine XE.heldR (fun _ h => Sys.anchorT hB7 h (mem_two (.head _) (.tail _ (.head _))) (by simp; exact fun e => hne e.symm) hg5) ?_
    repeat (first | (refine M0 ?_; first | refine SL ?_ | refine SB fun _ _ => ?_) | (refine M2 ?_; refine SE ?_) | (refine M3 ?_; first | refine SG ?_ | refine SF ?_) | (refine M4 ?_; refine SRJ ?_) | (refine M5 ?_; first | exact M7 | refine YM ?_ | refine YN ?_ ?_))
    refine XE.onlyN ?_
    repeat (first | (refine M0 ?_; first | refine SL ?_ | refine SB fun _ _ => ?_) | (refine XI.id ?_; first | refine XI.done ?_ | refine XI.one1 rfl ?_) | (refine XR'.id ?_; first | refine XR'.seq ?_ | refine XR'.region ?_ | refine XR'.block ?_ | refine XR'.skip ?_ | refine XR'.ret ?_ | refine XR'.cond_t rfl ?_ | refine XR'.cond_f rfl ?_ | refine XR'.exit ?_) | (refine M1 ?_; first | refine SC ?_ | refine SD ?_) | (refine M2 ?_; first | refine XE.nextI ?_ | refine XE.nextR ?_ | refine SE ?_))
    refine XE.endR (i := 2) rfl rfl (fun w' S' => ?_)
    have hr3' := hr3
    simp only at hr3'
    simp only [hr3'] at S'
    have F9 := Fam.freeze (rs := []) (K := plnK) (r := r7) (l := [(⟨some ⟨gn, 0, none⟩, t.m, t.m⟩, on)] ++ es5) F8
    have F10 := F9.hold (x := hPlan r7 (on :: p5)) (ok := Free w7 gm _ []) ⟨_, F9.held (hList plnK r7 ([(⟨some ⟨gn, 0, none⟩, t.m, t.m⟩, on)] ++ es5)) (.head _), by simp [he5]⟩ (fun j hj => hj)
    refine ⟨_, rfl, rfl, w', r7, new, K7.sys S' ZZHM, Fam.forget ((F10.sys S' ZZHL).add (fun x hx => .inl (List.mem_append_right _ (List.mem_append_right _ (hsub x hx))))) ?_, fun x hx => Nat.lt_of_lt_of_le (hks5' x hx) (Nat.le_trans hsz6 (Nat.le_trans hsz7 S'.size)), hkeys5, (by rw [hi0, show t.n - (k + 1) + 1 = t.n - k by omega]; exact hnew), ?_⟩
    · intro x hx
      rcases List.mem_cons.1 hx with rfl | hx
      · simp
      · rw [List.mem_singleton.1 hx]; exact .head _
    · exact S'.rebase (by simp only [LR, staC, tailC, svV, fdC, Option.map_some, Option.getD_some, Option.isSome_some]; repeat (first | exact List.Sublist.refl _ | exact List.nil_sublist _ | refine List.Sublist.cons_cons _ ?_ | refine List.Sublist.cons _ ?_))
  any_goals (repeat (first | exact AnyR.nil | refine AnyR.skip rfl ?_))
end Go.Proofs.Ytlfjdbilblfknaa.X
/-
  The walk of rest (runoff).
-/
namespace Go.Proofs.Ytlfjdbilblfknaa.X
open Go Go.RowKit Go.Proofs.Ytlfjdbilblfknaa.Bs
set_option linter.unusedVariables false
theorem bools_flat (l : List Bool) : l.flatMap boolK.c = bools l := by
  induction l with
  | nil => rfl
  | cons a l ih => rw [List.flatMap_cons, ih]; rfl
theorem boolsAt {W : World} {gn lo m c : Nat} {l : List Bool} (h : W.heap[gn]? = some (cel 4 (bools l))) (hg : lo ≤ gn) (hl : l.length = m) (hm : m ≤ 1000000) : ListAt boolK W (Btw lo W.heap.size) ⟨some ⟨gn, 0, none⟩, m, c⟩ l :=
  ⟨by rw [bools_flat]; exact ReadsP.block h hg (by rw [bools_len, hl]; exact (Nat.mul_one _).symm), by simp only; omega, fun a _ x hx => by cases hx⟩
theorem pick_bd {t : RTk} (ho : RtOk t) {k i0 i : Nat} {s : Sta} {b : List Bool} {best : Bs.Fd} (hk : k + 1 ≤ t.n) (hi0 : i0 = t.n - (k + 1)) (hs : StaOk t.b s) (h : best = pick (fun i => t.one (t.rest k) s i0 b (chc t.m i)) i) : ∀ c p, best = some (c, p) → 0 ≤ c ∧ c ≤ 2000000000000000 := by
  intro c p e
  rw [e] at h
  obtain ⟨j, hj, h1, _⟩ := pick_some h.symm
  obtain ⟨h0, c', p', h2, h3⟩ := one_some h1
  obtain ⟨a1, a2, a3, _⟩ := do_sta ho hs (show i0 < t.outer.length by unfold RTk.n at hi0 hk; omega) h0
  have h4 := rest_bd ho (by omega) a1 h2
  have h5 : (k : Int) ≤ 6 := by have := ho.n6; unfold RTk.n at hk; omega
  cases h3
  omega
theorem LR_key {l D g12 g10 g9 g8 g7 g6 g5 g4 gm : Nat} {r0 : Loop} {o10 o9 o8 : Obj} {q : SV} {best : Bs.Fd} {p : SV} {i0 : Nat} {sq : SV} {s : Sta} {g : Nat} {kvs : List (Value × Value)} {e : Nat × Obj} (he : e ∈ LR l D g12 g10 g9 g8 g7 g6 g5 g4 gm r0 o10 o9 o8 q best p i0 sq s g kvs) : e.1 ∈ KR l D g12 g10 g9 g8 g7 g6 g5 g4 ++ [gm] := by
  have := List.mem_map_of_mem (f := Prod.fst) he
  exact this
theorem LR_in {l D g12 g10 g9 g8 g7 g6 g5 g4 gm : Nat} {r0 : Loop} {o10 o9 o8 : Obj} {q : SV} {best : Bs.Fd} {p : SV} {i0 : Nat} {sq : SV} {s : Sta} {g : Nat} {kvs : List (Value × Value)} {e : Nat × Obj} {gn n0 : Nat} {o : Obj} {ks : List Nat} (hgk : gm ∈ ks) (hgn : n0 ≤ gn) (he : e ∈ (gn, o) :: LR l D g12 g10 g9 g8 g7 g6 g5 g4 gm r0 o10 o9 o8 q best p i0 sq s g kvs) : e.1 ∈ KR l D g12 g10 g9 g8 g7 g6 g5 g4 ++ ks ∨ n0 ≤ e.1 := by
  rcases List.mem_cons.1 he with rfl | he
  · exact .inr hgn
  · left
    rcases List.mem_append.1 (LR_key he) with h | h
    · exact List.mem_append_left _ h
    · rw [List.mem_singleton.1 h]; exact List.mem_append_right _ hgk
/-- what a choice has come to: the world, the plan's slice, the best rest, what is known. -/
def RestJ (t : RTk) (gm : Nat) (ks : List Nat) (kvs : List (Value × Value)) (i0 k : Nat) (s : Sta) (b : List Bool) (w : World) (i : Nat) (z : World × SV × Bs.Fd × List (Value × Value)) : Prop :=
  Kp gm w z.1 ∧ Fam z.1 gm ks [] [hMem t z.2.2.2, hPlan z.2.1 (fdP z.2.2.1)] ∧ (∀ x, x ∈ ks → x < z.1.heap.size) ∧ KeysOk Try.prog 110 z.2.2.2 ∧ (∃ new, z.2.2.2 = kvs ++ new ∧ NewK (i0 + 1) new) ∧ z.2.2.1 = pick (fun i => t.one (t.rest k) s i0 b (chc t.m i)) i
set_option maxHeartbeats 16000000 in
theorem rest_0 {t : RTk} {v : RTV} {r : SV} {g gt gm : Nat} (ho : RtOk t) : RestC t v r g gt gm 0 := by
  intro w ks kvs sq p s b hP hT hm hF hgk hks hkeys hs hbl hq hb
  obtain ⟨hlg, hc⟩ := plnCell hP
  have hgne : g ≠ gm := hP.kg.2
  have hgm : gm < w.heap.size := (Array.getElem?_eq_some_iff.1 hm).1
  have lo := hT.outer.len
  obtain ⟨tp, tq, ⟨Ao, no, co⟩, tr, tc, su, pu, ton⟩ := v
  simp only at lo
  subst lo
  have c7 : w.cell? ⟨g, 7, none⟩ = some (.slice Ao t.outer.length co) := hc 7 _ rfl
  have e0 : t.n - 0 = t.outer.length := rfl
  rw [e0]
  simp only [staV, staC, svV]
  refine enterML Try.func20 rfl Try.ntmps20 rfl (Sys.start1 (Nat.le_refl gm) hm) ?_; simp only [frame, Nat.zero_add, Nat.reduceAdd]
  repeat (first | (refine M0 ?_; first | refine SL ?_ | refine SB fun _ _ => ?_) | (refine M1 ?_; refine SC ?_) | (refine M2 ?_; refine SE ?_))
  rename_i g4 hg4 g5 hg5 g6 hg6 g7 hg7 g8 hg8
  refine XC.scope ?_
  repeat (first | (refine M0 ?_; first | refine SL ?_ | refine SB fun _ _ => ?_ | refine Y4 (Ev.load_far tok rfl rfl hlg ZZNE c7) ?_) | (refine M1 ?_; first | refine SC ?_ | refine SD ?_) | (refine M2 ?_; refine SE ?_) | (refine M3 ?_; first | refine SG ?_ | refine SF ?_ | refine YF (Ev.load_far tok rfl rfl hlg ZZNE c7) ?_) | (refine M4 ?_; refine SR ?_) | (refine M5 ?_; first | exact M7 | refine YM ?_ | refine YN ?_ ?_))
  rw [show decide ((t.outer.length : Int) = (t.outer.length : Int)) = true from decide_eq_true rfl]
  repeat (first | (refine M0 ?_; first | refine SL ?_ | refine SB fun _ _ => ?_) | (refine M1 ?_; refine SC ?_) | (refine M2 ?_; refine SE ?_))
  refine XE.noGoto_ret ?_
  refine XE.retM0 tok Try.results20 rfl (by simp only [and_self, and_true]) (fun w' S => ?_)
  have hgg : gm ∈ [gm] := .head _
  refine ⟨_, rfl, ⟨none, 0, 0⟩, [], rfl, ?_, ?_, ?_, fun x hx => by cases hx⟩ <;> rw [List.append_nil]
  · exact S.only (by repeat (first | exact List.mem_cons_self | apply List.mem_cons_of_mem)) ZZHM
  · refine Fam.forget ((hF.sys S ZZHM).hold (x := hPlan ⟨none, 0, 0⟩ []) (ok := Free w' gm ks []) PlanAt.nil (fun j hj => hj)) (fun x hx => ?_)
    rcases List.mem_cons.1 hx with rfl | hx
    · exact .tail _ (.head _)
    · rw [List.mem_singleton.1 hx]; exact .head _
  · exact hkeys
set_option maxHeartbeats 32000000 in
theorem rest_s {t : RTk} {v : RTV} {r : SV} {g gt gm k : Nat} (ho : RtOk t) (hc0 : chkE t.b = 0) (hk : k + 1 ≤ t.n) (IH : RestC t v r g gt gm k) : RestC t v r g gt gm (k + 1) := by
  intro w ks kvs sq p s b hP hT hm hF hgk hks hkeys hs hbl hq hb
  have hP0 := hP
  have hT0 := hT
  obtain ⟨hlg, hc⟩ := plnCell hP
  have hgne : g ≠ gm := hP.kg.2
  have hgg : gm ∈ [gm] := .head _
  have hgm : gm < w.heap.size := (Array.getElem?_eq_some_iff.1 hm).1
  have lo := hT.outer.len
  have hall := hP.all
  obtain ⟨i0, hi0⟩ : ∃ i0, i0 = t.n - (k + 1) := ⟨_, rfl⟩
  have hin : i0 < t.outer.length := by unfold RTk.n at hi0 hk; omega
  have hm4 : t.m ≤ 4 := by have := t.devs_len; unfold RTk.many at this; have := ho.s2; have := ho.p2; unfold RTk.m; omega
  have hpl6 : t.b.pols.length ≤ 6 := ho.ok.m6
  have hf6 : s.fil.length ≤ 6 := by rw [hs.len]; exact hpl6
  have c17 : w.cell? ⟨g, 17, none⟩ = some (.map (some gm)) := hc 17 _ rfl
  have c15 : w.cell? ⟨g, 15, none⟩ = some (.slice r.A r.n r.c) := hc 15 _ rfl
  have c7 : w.cell? ⟨g, 7, none⟩ = some (.slice v.o.A v.o.n v.o.c) := hc 7 _ rfl
  have hpk : ∃ l, keyOf Try.prog 110 (.agg ⟨placeC i0 s b⟩) = some l := by
    refine place_key (by have := ho.n6; omega) ?_ (by omega) (fun j => ?_)
    · have := hs.vol; have := (ho.ok.vol 0 (by have := ho.ok.n2; omega)); unfold i64in; omega
    · unfold at0
      rcases Nat.lt_or_ge j s.fil.length with h | h
      · have h1 := hs.fil j (by rw [← hs.len]; exact h)
        have h2 := ho.ok.room j (by rw [← hs.len]; exact h)
        have e : s.f j = s.fil[j]?.getD 0 := rfl
        rw [← e]
        unfold i64in
        omega
      · rw [List.getElem?_eq_none h]
        unfold i64in
        simp
  rw [← hi0]
  simp only [staV, staC, svV]
  refine enterML Try.func20 rfl Try.ntmps20 rfl (Sys.start1 (Nat.le_refl gm) hm) ?_; simp only [frame, Nat.zero_add, Nat.reduceAdd]
  repeat (first | (refine M0 ?_; first | refine SL ?_ | refine SB fun _ _ => ?_) | (refine M1 ?_; refine SC ?_) | (refine M2 ?_; refine SE ?_))
  rename_i g4 hg4 g5 hg5 g6 hg6 g7 hg7 g8 hg8
  refine XC.scope ?_
  repeat (first | (refine M0 ?_; first | refine SL ?_ | refine SB fun _ _ => ?_ | refine Y4 (Ev.load_far tok rfl rfl hlg ZZNE c7) ?_) | (refine M1 ?_; first | refine SC ?_ | refine SD ?_) | (refine M2 ?_; refine SE ?_) | (refine M3 ?_; first | refine SG ?_ | refine SF ?_ | refine YF (Ev.load_far tok rfl rfl hlg ZZNE c7) ?_) | (refine M4 ?_; refine SR ?_) | (refine M5 ?_; first | exact M7 | refine YM ?_ | refine YN ?_ ?_))
  rw [show decide ((i0 : Int) = (v.o.n : Int)) = false from decide_eq_false (by rw [lo]; omega)]
  repeat (first | (refine M0 ?_; first | refine SL ?_ | refine SB fun _ _ => ?_ | refine Y4 (Ev.call (f := 38) (ck rfl) rfl (fun w5 S5 => place_any (g := g) (i := i0) (s := s) (before := b) (sq := sq) (p := p) ((hq.keep fun j hj => (Kp.refl.sys S5 ZZHM).old j hj).mono (Kp.refl.sys S5 ZZHM).lt) hf6 ((hb.keep fun j hj => (Kp.refl.sys S5 ZZHM).old j hj).mono (Kp.refl.sys S5 ZZHM).lt) (by omega))) ?_) | (refine M1 ?_; refine SC ?_) | (refine M2 ?_; refine SE ?_))
  rename_i g9 hg9
  have hk1 : t.n - i0 = k + 1 := by omega
  refine Or.elim (Classical.em (∃ vv, (Value.agg ⟨placeC i0 s b⟩, vv) ∈ kvs)) (fun hfound => ?_) (fun hnone => ?_)
  · obtain ⟨vv, hv⟩ := hfound
    obtain ⟨q, rfl, hpq⟩ := hMem_find (hF.held (hMem t kvs) (.head _)) hs hpl6 hbl hv
    rw [hk1] at hv hpq
    simp only [tailV, tailC] at hv
    refine XC.cutln [4, 5, 6, 7, 8, 9] rfl (fun g10 : Nat => [(10, .pointer (some ⟨g10, 0, none⟩)), (11, .bool true)]) (fun g10 => [(g10, cel 75 (tailC q (t.rest (k + 1) s b)))]) (fun g10 => w.heap.size ≤ g10) ?_ (fun g10 hg10 => ?_)
    · refine XC.drawR _ [0, 1, 2, 3, 4, 5, 6, 7, 8] [9, 10, 11] mixed (fun _ h => h) rfl (by kernel_rfl) ?_
      repeat (any_goals (first | (refine M0 ?_; first | refine SL ?_ | refine SB fun _ _ => ?_ | refine Y4 (Ev.load_far tok rfl rfl hlg ZZNE c17) ?_ | refine Y4 (Ev.lookupYes 6 (k := .agg ⟨placeC i0 s b⟩) kvs place_law rfl rfl rfl Try.underlying98 hkeys hpk hv) ?_) | (refine M1 ?_; refine SC ?_) | (refine M2 ?_; refine SE ?_) | (refine M3 ?_; first | refine SG ?_ | refine SF ?_ | refine YF (Ev.load_far tok rfl rfl hlg ZZNE c17) ?_ | refine YF (Ev.lookupYes 6 (k := .agg ⟨placeC i0 s b⟩) kvs place_law rfl rfl rfl Try.underlying98 hkeys hpk hv) ?_) | (refine M4 ?_; refine SR ?_) | (refine M5 ?_; first | exact M7 | refine YM ?_ | refine YN ?_ ?_)))
      any_goals (repeat (first | exact AnyR.nil | refine AnyR.skip rfl ?_))
      all_goals exact XE.leaf _ ZZSUB (fun _ S' => by first | exact S' | exact S'.perm (by repeat (first | exact List.Perm.refl _ | refine perm1 ?_ | refine List.Perm.cons _ ?_ | refine perm2 ?_)) | exact (S'.pop (by assumption)) | exact (S'.pop2 (by assumption))) (by assumption)
    dsimp only [List.cons_append, List.nil_append]
    refine XC.hint 10 7 ?_
    simp only [tailC]
    repeat (first | (refine M0 ?_; first | refine SL ?_ | refine SB fun _ _ => ?_) | (refine M1 ?_; refine SC ?_) | (refine M2 ?_; refine SE ?_))
    refine XE.noGoto_ret ?_
    refine XE.retM0 tok Try.results20 rfl (by simp only [and_self, and_true]) (fun w' S => ?_)
    refine ⟨_, rfl, q, [], rfl, ?_, ?_, ?_, fun x hx => by cases hx⟩ <;> rw [List.append_nil]
    · exact S.only (by repeat (first | exact List.mem_cons_self | apply List.mem_cons_of_mem)) ZZHM
    · have F1 := hF.sys S ZZHM
      have F2 := (hF.hold (x := hPlan q (fdP (t.rest (k + 1) s b))) (ok := Free w gm ks []) hpq (fun j hj => hj)).sys S ZZHM
      refine Fam.forget F2 (fun x hx => ?_)
      rcases List.mem_cons.1 hx with rfl | hx
      · exact .tail _ (.head _)
      · rw [List.mem_singleton.1 hx]; exact .head _
    · exact hkeys
  have hnv : ∀ e, e ∈ kvs → e.1 ≠ .agg ⟨placeC i0 s b⟩ := fun e he h => hnone ⟨e.2, by rw [← h]; exact he⟩
  refine XC.cutln [4, 5, 6, 7, 8, 9] rfl (fun g10 : Nat => [(10, .pointer (some ⟨g10, 0, none⟩)), (11, .bool false)]) (fun g10 => [(g10, cel 75 [.bool false, .int .i64 0, .slice none 0 0])]) (fun g10 => w.heap.size ≤ g10) ?_ (fun g10 hg10 => ?_)
  · refine XC.drawR _ [0, 1, 2, 3, 4, 5, 6, 7, 8] [9, 10, 11] mixed (fun _ h => h) rfl (by kernel_rfl) ?_
    repeat (any_goals (first | (refine M0 ?_; first | refine SL ?_ | refine SB fun _ _ => ?_ | refine Y4 (Ev.load_far tok rfl rfl hlg ZZNE c17) ?_ | refine Y4 (Ev.lookupNo tok 6 (k := .agg ⟨placeC i0 s b⟩) kvs place_law rfl rfl rfl Try.underlying98 rfl hkeys hpk hnv) ?_) | (refine M1 ?_; refine SC ?_) | (refine M2 ?_; refine SE ?_) | (refine M3 ?_; first | refine SG ?_ | refine SF ?_ | refine YF (Ev.load_far tok rfl rfl hlg ZZNE c17) ?_ | refine YF (Ev.lookupNo tok 6 (k := .agg ⟨placeC i0 s b⟩) kvs place_law rfl rfl rfl Try.underlying98 rfl hkeys hpk hnv) ?_) | (refine M4 ?_; refine SR ?_) | (refine M5 ?_; first | exact M7 | refine YM ?_ | refine YN ?_ ?_)))
    any_goals (repeat (first | exact AnyR.nil | refine AnyR.skip rfl ?_))
    all_goals exact XE.leaf _ ZZSUB (fun _ S' => by first | exact S' | exact S'.perm (by repeat (first | exact List.Perm.refl _ | refine perm1 ?_ | refine List.Perm.cons _ ?_ | refine perm2 ?_)) | exact (S'.pop (by assumption)) | exact (S'.pop2 (by assumption))) (by assumption)
  dsimp only [List.cons_append, List.nil_append]
  refine XC.hint 10 7 ?_
  repeat (first | (refine M0 ?_; first | refine SL ?_ | refine SB fun _ _ => ?_) | (refine M1 ?_; refine SC ?_) | (refine M2 ?_; refine SE ?_))
  rename_i g12 hg12
  refine XC.label ?_
  repeat (first | (refine M0 ?_; first | refine SL ?_ | refine SB fun _ _ => ?_) | (refine M1 ?_; refine SC ?_) | (refine M2 ?_; refine SE ?_))
  refine XL.callr (fst := []) (cap := []) (fun w1 x w2 => ∃ gp, x = .func (.func 46) #[] #[.pointer (some ⟨gp, 0, none⟩)] ∧ Sys w1.heap.size w1 [(gp, cel 71 [.pointer (some ⟨g, 0, none⟩)])] w2) (ck rfl) rfl rfl rfl (fun w1 S1 => choices_any (g := g) (w := w1)) (fun w1 x w2 S1 hR => ?_)
  obtain ⟨gp, rfl, S2⟩ := hR
  refine ⟨_, w2, (S1.join S2 (List.Sublist.refl _)).rebase (List.sublist_cons_self _ _), ?_⟩
  have K2 : Kp gm w w2 := (Kp.refl.sys S1 ZZHM).made S2.toBelow (Nat.le_trans (Nat.le_of_lt hgm) S1.size)
  have hgp0 : w.heap.size ≤ gp := Nat.le_trans S1.size (S2.own _ (.head _)).1
  have hgpL : ∀ e, e ∈ [(g12, (0 : Nat)), (g10, 0), (g9, 0), (g8, 0), (g7, 0), (g6, 0), (g5, 0), (g4, 0), (gm, 0)] → e.1 < gp := by
    have h1 := (S2.own _ (.head _)).1
    have h2 := S1.keyLt
    intro e he
    have h3 := h2 e.1 (by simp only [List.mem_cons, List.not_mem_nil, or_false] at he; rcases he with rfl | rfl | rfl | rfl | rfl | rfl | rfl | rfl | rfl <;> simp)
    omega
  have hgpc : w2.cell? ⟨gp, 0, none⟩ = some (.pointer (some ⟨g, 0, none⟩)) := by
    have := (S2.own _ (.head _)).2
    simp [World.cell?, this]
  have hgpl : gp < w2.heap.size := S2.lt (.head _)
  have hF2 : Fam w2 gm ([g12, g10, g9, g8, g7, g6, g5, g4] ++ ks) [] [hMem t kvs] := ((hF.call S1 S2.toBelow ZZHM hks (new := []) (fun x hx => by cases hx)).1).add fun k hk => by
    left
    rcases List.mem_append.1 hk with h | h
    · refine List.mem_append_left _ ?_
      simp only [List.mem_cons, List.not_mem_nil, or_false] at h
      rcases h with rfl | rfl | rfl | rfl | rfl | rfl | rfl | rfl <;> simp
    · exact List.mem_append_right _ h
  have hks2 : ∀ x, x ∈ [g12, g10, g9, g8, g7, g6, g5, g4] ++ ks → x < w2.heap.size := fun x hx => by
    rcases List.mem_append.1 hx with h | h
    · have := S1.keyLt x (by simp only [List.mem_cons, List.not_mem_nil, or_false] at h; rcases h with rfl | rfl | rfl | rfl | rfl | rfl | rfl | rfl <;> simp)
      exact Nat.lt_of_lt_of_le this S2.size
    · exact Nat.lt_of_lt_of_le (hks x h) (Nat.le_trans S1.size S2.size)
  clear S1 S2
  repeat (first | (refine M0 ?_; first | refine SL ?_ | refine SB fun _ _ => ?_) | (refine M1 ?_; refine SC ?_) | (refine M2 ?_; refine SE ?_))
  have hKR : ∀ D l, w2.heap.size ≤ D → w2.heap.size ≤ l → ∀ x, x ∈ KR l D g12 g10 g9 g8 g7 g6 g5 g4 → w.heap.size ≤ x := fun D l hD hl x hx => by
    have := K2.below.size
    simp only [KR, List.mem_cons, List.not_mem_nil, or_false] at hx
    rcases hx with rfl | rfl | rfl | rfl | rfl | rfl | rfl | rfl | rfl | rfl <;> omega
  have hLRw : ∀ D, w2.heap.size ≤ D → ∀ e : Nat × Obj, e.1 ∈ KR (D + 1) D g12 g10 g9 g8 g7 g6 g5 g4 ++ [gm] → e.1 ∈ [gm] ∨ w.heap.size ≤ e.1 := fun D hD e he => by
    rcases List.mem_append.1 he with h | h
    · exact .inr (hKR D (D + 1) hD (by omega) _ h)
    · exact .inl h
  refine XC.rangeFunc (cap := [.pointer (some ⟨gp, 0, none⟩)]) rfl (ck rfl) (fun fn a D w3 hD hf S3 => ?_)
  obtain ⟨o10, ho10⟩ : ∃ o10, o10 = cel 75 [.bool false, .int .i64 0, .slice none 0 0] := ⟨_, rfl⟩
  obtain ⟨o9, ho9⟩ : ∃ o9, o9 = cel 110 (placeC i0 s b) := ⟨_, rfl⟩
  have hfS : Fits 109 [] [(4, .pointer (some ⟨g4, 0, none⟩)), (5, .pointer (some ⟨g5, 0, none⟩)), (6, .pointer (some ⟨g6, 0, none⟩)), (12, .pointer (some ⟨g12, 0, none⟩)), (7, .pointer (some ⟨g7, 0, none⟩))] a := Sub.fits ZZSUB hf
  have hn15 : r.n = t.m := hall.len (by decide)
  rw [hn15] at c15
  have K3 : Kp gm w w3 := K2.sys S3 (by
    have := K2.below.size
    intro e he
    repeat (first | (cases he; done) | (rcases List.mem_cons.1 he with rfl | he; · first | (left; assumption) | (right; assumption) | (right; simp only; omega))))
  have hF3 : Fam w3 gm (KR (D + 1) D g12 g10 g9 g8 g7 g6 g5 g4 ++ ks) [] [hMem t kvs, hPlan ⟨none, 0, 0⟩ []] := by
    have h1 := (hF2.hold (x := hPlan ⟨none, 0, 0⟩ []) (ok := Free w2 gm _ []) PlanAt.nil (fun j hj => hj)).add (ks' := KR (D + 1) D g12 g10 g9 g8 g7 g6 g5 g4 ++ ks) fun x hx => by
      simp only [KR, List.cons_append, List.nil_append] at hx
      rcases List.mem_cons.1 hx with rfl | hx
      · right; omega
      rcases List.mem_cons.1 hx with rfl | hx
      · right; omega
      · left; exact hx
    refine Fam.forget (h1.sys S3 ?_) (fun x hx => ?_)
    · intro e he
      left
      have : e.1 ∈ KR (D + 1) D g12 g10 g9 g8 g7 g6 g5 g4 ++ [gm] := List.mem_map.2 ⟨e, he, rfl⟩
      rcases List.mem_append.1 this with h | h
      · exact List.mem_append_left _ h
      · rw [List.mem_singleton.1 h]; exact List.mem_append_right _ hgk
    · rcases List.mem_cons.1 hx with rfl | hx
      · exact .tail _ (.head _)
      · rw [List.mem_singleton.1 hx]; exact .head _
  have hks3 : ∀ x, x ∈ KR (D + 1) D g12 g10 g9 g8 g7 g6 g5 g4 ++ ks → x < w3.heap.size := fun x hx => by
    rcases List.mem_append.1 hx with h | h
    · exact S3.keyLt x (List.mem_append_left [gm] h)
    · exact Nat.lt_of_lt_of_le (hks2 x (List.mem_append_right _ h)) S3.size
  have hfar3 : ∀ x, x < w2.heap.size → (∀ e, e ∈ [(g12, (0 : Nat)), (g10, 0), (g9, 0), (g8, 0), (g7, 0), (g6, 0), (g5, 0), (g4, 0), (gm, 0)] → e.1 < x) → ∀ e : Nat × Obj, e.1 ∈ KR (D + 1) D g12 g10 g9 g8 g7 g6 g5 g4 ++ [gm] → e.1 ≠ x := fun x h1 h2 e he e1 => by
    simp only [KR, List.cons_append, List.nil_append] at he
    rcases List.mem_cons.1 he with h | h
    · omega
    rcases List.mem_cons.1 h with h | h
    · omega
    have := h2 (e.1, 0) (by simpa using h)
    simp only at this
    omega
  have hch := chs_any (B := gm) (l := D + 1) (g := g) (gp := gp) (m := t.m) (c := r.c) (A := r.A) (fun z : World × SV × Bs.Fd × List (Value × Value) => LR (D + 1) D g12 g10 g9 g8 g7 g6 g5 g4 gm (recO fn a.tmps #[44] _ _ D .ready none) o10 o9 (cel 75 [.bool false, .int .i64 0, .slice none 0 0]) z.2.1 z.2.2.1 p i0 sq s g z.2.2.2) (fun z => z.1)
    (RestJ t gm (KR (D + 1) D g12 g10 g9 g8 g7 g6 g5 g4 ++ ks) kvs i0 k s b w) (w3, ⟨none, 0, 0⟩, none, kvs) hm4 (by rw [ho10, ho9]; exact S3.rebase (List.Sublist.refl _)) ⟨K3, hF3, hks3, hkeys, ⟨[], by simp, fun x hx => by cases hx⟩, rfl⟩ ?_ ?_ ?_ ?_ ?_ ?_ ?_
  rotate_left
  · have h := S3.farCell (a := ⟨gp, 0, none⟩) hgpl (fun e he => hfar3 gp hgpl hgpL e (List.mem_map.2 ⟨e, he, rfl⟩))
    exact h.trans hgpc
  · have h : w3.cell? ⟨g, 15, none⟩ = w.cell? ⟨g, 15, none⟩ := by unfold World.cell?; rw [K3.old g ⟨hlg, hgne⟩]
    exact h.trans c15
  · exact Nat.lt_of_lt_of_le hgpl S3.size
  · exact Nat.lt_of_lt_of_le hlg K3.below.size
  · exact fun e he => hfar3 gp hgpl hgpL e (LR_key he)
  · intro e he e1
    rcases hLRw D hD e (LR_key he) with h | h
    · exact hgne (e1.symm.trans (List.mem_singleton.1 h))
    · omega
  · rintro i ⟨zW, zq, zb, zk⟩ gn W hi hJ hgn SW w1 S1
    obtain ⟨j1, j2, j3, j4, ⟨new, j5, j6⟩, j7⟩ := hJ
    simp only at hgn SW S1 j1 j2 j3 j4 j5 j7
    have hon : ListAt boolK W (Btw zW.heap.size W.heap.size) ⟨some ⟨gn, 0, none⟩, t.m, t.m⟩ (chc t.m i) := boolsAt (SW.own _ (.head _)).2 hgn (chc_len _ _) (by omega)
    have hgz : gm ≤ zW.heap.size := Nat.le_trans (Nat.le_of_lt hgm) j1.below.size
    have KW := j1.sys SW fun e he => by
      rcases List.mem_cons.1 he with rfl | he
      · exact .inr (Nat.le_trans j1.below.size hgn)
      · exact hLRw D hD e (LR_key he)
    have FW := (j2.sys SW (fun e he => LR_in hgk hgn he)).hold (x := hList boolK ⟨some ⟨gn, 0, none⟩, t.m, t.m⟩ (chc t.m i)) hon (fun j hj => ⟨Nat.le_trans hgz hj.1, hj.2, fun h => by have := j3 j h; have := hj.1; omega, fun x hx => by cases hx⟩)
    obtain ⟨a1, a2⟩ := rest_round (j := 0) (n := 0) (on := chc t.m i) IH ho hc0 hi0 hk hs hbl (chc_len _ _) hm4 hP0 hT0 hgm hq hb (hKR D (D + 1) hD (by omega)) KW hgk FW (fun x hx => Nat.lt_of_lt_of_le (j3 x hx) SW.size) j4 (pick_bd ho hk hi0 hs j7) rfl rfl hfS S1
    refine ⟨_, _, _, _, a1, a2.mono fun e w' ⟨u, e1, e2, W', q', new', k1, k2, k3, k4, k5, k6⟩ => ⟨u, e1, e2, (W', q', _, zk ++ new'), ⟨k1, k2, k3, k4, ⟨new ++ new', by simp only; rw [j5, List.append_assoc], fun x hx => ?_⟩, ?_⟩, k6⟩⟩
    · rcases List.mem_append.1 hx with h | h
      · exact j6 x h
      · exact k5 x h
    · simp only
      rw [j7]; rfl
  refine hch.mono fun e w4 ⟨v4, e4, z, hJ, S4⟩ => ⟨v4, e4, .inl ?_⟩
  obtain ⟨zW, zq, zb, zk⟩ := z
  obtain ⟨j1, j2, j3, j4, ⟨new, j5, j6⟩, j7⟩ := hJ
  simp only at S4 j1 j2 j3 j4 j5 j7
  refine ⟨_, zW, S4, ?_⟩
  have hzb : zb = t.rest (k + 1) s b := by rw [j7, hi0]; rfl
  subst hzb ho10 ho9
  simp only [staC, tailC, svV, placeC]
  repeat (first | (refine M0 ?_; first | refine SL ?_ | refine SB fun _ _ => ?_) | (refine M1 ?_; refine SC ?_) | (refine M2 ?_; refine SE ?_))
  have hD0 : w.heap.size ≤ D := Nat.le_trans K2.below.size hD
  have hD1 : w.heap.size ≤ D + 1 := by omega
  have c17z : zW.cell? ⟨g, 17, none⟩ = some (.map (some gm)) := by
    have h : zW.cell? ⟨g, 17, none⟩ = w.cell? ⟨g, 17, none⟩ := by unfold World.cell?; rw [j1.old g ⟨hlg, hgne⟩]
    exact h.trans c17
  have hlgz : g < zW.heap.size := Nat.lt_of_lt_of_le hlg j1.below.size
  have hnz : ∀ e, e ∈ zk → e.1 ≠ .agg ⟨placeC i0 s b⟩ := fun e he => by
    rw [j5] at he
    rcases List.mem_append.1 he with h | h
    · exact hnv e h
    · exact j6.ne (Nat.lt_succ_self i0) e h
  refine XC.drawT mixed rfl rfl (by kernel_rfl) ?_
  repeat (first | (refine M0 ?_; first | refine SL ?_ | refine SB fun _ _ => ?_ | refine Y4 (Ev.load_far tok rfl rfl hlgz ZZNE c17z) ?_) | (refine M2 ?_; refine SE ?_) | (refine M3 ?_; first | refine SG ?_ | refine SF ?_ | refine YF (Ev.load_far tok rfl rfl hlgz ZZNE c17z) ?_) | (refine M4 ?_; refine SR ?_) | (refine M5 ?_; first | exact M7 | refine YM ?_ | refine YN ?_ ?_))
  refine XL.updateK 10 (k := .agg ⟨placeC i0 s b⟩) (v := tailV zq (t.rest (k + 1) s b)) zk place_law rfl rfl rfl rfl Try.underlying98 j4 hpk hnz rfl ?_
  repeat (first | (refine M0 ?_; first | refine SL ?_ | refine SB fun _ _ => ?_) | (refine M1 ?_; refine SC ?_) | (refine M2 ?_; refine SE ?_))
  refine XE.noGoto_ret ?_
  refine XE.retM (i := 1) tok Try.results20 rfl rfl rfl (by simp only [and_self, and_true]) (fun w' S => ?_)
  have hkm : gm ∈ KR (D + 1) D g12 g10 g9 g8 g7 g6 g5 g4 ++ ks := List.mem_append_right _ hgk
  have e9 : kvs ++ (new ++ [(.agg ⟨placeC i0 s b⟩, tailV zq (t.rest (k + 1) s b))]) = zk ++ [(.agg ⟨placeC i0 s b⟩, tailV zq (t.rest (k + 1) s b))] := by rw [j5, List.append_assoc]
  have F9 := j2.sys S (fun e he => by
    left
    have : e.1 ∈ KR (D + 1) D g12 g10 g9 g8 g7 g6 g5 g4 ++ [gm] := List.mem_map.2 ⟨e, he, rfl⟩
    rcases List.mem_append.1 this with h | h
    · exact List.mem_append_left _ h
    · rw [List.mem_singleton.1 h]; exact hkm)
  have hin' : i0 < t.n := hin
  have hp9 := F9.held (hPlan zq (fdP (t.rest (k + 1) s b))) (.tail _ (.head _))
  have F10 := F9.hold (x := hMem t (zk ++ [(.agg ⟨placeC i0 s b⟩, tailV zq (t.rest (t.n - i0) s b))])) (ok := Free w' gm _ []) (hMem_push (F9.held (hMem t zk) (.head _)) hs hbl hin' (by rw [hk1]; exact hp9)) (fun j hj => hj)
  rw [hk1] at F10
  refine ⟨_, rfl, zq, new ++ [(.agg ⟨placeC i0 s b⟩, tailV zq (t.rest (k + 1) s b))], rfl, ?_, ?_, ?_, ?_⟩
  · rw [e9]
    exact j1.end_ S (by repeat (first | exact List.mem_cons_self | apply List.mem_cons_of_mem)) ZZHM (Nat.le_of_lt hgm)
  · rw [e9]
    refine Fam.forget (F10.add (ks' := ks) fun x hx => .inl (List.mem_append_right _ hx)) (fun x hx => ?_)
    rcases List.mem_cons.1 hx with rfl | hx
    · exact .head _
    · rw [List.mem_singleton.1 hx]; exact .tail _ (.tail _ (.head _))
  · rw [e9]
    exact j4.push hpk hnz
  · intro x hx
    rcases List.mem_append.1 hx with h | h
    · obtain ⟨j, s', b', h1, h2⟩ := j6 x h
      exact ⟨j, s', b', h1, by omega⟩
    · rw [List.mem_singleton.1 h]
      exact ⟨i0, s, b, rfl, Nat.le_of_eq hi0.symm⟩
/-- rest, whatever is known. -/
theorem rest_any {t : RTk} {v : RTV} {r : SV} {g gt gm : Nat} (ho : RtOk t) (hc0 : chkE t.b = 0) : ∀ k, k ≤ t.n → RestC t v r g gt gm k := by
  intro k
  induction k with
  | zero => intro _; exact rest_0 ho
  | succ k ih => intro hk; exact rest_s ho hc0 hk (ih (by omega))
end Go.Proofs.Ytlfjdbilblfknaa.X
/-
  The walk of Best (runoff).
-/
namespace Go.Proofs.Ytlfjdbilblfknaa.Bs
open Go.Proofs.Ytlfjdbilblfknaa.X
/-- what Best finds. -/
noncomputable def bst (t : RTk) : Fd := if rtE t = 0 then t.rest t.n t.s t.on else none
noncomputable def bstE (t : RTk) : Int := if rtE t = 0 then (if (t.rest t.n t.s t.on).isSome = true then 0 else 9) else rtE t
end Go.Proofs.Ytlfjdbilblfknaa.Bs
namespace Go.Proofs.Ytlfjdbilblfknaa.X
open Go Go.RowKit Go.Proofs.Ytlfjdbilblfknaa.Bs
set_option linter.unusedVariables false
def BestV (t : RTk) (x : Value) (new : List Held) : Prop := ∃ q : SV, x = .tuple ⟨[svV q, .int .i64 (fdC (bst t)), .int .i64 (bstE t)]⟩ ∧ new = [hPlan q (fdP (bst t))]
section
variable {B b gm : Nat} {w0 w1 w2 : World} {L : Lo} {o : Obj}
/-- behind a call that changed gm alone. -/
theorem Sys.after1 (S : Sys B w0 L w1) (S2 : Sys b w1 [(gm, o)] w2) (hn : ∀ e, e ∈ L → e.1 ≠ gm) : Sys B w2 L w2 :=
  ⟨rfl, rfl, rfl, Nat.le_refl _, Nat.le_trans S.base (Nat.le_trans S.size S2.size), fun _ _ _ => rfl, fun e he => ⟨(S.own e he).1, (S2.old e.1 (S.lt he) fun x hx h => hn e he (by rw [List.mem_singleton.1 hx] at h; exact h.symm)).trans (S.own e he).2⟩, S.nd⟩
theorem below_after1 {w : World} (hB : Below w.heap.size w w1) (S2 : Sys b w1 [(gm, o)] w2) (hg : w.heap.size ≤ gm) : Below w.heap.size w w2 :=
  hB.trans ⟨S2.os, S2.tape, S2.output, S2.size, fun k hk => S2.old k (Nat.lt_of_lt_of_le hk hB.size) fun x hx h => by rw [List.mem_singleton.1 hx] at h; simp only at h; omega⟩
end
/-- a planner that was just begun can plan. -/
theorem rest_first {v : RTV} {t : RTk} {w w1 : World} {g gt gm : Nat} {r : SV} {ok : Nat → Prop} (ht : TskAt w w.heap.size v t) (hB : Below w.heap.size w w1) (hp : Pln0 w1 ok g gt gm v r t) (hok : ∀ k, ok k → w.heap.size ≤ k ∧ k < w1.heap.size) (h0 : rtE t = 0) {ks : List Nat} (hgk : gm ∈ ks) (hks : ∀ k, k ∈ ks → k < w1.heap.size) :
    Calls Try.prog 20 #[.pointer (some ⟨g, 0, none⟩), staV v.q t.s, .int .i64 0, svV v.on] w1 fun e w' => ∃ vv, e = .returned vv ∧ RestR t gm t.n ks [] t.s t.on w1 vv w' := by
  have ho := rtOk_of h0
  have hg := hok gm hp.km
  have e0 : ((t.n - t.n : Nat) : Int) = 0 := by rw [Nat.sub_self]; rfl
  have hlt : ∀ k, Lt w.heap.size k → Ng' gm w1 k := fun k hk => ⟨Nat.lt_of_lt_of_le hk hB.size, fun e => by have hk' : k < w.heap.size := hk; omega⟩
  have h := rest_any (v := v) (r := r) (g := g) (gt := gt) (gm := gm) ho (chk_rt h0) t.n (Nat.le_refl _) (w := w1) (ks := ks) (kvs := []) (sq := v.q) (p := v.on) (s := t.s) (b := t.on) (hp.p.mono fun k hk => ⟨(hok k hk.1).2, hk.2⟩) ((ht.below hB).more hg.1) hp.hm
    ((Fam.start (Nat.le_of_lt hg.2)).hold (x := hMem t []) (ok := Free w1 gm ks []) hMem_nil (fun j hj => hj)) hgk hks KeysOk.nil ho.sta ho.on ((ht.fil.keep fun k hk => hB.block k hk).mono hlt) ((ht.on.keep fun k hk => hB.block k hk).mono hlt)
  rw [e0] at h
  exact h
set_option maxHeartbeats 8000000 in
theorem Best_made {v : RTV} {t : RTk} {w : World} (ht : TskAt w w.heap.size v t) (hn : t.slu.length + t.pmp.length ≤ 5000000) :
    Calls Try.prog 5 #[tskV v t] w (Made w (BestV t)) := by
  have hbeg := fun (w5 : World) (hB : Below w.heap.size w w5) => begin_made (v := v) (t := t) (w := w5) (ht.sys (Sys.ofBelow hB)) hn
  have hrest := fun (w1 : World) {g gt gm : Nat} {r : SV} {ok : Nat → Prop} (hB : Below w.heap.size w w1) (hp : Pln0 w1 ok g gt gm v r t) (hok : ∀ k, ok k → w.heap.size ≤ k ∧ k < w1.heap.size) (h0 : rtE t = 0) {ks : List Nat} (hgk : gm ∈ ks) (hks : ∀ k, k ∈ ks → k < w1.heap.size) => rest_first ht hB hp hok h0 hgk hks
  simp only [tskV, tskC, svV, staV, staC] at hbeg hrest ⊢
  refine enter Try.func5 rfl Try.ntmps5 rfl ?_; simp only [frame, Nat.zero_add, Nat.reduceAdd]
  repeat (first | (refine M0 ?_; first | refine SL ?_ | refine SB fun _ _ => ?_) | (refine M1 ?_; refine SC ?_) | (refine M2 ?_; refine SE ?_))
  rename_i g1 hg1
  refine XL.rebase (List.Sublist.refl _) (fun W0 S0 => ?_)
  refine XL.callF (ks := [g1]) (rs := []) (hs := []) (b0 := w.heap.size) (wE := w) (BegV _ t) (ck rfl) rfl rfl (Fam.start S0.size) (fun k hk => S0.keyLt k hk) S0.toBelow (fun w1 S1 _ hB1 => hbeg w1 hB1) (fun w2 x new hR hF2 hB2 hk2 => ?_) ZZHL
  rcases hR with ⟨h0, rfl, rfl⟩ | ⟨h0, g, gt, gm, r, rfl, rfl⟩
  · repeat (first | (refine M0 ?_; first | refine SL ?_ | refine SB fun _ _ => ?_) | (refine M1 ?_; refine SC ?_) | (refine M2 ?_; refine SE ?_))
    refine XC.cond _ rfl (fun h1 => ?_) (fun h1 => ?_)
    · repeat (first | (refine M0 ?_; first | refine SL ?_ | refine SB fun _ _ => ?_) | (refine M1 ?_; refine SC ?_) | (refine M2 ?_; refine SE ?_))
      refine XE.retg tok Try.results5 rfl (by simp only [and_self, and_true]) (fun w' S => ?_)
      have e1 : bst t = none := by unfold bst; rw [if_neg h0]
      have e2 : bstE t = rtE t := by unfold bstE; rw [if_neg h0]
      rw [← e2]
      refine ⟨_, _, rfl, ⟨⟨none, 0, 0⟩, by rw [e1]; rfl, rfl⟩, fun x hx => ?_, hB2.trans S.toBelow⟩
      rw [List.mem_singleton.1 hx, e1]
      exact PlanAt.nil
    · exact absurd (by simpa using h1) h0
  repeat (first | (refine M0 ?_; first | refine SL ?_ | refine SB fun _ _ => ?_) | (refine M1 ?_; refine SC ?_) | (refine M2 ?_; refine SE ?_))
  have ho := rtOk_of h0
  refine XL.callr (fst := []) (cap := []) (fun w3 x w4 => g1 ≠ gm ∧ w.heap.size ≤ gm ∧ RestR t gm t.n [gm, g1] [] t.s t.on w3 x w4) (ck rfl) rfl rfl rfl (fun w3 S3 => ?_) (fun w3 x w4 S3 hR => ?_)
  · have F3 := hF2.sys S3 ZZHL
    have hp3 : Pln0 w3 _ g gt gm _ r t := F3.held (hPln g gt gm _ r t) (.head _)
    have hne : g1 ≠ gm := fun e => hp3.km.2.2.1 (by rw [← e]; simp)
    refine (hrest w3 (hB2.trans S3.toBelow) hp3 (fun k hk => ⟨hk.1, hk.2.1⟩) h0 (ks := [gm, g1]) (.head _) (fun k hk => ?_)).mono fun e w' ⟨vv, e1, e2⟩ => ⟨vv, e1, hne, hp3.km.1, e2⟩
    rcases List.mem_cons.1 hk with rfl | hk
    · exact hp3.km.2.1
    · rw [List.mem_singleton.1 hk]; exact S3.lt (e := (g1, _)) (.head _)
  obtain ⟨hne, hgm, q, nw, rfl, S4, F4, _, _⟩ := hR
  refine ⟨_, w4, S3.after1 S4 (fun e he => by rw [List.mem_singleton.1 he]; exact hne), ?_⟩
  have B4 := below_after1 (hB2.trans S3.toBelow) S4 hgm
  have P4 : PlanAt w4 _ q _ := F4.held (hPlan q _) (.tail _ (.head _))
  have hgm4 : gm < w4.heap.size := Nat.lt_of_lt_of_le (S4.lt (.head _)) (Nat.le_refl _)
  clear F4 S4 S3 hF2 S0
  obtain ⟨fd, hfd⟩ : ∃ fd, fd = t.rest t.n t.s t.on := ⟨_, rfl⟩
  rw [← hfd] at P4
  rw [← hfd]
  have e1 : bst t = fd := by unfold bst; rw [if_pos h0, hfd]
  have e2 : bstE t = if fd.isSome = true then 0 else 9 := by unfold bstE; rw [if_pos h0, hfd]
  obtain ⟨ms, hms⟩ : ∃ ms, ms = fd.isSome := ⟨_, rfl⟩
  rw [← hms] at e2
  simp only [tailV, tailC]
  rw [← hms]
  cases ms
  · repeat (first | (refine M0 ?_; first | refine SL ?_ | refine SB fun _ _ => ?_) | (refine M1 ?_; first | refine SC ?_ | refine SD ?_) | (refine M2 ?_; refine SE ?_) | (refine M3 ?_; first | refine SG ?_ | refine SF ?_) | (refine M4 ?_; refine SR ?_) | (refine M5 ?_; first | exact M7 | refine YM ?_ | refine YN ?_ ?_))
    refine XE.retg tok Try.results5 rfl (by simp only [and_self, and_true]) (fun w' S => ?_)
    have e3 : fd = none := isSome_f hms.symm
    rw [e3] at e1
    refine ⟨_, _, rfl, ⟨⟨none, 0, 0⟩, by rw [e1, e2]; rfl, rfl⟩, fun x hx => ?_, B4.trans S.toBelow⟩
    rw [List.mem_singleton.1 hx, e1]
    exact PlanAt.nil
  · repeat (first | (refine M0 ?_; first | refine SL ?_ | refine SB fun _ _ => ?_) | (refine M1 ?_; first | refine SC ?_ | refine SD ?_) | (refine M2 ?_; refine SE ?_) | (refine M3 ?_; first | refine SG ?_ | refine SF ?_) | (refine M4 ?_; refine SR ?_) | (refine M5 ?_; first | exact M7 | refine YM ?_ | refine YN ?_ ?_))
    refine XE.retg tok Try.results5 rfl (by simp only [and_self, and_true]) (fun w' S => ?_)
    refine ⟨_, _, rfl, ⟨q, by rw [e1, e2]; rfl, rfl⟩, fun x hx => ?_, B4.trans S.toBelow⟩
    rw [List.mem_singleton.1 hx, e1]
    refine PlanAt.mono (P4.keep fun j hj => S.old j hj.2.1 fun e he e1 => ?_) (fun j hj => ⟨Nat.le_trans hgm hj.1, Nat.lt_of_lt_of_le hj.2.1 S.size⟩)
    rcases List.mem_cons.1 he with rfl | he
    · simp only at e1; have := hj.2.1; omega
    · rw [List.mem_singleton.1 he] at e1
      exact hj.2.2.1 (by rw [← e1]; simp)
end Go.Proofs.Ytlfjdbilblfknaa.X
/-
  The walk of follow (runoff).
-/
namespace Go.Proofs.Ytlfjdbilblfknaa.X
open Go Go.RowKit Go.Proofs.Ytlfjdbilblfknaa.Bs
set_option linter.unusedVariables false
theorem idxPln {f : FuncId} {cap : List Value} {P : SV × List Bool → Bool} {r : SV} {ms : List (SV × List Bool)} {w : World} (hck : callOk Try.prog f = true) (hr : ListAt plnK w (Lt w.heap.size) r ms) (hn : ms.length ≤ 1000)
    (hc : ∀ m, m ∈ ms → ∀ w', Below w.heap.size w w' → Calls Try.prog f ([] ++ [svV m.1] ++ cap).toArray w' fun e w'' => e = .returned (.bool (P m)) ∧ Below w'.heap.size w' w'') :
    Calls Try.prog 50 #[svV r, .func (.func f) #[] cap.toArray] w fun e w' => e = .returned (.int .i64 (idxL ms P)) ∧ Below w.heap.size w w' := by
  obtain ⟨A, n, c⟩ := r
  have hln := hr.len (by decide)
  simp only at hln
  subst hln
  simp only [svV]
  refine enter Try.func50 rfl Try.ntmps50 rfl ?_; simp only [frame, Nat.zero_add, Nat.reduceAdd]
  repeat (first | (refine M0 ?_; first | refine SL ?_ | refine SB fun _ _ => ?_) | (refine M1 ?_; first | refine SC ?_ | refine SD ?_) | (refine M2 ?_; refine SE ?_) | (refine M3 ?_; first | refine SG ?_ | refine SF ?_) | (refine M4 ?_; refine SR ?_) | (refine M5 ?_; first | exact M7 | refine YM ?_ | refine YN ?_ ?_))
  refine XC.loopk [0, 1, 7] rfl (fun k : Nat => [(8, .int .i64 (k : Nat))]) (fun _ => []) (fun _ => w) (fun k => k ≤ ms.length ∧ ∀ j m, j < k → ms[j]? = some m → P m = false) (fun k => ms.length - k) 0 ⟨Nat.zero_le _, fun j m h => absurd h (by omega)⟩ ZZSUB (fun _ h => h) ?_
  rintro k ⟨hk, h0⟩
  dsimp only [List.cons_append, List.nil_append]
  repeat (first | (refine M0 ?_; first | refine SL ?_ | refine SB fun _ _ => ?_) | (refine M1 ?_; first | refine SC ?_ | refine SD ?_) | (refine M2 ?_; refine SE ?_) | (refine M3 ?_; first | refine SG ?_ | refine SF ?_) | (refine M4 ?_; refine SR ?_) | (refine M5 ?_; first | exact M7 | refine YM ?_ | refine YN ?_ ?_))
  refine XC.cond _ rfl (fun h3 => ?_) (fun h3 => ?_)
  · have hkn : k < ms.length := by simpa using h3
    obtain ⟨ad, rfl, hlt⟩ := hr.addr (by decide) (by omega)
    have hmk : ms[k]? = some ms[k] := List.getElem?_eq_getElem hkn
    have h9 := hr.elem hmk 0 (svV ms[k].1) rfl
    rw [add_add, Nat.add_zero] at h9
    have hcell : w.cell? (ad.add (k * 1)) = some (svV ms[k].1) := h9
    repeat (first | (refine M0 ?_; first | refine SL ?_ | refine SB fun _ _ => ?_ | refine Y4 (Ev.load_old tok rfl rfl (add_lt hlt) hcell) ?_ | refine Y4 (Ev.callv (f := f) (fst := []) (cap := cap) hck rfl rfl (fun w S => hc _ (List.getElem_mem hkn) w S.toBelow)) ?_) | (refine M1 ?_; first | refine SC ?_ | refine SD ?_) | (refine M2 ?_; refine SE ?_) | (refine M3 ?_; first | refine SG ?_ | refine SF ?_ | refine YF (Ev.load_old tok rfl rfl (add_lt hlt) hcell) ?_ | refine YF (Ev.callv (f := f) (fst := []) (cap := cap) hck rfl rfl (fun w S => hc _ (List.getElem_mem hkn) w S.toBelow)) ?_) | (refine M4 ?_; refine SR ?_) | (refine M5 ?_; first | exact M7 | refine YM ?_ | refine YN ?_ ?_))
    refine XC.cond _ rfl (fun h4 => ?_) (fun h4 => ?_)
    · repeat (first | (refine M0 ?_; first | refine SL ?_ | refine SB fun _ _ => ?_) | (refine M1 ?_; first | refine SC ?_ | refine SD ?_) | (refine M2 ?_; refine SE ?_) | (refine M3 ?_; first | refine SG ?_ | refine SF ?_) | (refine M4 ?_; refine SR ?_) | (refine M5 ?_; first | exact M7 | refine YM ?_ | refine YN ?_ ?_))
      refine XE.retg tok Try.results50 rfl (by simp only [and_self, and_true]) (fun w' S => ?_)
      have : ms.findIdx? P = some k := by
        rw [List.findIdx?_eq_some_iff_getElem]
        exact ⟨hkn, h4, fun j hj => by simpa using h0 j _ hj (List.getElem?_eq_getElem (by omega))⟩
      unfold idxL
      rw [this]
      exact ⟨rfl, S.toBelow⟩
    · repeat (first | (refine M0 ?_; first | refine SL ?_ | refine SB fun _ _ => ?_) | (refine M1 ?_; first | refine SC ?_ | refine SD ?_) | (refine M2 ?_; refine SE ?_) | (refine M3 ?_; first | refine SG ?_ | refine SF ?_) | (refine M4 ?_; refine SR ?_) | (refine M5 ?_; first | exact M7 | refine YM ?_ | refine YN ?_ ?_))
      refine XE.round (k + 1) ⟨hkn, fun j m hj hm => ?_⟩ (by omega) ZZSUB (fun _ h => h)
      rcases Nat.lt_or_ge j k with h5 | h5
      · exact h0 j m h5 hm
      · have : j = k := by omega
        subst this
        rw [hmk] at hm
        cases hm
        exact h4
  · have hkn : ¬ k < ms.length := by simpa using h3
    repeat (first | (refine M0 ?_; first | refine SL ?_ | refine SB fun _ _ => ?_) | (refine M1 ?_; first | refine SC ?_ | refine SD ?_) | (refine M2 ?_; refine SE ?_) | (refine M3 ?_; first | refine SG ?_ | refine SF ?_) | (refine M4 ?_; refine SR ?_) | (refine M5 ?_; first | exact M7 | refine YM ?_ | refine YN ?_ ?_))
    refine XE.retg tok Try.results50 rfl (by simp only [and_self, and_true]) (fun w' S => ?_)
    have : ms.findIdx? P = none := by
      rw [List.findIdx?_eq_none_iff]
      intro m hm
      obtain ⟨j, hj, e⟩ := List.mem_iff_getElem.1 hm
      exact h0 j m (by omega) (by rw [List.getElem?_eq_getElem hj, e])
    unfold idxL
    rw [this]
    exact ⟨rfl, S.toBelow⟩
theorem contPln {f : FuncId} {cap : List Value} {P : SV × List Bool → Bool} {r : SV} {ms : List (SV × List Bool)} {w : World} (hck : callOk Try.prog f = true) (hr : ListAt plnK w (Lt w.heap.size) r ms) (hn : ms.length ≤ 1000)
    (hc : ∀ m, m ∈ ms → ∀ w', Below w.heap.size w w' → Calls Try.prog f ([] ++ [svV m.1] ++ cap).toArray w' fun e w'' => e = .returned (.bool (P m)) ∧ Below w'.heap.size w' w'') :
    Calls Try.prog 48 #[svV r, .func (.func f) #[] cap.toArray] w fun e w' => e = .returned (.bool (ms.any P)) ∧ Below w.heap.size w w' := by
  obtain ⟨A, n, c⟩ := r
  simp only [svV]
  refine enter Try.func48 rfl Try.ntmps48 rfl ?_; simp only [frame, Nat.zero_add, Nat.reduceAdd]
  repeat (first | (refine M0 ?_; first | refine SL ?_ | refine SB fun _ _ => ?_ | refine Y4 (Ev.call (f := 50) (ck rfl) rfl (fun w5 S5 => (idxPln (f := f) (cap := cap) (P := P) (r := ⟨A, n, c⟩) (ms := ms) hck (hr.arg S5) hn (fun m hm w' hb => hc m hm w' (S5.toBelow.trans (hb.mono S5.size))) :))) ?_) | (refine M1 ?_; first | refine SC ?_ | refine SD ?_) | (refine M2 ?_; refine SE ?_) | (refine M3 ?_; first | refine SG ?_ | refine SF ?_ | refine YF (Ev.call (f := 50) (ck rfl) rfl (fun w5 S5 => (idxPln (f := f) (cap := cap) (P := P) (r := ⟨A, n, c⟩) (ms := ms) hck (hr.arg S5) hn (fun m hm w' hb => hc m hm w' (S5.toBelow.trans (hb.mono S5.size))) :))) ?_) | (refine M4 ?_; refine SR ?_) | (refine M5 ?_; first | exact M7 | refine YM ?_ | refine YN ?_ ?_))
  refine XE.retg tok Try.results48 rfl (by simp only [and_self, and_true]) (fun w' S => ?_)
  exact ⟨by rw [idxL_any]; rfl, S.toBelow⟩
theorem follow1_any {g4 g gt gm : Nat} {v : RTV} {r q : SV} {t : RTk} {ok : Nat → Prop} {w : World} (h4 : w.cell? ⟨g4, 0, none⟩ = some (.pointer (some ⟨g, 0, none⟩))) (hp : PlnAt w ok g gt gm v r t) {l : List Bool} (hq : q.n = l.length) :
    Calls Try.prog 47 ([] ++ [svV q] ++ [Value.pointer (some ⟨g4, 0, none⟩)] : List Value).toArray w fun e w' => e = .returned (.bool (!decide (l.length = t.m))) ∧ Below w.heap.size w w' := by
  obtain ⟨hlg, hc⟩ := plnCell hp
  have hl4 : g4 < w.heap.size := by
    unfold World.cell? at h4
    cases h : w.heap[g4]? with
    | none => simp [h] at h4
    | some o => exact (Array.getElem?_eq_some_iff.1 h).1
  have hn15 : r.n = t.m := hp.all.len (by decide)
  have c15 : w.cell? ⟨g, 15, none⟩ = some (.slice r.A r.n r.c) := hc 15 _ rfl
  obtain ⟨Aq, nq, cq⟩ := q
  simp only at hq
  subst hq
  simp only [svV, List.nil_append, List.cons_append]
  refine enter Try.func47 rfl Try.ntmps47 rfl ?_; simp only [frame, Nat.zero_add, Nat.reduceAdd]
  repeat (first | (refine M0 ?_; first | refine SL ?_ | refine SB fun _ _ => ?_ | refine Y4 (Ev.load_old tok rfl rfl hl4 h4) ?_ | refine Y4 (Ev.load_old tok rfl rfl hlg c15) ?_) | (refine M1 ?_; first | refine SC ?_ | refine SD ?_) | (refine M2 ?_; refine SE ?_) | (refine M3 ?_; first | refine SG ?_ | refine SF ?_ | refine YF (Ev.load_old tok rfl rfl hl4 h4) ?_ | refine YF (Ev.load_old tok rfl rfl hlg c15) ?_) | (refine M4 ?_; refine SR ?_) | (refine M5 ?_; first | exact M7 | refine YM ?_ | refine YN ?_ ?_))
  refine XE.retg tok Try.results47 rfl (by simp only [and_self, and_true]) (fun w' S => ?_)
  refine ⟨?_, S.toBelow⟩
  rw [hn15]
  by_cases h : l.length = t.m
  · rw [h]; simp [tupV]
  · have h' : (l.length : Int) ≠ t.m := by omega
    simp [h, h', tupV]
/-- a tick of a plan in memory. -/
def donK : Kind (SV × Done) := ⟨66, 5, fun e => doneC e.1 e.2, fun e => [hInts e.1 e.2.s.fil], fun _ => rfl⟩
theorem don_el : elemOk Try.prog 61 66 5 56 = true := by kernel_rfl
/-- an argument's numbers, or some that were made. -/
def hMix (w : World) (q : SV) (l : List Int) : Held := ⟨fun W ok => IntsAt w (Lt w.heap.size) q l ∨ IntsAt W ok q l, fun h hk => h.imp id fun h => h.keep hk, fun h hk => h.imp id fun h => h.mono hk⟩
def FolV (v : RTV) (t : RTk) (p : Plan) (x : Value) (new : List Held) : Prop :=
  (rtE t ≠ 0 ∧ x = .tuple ⟨[.pointer none, .slice none 0 0, .int .i64 0, .int .i64 (rtE t)]⟩ ∧ new = []) ∨
  (rtE t = 0 ∧ t.shaped p = false ∧ x = .tuple ⟨[.pointer none, .slice none 0 0, .int .i64 0, .int .i64 2]⟩ ∧ new = []) ∨
  (rtE t = 0 ∧ t.shaped p = true ∧ ∃ (g gt gm : Nat) (r q : SV) (ds : List (SV × Done)), x = .tuple ⟨[.pointer (some ⟨g, 0, none⟩), svV q, .int .i64 (t.flw 0 t.s t.on p).2, .int .i64 0]⟩ ∧ ds.map (·.2) = (t.flw 0 t.s t.on p).1 ∧ new = [hList donK q ds, hPln g gt gm v r t])
/-- how far a plan was followed. -/
structure FSt where
  k : Nat
  W : World
  rq : SV
  sq : SV
  bq : SV
  s : Sta
  b : List Bool
  ds : List (SV × Done)
structure FInv (w : World) (v : RTV) (t : RTk) (p : Plan) (ks : List Nat) (g gt gm : Nat) (r : SV) (z : FSt) : Prop where
  le : z.k ≤ p.length
  bel : Below w.heap.size w z.W
  fam : Fam z.W w.heap.size ks [⟨SV × Done, donK, svV z.rq, z.ds⟩] [hMix w z.sq z.s.fil, hPln g gt gm v r t]
  lt : ∀ x, x ∈ ks → x < z.W.heap.size
  bef : ListAt boolK w (Lt w.heap.size) z.bq z.b
  bl : z.b.length = t.m
  sta : StaOk t.b z.s
  one : (t.flw 0 t.s t.on p).1 = z.ds.map (·.2) ++ (t.flw z.k z.s z.b (p.drop z.k)).1
  two : (t.flw 0 t.s t.on p).2 = (t.flw z.k z.s z.b (p.drop z.k)).2
  len : z.ds.length = z.k
theorem mix_lt {w W : World} {q : SV} {l : List Int} {ok : Nat → Prop} (h : (hMix w q l).p W ok) (hB : Below w.heap.size w W) (hok : ∀ k, ok k → k < W.heap.size) : IntsAt W (Lt W.heap.size) q l := by
  rcases h with h | h
  · exact (h.keep fun k hk => hB.block k hk).mono fun k hk => Nat.lt_of_lt_of_le hk hB.size
  · exact h.mono hok
set_option maxHeartbeats 16000000 in
theorem follow_made {v : RTV} {t : RTk} {pq : SV} {p : Plan} {es : List (SV × List Bool)} {w : World} (ht : TskAt w w.heap.size v t) (hn : t.slu.length + t.pmp.length ≤ 5000000) (hp : ListAt plnK w (Lt w.heap.size) pq es) (hes : es.map (·.2) = p) :
    Calls Try.prog 36 #[tskV v t, svV pq] w (Made w (FolV v t p)) := by
  have hbeg := fun (w5 : World) (hB : Below w.heap.size w w5) => begin_made (v := v) (t := t) (w := w5) (ht.sys (Sys.ofBelow hB)) hn
  obtain ⟨Ap, np, cp⟩ := pq
  have lp := hp.len (by decide)
  simp only at lp
  subst lp
  have lo := ht.outer.len
  simp only [tskV, tskC, svV] at hbeg ⊢
  refine enter Try.func36 rfl Try.ntmps36 rfl ?_; simp only [frame, Nat.zero_add, Nat.reduceAdd]
  repeat (first | (refine M0 ?_; first | refine SL ?_ | refine SB fun _ _ => ?_) | (refine M1 ?_; refine SC ?_) | (refine M2 ?_; refine SE ?_))
  rename_i g2 hg2 g4 hg4
  refine XL.rebase (List.Sublist.refl _) (fun W0 S0 => ?_)
  refine XL.callF (ks := [g4, g2]) (rs := []) (hs := []) (b0 := w.heap.size) (wE := w) (BegV v t) (ck rfl) rfl rfl (Fam.start S0.size) (fun k hk => S0.keyLt k hk) S0.toBelow (fun w1 S1 _ hB1 => hbeg w1 hB1) (fun w2 x new hR hF2 hB2 hk2 => ?_) ZZHL
  rcases hR with ⟨h0, rfl, rfl⟩ | ⟨h0, g, gt, gm, r, rfl, rfl⟩
  · repeat (first | (refine M0 ?_; first | refine SL ?_ | refine SB fun _ _ => ?_) | (refine M1 ?_; refine SC ?_) | (refine M2 ?_; refine SE ?_))
    refine XC.cond _ rfl (fun h1 => ?_) (fun h1 => ?_)
    · repeat (first | (refine M0 ?_; first | refine SL ?_ | refine SB fun _ _ => ?_) | (refine M1 ?_; refine SC ?_) | (refine M2 ?_; refine SE ?_))
      refine XE.retg tok Try.results36 rfl (by simp only [and_self, and_true]) (fun w' S => ?_)
      exact ⟨_, [], rfl, .inl ⟨h0, rfl, rfl⟩, fun x hx => (by cases hx), hB2.trans S.toBelow⟩
    · exact absurd (by simpa using h1) h0
  repeat (first | (refine M0 ?_; first | refine SL ?_ | refine SB fun _ _ => ?_ | refine Y4 (Ev.makeFunc rfl rfl) ?_) | (refine M1 ?_; refine SC ?_) | (refine M2 ?_; refine SE ?_))
  have hpl : es.length = p.length := by have := congrArg List.length hes; simpa using this
  have hnn : t.n = t.outer.length := rfl
  by_cases hL : p.length = t.n
  rotate_left
  · rw [show decide ((es.length : Int) ≠ (v.o.n : Int)) = true from decide_eq_true (by omega)]
    repeat (first | (refine M0 ?_; first | refine SL ?_ | refine SB fun _ _ => ?_) | (refine M1 ?_; refine SC ?_) | (refine M2 ?_; refine SE ?_))
    refine XE.retg tok Try.results36 rfl (by simp only [and_self, and_true]) (fun w' S => ?_)
    exact ⟨_, [], rfl, .inr (.inl ⟨h0, by simp [RTk.shaped, hL], rfl, rfl⟩), fun x hx => (by cases hx), hB2.trans S.toBelow⟩
  rw [show decide ((es.length : Int) ≠ (v.o.n : Int)) = false from decide_eq_false (by omega)]
  have ho := rtOk_of h0
  have hn6 := ho.n6
  have hcont := fun {L : Lo} (w5 : World) (S5 : Sys w.heap.size w2 L w5) (hL5 : ∀ e, e ∈ L → e.1 ∈ [g4, g2] ∨ w2.heap.size ≤ e.1) (hown : w5.heap[g4]? = some (cel 71 [.pointer (some ⟨g, 0, none⟩)])) => contPln (f := 47) (cap := [.pointer (some ⟨g4, 0, none⟩)]) (P := fun m => !decide (m.2.length = t.m)) (r := ⟨Ap, es.length, cp⟩) (ms := es) (w := w5) (ck rfl) ((hp.keep fun k hk => (hB2.trans S5.toBelow).block k hk).mono fun k hk => Nat.lt_of_lt_of_le hk (hB2.trans S5.toBelow).size) (by omega) (fun m hm w' hb => by
    have h4' : w'.cell? ⟨g4, 0, none⟩ = some (.pointer (some ⟨g, 0, none⟩)) := by
      have hl4 := (Array.getElem?_eq_some_iff.1 hown).1
      have h9 := (hb.block g4 hl4).trans hown
      simp [World.cell?, h9]
    have hp5 : Pln0 w5 (Btw w.heap.size w5.heap.size) g gt gm v r t := ((hF2.add (ks' := [g4, g2]) (fun k hk => .inl (List.mem_append_right _ hk))).sys S5 hL5).get (x := hPln g gt gm v r t) (.head _)
    have hp6 := hp5.p.keep (w' := w') fun k hk => hb.block k hk.1.2
    have hml : m.1.n = m.2.length := ListAt.len (K := boolK) (hp.ins m hm (hList boolK m.1 m.2) (.head _)) (by decide)
    exact follow1_any h4' hp6 hml)
  simp only [svV] at hcont
  repeat (first | (refine M0 ?_; first | refine SL ?_ | refine SB fun _ _ => ?_ | refine Y4 (Ev.call (f := 48) (ck rfl) rfl (fun w5 S5 => hcont w5 S5 ZZHL (S5.own (g4, _) (.head _)).2)) ?_) | (refine M1 ?_; refine SC ?_) | (refine M2 ?_; refine SE ?_))
  refine XC.cond _ rfl (fun h1 => ?_) (fun h1 => ?_)
  · have hsf : t.shaped p = false := by
      obtain ⟨m, hm, h2⟩ := List.any_eq_true.1 h1
      have h3 : (p.all fun on => decide (on.length = t.m)) = false := List.all_eq_false.2 ⟨m.2, by rw [← hes]; exact List.mem_map_of_mem hm, by simpa using h2⟩
      unfold RTk.shaped
      rw [h3, Bool.and_false]
    repeat (first | (refine M0 ?_; first | refine SL ?_ | refine SB fun _ _ => ?_) | (refine M1 ?_; refine SC ?_) | (refine M2 ?_; refine SE ?_))
    refine XE.retg tok Try.results36 rfl (by simp only [and_self, and_true]) (fun w' S => ?_)
    exact ⟨_, [], rfl, .inr (.inl ⟨h0, hsf, rfl, rfl⟩), fun x hx => (by cases hx), hB2.trans S.toBelow⟩
  have hrow : ∀ on, on ∈ p → on.length = t.m := fun on hon => by
    rw [← hes] at hon
    obtain ⟨m, hm, rfl⟩ := List.mem_map.1 hon
    have := List.any_eq_false.1 h1 m hm
    simpa using this
  have hst : t.shaped p = true := by
    unfold RTk.shaped
    rw [decide_eq_true hL, Bool.true_and, List.all_eq_true]
    exact fun on hon => decide_eq_true (hrow on hon)
  repeat (first | (refine M0 ?_; first | refine SL ?_ | refine SB fun _ _ => ?_) | (refine M1 ?_; refine SC ?_) | (refine M2 ?_; refine SE ?_))
  refine XC.cutn [1, 2, 4, 5] rfl (fun g9 : Nat => [(9, .pointer (some ⟨g9, 0, none⟩)), (10, .slice v.on.A v.on.n v.on.c)]) (fun g9 => [(g9, cel 28 [.int .i64 t.s.vol, .slice v.q.A v.q.n v.q.c]), (g4, cel 71 [.pointer (some ⟨g, 0, none⟩)]), (g2, cel 33 (tskC v t))]) (fun _ => w2) (fun g9 => w2.heap.size ≤ g9) ?_ (fun g9 hg9 => ?_)
  · refine XC.drawR _ [0, 1, 2, 3] [4, 5, 6] mixed (fun _ h => h) rfl (by kernel_rfl) ?_
    repeat (any_goals (first | (refine M0 ?_; first | refine SL ?_ | refine SB fun _ _ => ?_) | (refine M1 ?_; refine SC ?_) | (refine M2 ?_; refine SE ?_) | (refine M3 ?_; first | refine SG ?_ | refine SF ?_) | (refine M4 ?_; refine SR ?_) | (refine M5 ?_; first | exact M7 | refine YM ?_ | refine YN ?_ ?_)))
    any_goals (repeat (first | exact AnyR.nil | refine AnyR.skip rfl ?_))
    all_goals exact XE.leaf _ ZZSUB (fun _ S' => by first | exact S' | exact S'.perm (by repeat (first | exact List.Perm.refl _ | refine perm1 ?_ | refine List.Perm.cons _ ?_ | refine perm2 ?_)) | exact (S'.pop (by assumption)) | exact (S'.pop2 (by assumption))) (by assumption)
  refine XC.rebase (List.Sublist.refl _) (fun W1 S1 => ?_)
  have F1 : Fam W1 w.heap.size [g9, g4, g2] [] [hPln g gt gm v r t] := (Fam.atEnd hF2 S1 ZZHL).add (fun k hk => by left; simp only [List.mem_cons, List.not_mem_nil, or_false] at hk; simp only [List.map_cons, List.map_nil, List.mem_append, List.mem_cons, List.not_mem_nil, or_false]; omega)
  have hk1 : ∀ k, k ∈ [g9, g4, g2] → k < W1.heap.size := fun k hk => S1.keyLt k hk
  have hB1 := hB2.trans S1.toBelow
  have F1' := (F1.hold (x := hMix w v.q t.s.fil) (ok := fun _ => False) (.inl ht.fil) (fun _ h => h.elim)).nil donK
  clear F1 S1 hF2 hB2 hk2 hcont S0
  refine XC.hint 9 2 ?_
  have hm4 : t.devs.length ≤ 4 := by have := t.devs_len; unfold RTk.many at this; have := ho.s2; have := ho.p2; omega
  repeat (first | (refine M0 ?_; first | refine SL ?_ | refine SB fun _ _ => ?_) | (refine M1 ?_; refine SC ?_) | (refine M2 ?_; refine SE ?_))
  refine XC.loopk [4, 9, 39, 40] rfl (fun z : FSt => [(41, .int .i64 (z.k : Nat)), (5, svV z.rq), (10, svV z.bq)]) (fun z => [(g9, cel 28 (staC z.sq z.s)), (g4, cel 71 [.pointer (some ⟨g, 0, none⟩)]), (g2, cel 33 (tskC v t))]) (fun z => z.W) (FInv w v t p [g9, g4, g2] g gt gm r) (fun z => p.length - z.k) ⟨0, W1, ⟨none, 0, 0⟩, v.q, v.on, t.s, t.on, []⟩ ⟨Nat.zero_le _, hB1, F1', hk1, ht.on, ho.on, ho.sta, rfl, rfl, rfl⟩ ZZSUB (fun _ h => h) ?_
  rintro ⟨k, W, rq, sq, bq, s, b, ds⟩ ⟨hk, hBW, hFW, hkW, hbef, hbl, hsta, hone, htwo, hlen⟩
  simp only at hk hBW hFW hkW hbef hbl hsta hone htwo hlen
  simp only [staC, svV]
  dsimp only [List.cons_append, List.nil_append]
  repeat (first | (refine M0 ?_; first | refine SL ?_ | refine SB fun _ _ => ?_) | (refine M1 ?_; refine SC ?_) | (refine M2 ?_; refine SE ?_))
  refine XC.cond _ rfl (fun h2 => ?_) (fun h2 => ?_)
  rotate_left
  · have hkn : k = p.length := by have := of_decide_eq_false h2; omega
    subst hkn
    rw [List.drop_length] at hone htwo
    repeat (first | (refine M0 ?_; first | refine SL ?_ | refine SB fun _ _ => ?_) | (refine M1 ?_; refine SC ?_) | (refine M2 ?_; refine SE ?_))
    refine XE.retg tok Try.results36 rfl (by simp only [and_self, and_true]) (fun w' S => ?_)
    have F9 := Fam.sys (Fam.freeze hFW) S ZZHL
    refine ⟨_, [hList donK rq ds, hPln g gt gm v r t], rfl, .inr (.inr ⟨h0, hst, g, gt, gm, r, rq, ds, ?_, by rw [hone]; simp [RTk.flw], rfl⟩), fun x hx => ?_, hBW.trans S.toBelow⟩
    · rw [htwo]; rfl
    · rcases List.mem_cons.1 hx with rfl | hx
      · exact F9.get (.head _)
      · rw [List.mem_singleton.1 hx]; exact F9.get (.tail _ (.tail _ (.head _)))
  have hkn : k < p.length := by have := of_decide_eq_true h2; omega
  have hke : k < es.length := by omega
  have hpk : p[k] = es[k].2 := by simp [← hes]
  have hdrop : p.drop k = es[k].2 :: p.drop (k + 1) := by rw [List.drop_eq_getElem_cons hkn, hpk]
  rw [hdrop] at hone htwo
  obtain ⟨ap, rfl, hlp⟩ := hp.addr (by decide) (by omega)
  have hcell := hp.elem (List.getElem?_eq_getElem hke) 0 (svV es[k].1) rfl
  rw [add_add, Nat.add_zero] at hcell
  have hcellW := (below_cell hBW (ad := ap.add (k * 1)) (add_lt hlp)).trans hcell
  have hon : ListAt boolK w (Lt w.heap.size) es[k].1 es[k].2 := hp.ins es[k] (List.getElem_mem hke) (hList boolK es[k].1 es[k].2) (.head _)
  have honl : es[k].2.length = t.m := hrow _ (by rw [← hpk]; exact List.getElem_mem hkn)
  obtain ⟨oq, hoq⟩ : ∃ oq, oq = es[k].1 := ⟨_, rfl⟩
  obtain ⟨on, hon'⟩ : ∃ on, on = es[k].2 := ⟨_, rfl⟩
  rw [← hoq] at hcellW hon
  rw [← hon'] at hone htwo hon honl
  have hki : k < t.outer.length := by omega
  simp only [svV] at hcellW
  repeat (first | (refine M0 ?_; first | refine SL ?_ | refine SB fun _ _ => ?_ | refine Y4 (Ev.load_old tok rfl rfl (add_lt hlp) hcellW) ?_) | (refine M1 ?_; refine SC ?_) | (refine M2 ?_; refine SE ?_))
  refine XL.callF (wE := w) (DoV (t.doE s k b on) (t.doD s k b on)) (ck rfl) rfl rfl hFW hkW hBW (fun w1 S1 hF1 hB1 => ?_) (fun w2 x new hR hF2 hB2 hk2 => ?_) ZZHL
  · have hp1 : Pln0 w1 (Btw w.heap.size w1.heap.size) g gt gm v r t := hF1.get (x := hPln g gt gm v r t) (.tail _ (.head _))
    have hsq : (hMix w sq s.fil).p w1 _ := hF1.held (hMix w sq s.fil) (.head _)
    exact do_made (g := g) (gt := gt) (gm := gm) (v := v) (r := r) (p := bq) (q := oq) (sq := sq) ⟨hp1.p.mono fun k hk => hk.1.2, ht.sys (Sys.ofBelow hB1)⟩ (chk_rt h0) ho (mix_lt hsq hB1 (fun k hk => hk.2.1)) hsta hki ((hbef.keep fun k hk => hB1.block k hk).mono fun k hk => Nat.lt_of_lt_of_le hk hB1.size) hbl ((hon.keep fun k hk => hB1.block k hk).mono fun k hk => Nat.lt_of_lt_of_le hk hB1.size) honl
  obtain ⟨q2, rfl, rfl⟩ := hR
  simp only [doneC]
  have hds := do_sta ho hsta hki (b := b) (f := on)
  by_cases hE : t.doE s k b on = 0
  rotate_left
  · repeat (first | (refine M0 ?_; first | refine SL ?_ | refine SB fun _ _ => ?_) | (refine M1 ?_; refine SC ?_) | (refine M2 ?_; refine SE ?_))
    rw [show decide (t.doE s k b on ≠ 0) = true from decide_eq_true hE]
    repeat (first | (refine M0 ?_; first | refine SL ?_ | refine SB fun _ _ => ?_) | (refine M1 ?_; refine SC ?_) | (refine M2 ?_; refine SE ?_))
    refine XE.retg tok Try.results36 rfl (by simp only [and_self, and_true]) (fun w' S => ?_)
    have e1 : t.flw k s b (on :: p.drop (k + 1)) = ([], t.doE s k b on) := by rw [flw_eq, if_neg hE]
    rw [e1] at hone htwo
    have F9 := Fam.sys (Fam.freeze hF2) S ZZHL
    refine ⟨_, [hList donK rq ds, hPln g gt gm v r t], rfl, .inr (.inr ⟨h0, hst, g, gt, gm, r, rq, ds, by rw [htwo]; rfl, by rw [hone, List.append_nil], rfl⟩), fun x hx => ?_, hB2.trans S.toBelow⟩
    rcases List.mem_cons.1 hx with rfl | hx
    · exact F9.get (.head _)
    · rw [List.mem_singleton.1 hx]; exact F9.get (by simp)
  obtain ⟨hsta', _, _, _⟩ := hds hE
  have e1 := flw_cons_of (r := p.drop (k + 1)) hE
  rw [e1] at hone htwo
  obtain ⟨d, hd⟩ : ∃ d, d = t.doD s k b on := ⟨_, rfl⟩
  rw [← hd] at hsta' hone htwo hF2
  rw [← hd, hE]
  repeat (first | (refine M0 ?_; first | refine SL ?_ | refine SB fun _ _ => ?_) | (refine M1 ?_; refine SC ?_) | (refine M2 ?_; refine SE ?_))
  rename_i g13 hg13
  refine XL.buildSlice tok rfl rfl rfl rfl rfl rfl rfl rfl rfl (fun gn hgn => ?_)
  refine XL.push (K := donK) (a := (q2, d)) (wE := w) 0 don_el (by decide) rfl rfl rfl hF2 rfl hk2 hB2 (Nat.le_refl _) rfl (by omega) (by decide) (fun x hx => by rw [List.mem_singleton.1 hx]; exact .head _) (fun w3 v3 hF3 hB3 hk3 => ?_)
  obtain ⟨r3, rfl, hn3⟩ := hF3.sv (K := donK) (l := ds ++ [(q2, d)]) (List.mem_singleton.2 rfl)
  simp only [svV]
  repeat (first | (refine M0 ?_; first | refine SL ?_ | refine SB fun _ _ => ?_) | (refine M1 ?_; refine SC ?_) | (refine M2 ?_; refine SE ?_))
  refine XE.roundW (s := FSt.mk k W rq sq bq s b ds) (fun w6 S6 => ⟨FSt.mk (k + 1) w6 r3 q2 oq d.s on (ds ++ [(q2, d)]), ⟨hkn, hB3.trans S6.toBelow, ?_, fun x hx => S6.keyLt x (by simp only [List.map_cons, List.map_nil, List.mem_cons, List.not_mem_nil, or_false] at hx ⊢; omega), hon, honl, hsta', ?_, ?_, by simp [hlen]⟩, by simp only; omega, ZZSUB, S6.rebase ZZSL⟩)
  · have F5 := Fam.add (ks' := [g9, g4, g2]) (hF3.sys S6 ZZHL) (fun x hx => .inl (List.mem_append_right _ (List.mem_append_right _ hx)))
    have h7 := F5.held (hInts q2 d.s.fil) (.head _)
    refine Fam.forget (F5.hold (x := hMix w q2 d.s.fil) (ok := Free w6 w.heap.size [g9, g4, g2] _) (.inr h7) (fun j hj => hj)) (fun x hx => ?_)
    rcases List.mem_cons.1 hx with rfl | hx
    · exact .head _
    · rw [List.mem_singleton.1 hx]; simp
  · rw [hone]; simp
  · rw [htwo]
end Go.Proofs.Ytlfjdbilblfknaa.X
/-
  The walks of Cost and Do (runoff).
-/
namespace Go.Proofs.Ytlfjdbilblfknaa.Bs
open Go.Proofs.Ytlfjdbilblfknaa.X
/-- the error of following a plan; its fault is none. -/
noncomputable def folE (t : RTk) (p : Plan) : Int := if rtE t ≠ 0 then rtE t else if t.shaped p = false then 2 else 0
noncomputable def costE (t : RTk) (p : Plan) : Int := if rtE t ≠ 0 then rtE t else if t.shaped p = false then 2 else (t.flw 0 t.s t.on p).2
noncomputable def costN (t : RTk) (p : Plan) : Int := if costE t p = 0 then costs (t.flw 0 t.s t.on p).1 else 0
theorem shaped_len {t : RTk} {p : Plan} (h : t.shaped p = true) : p.length = t.n ∧ ∀ on, on ∈ p → on.length = t.m := by
  unfold RTk.shaped at h
  simp only [Bool.and_eq_true, decide_eq_true_eq, List.all_eq_true] at h
  exact h
theorem flw_bd {t : RTk} (ho : RtOk t) : ∀ {p : Plan} {i : Nat} {s : Sta} {b : List Bool}, StaOk t.b s → i + p.length ≤ t.outer.length → (t.flw i s b p).1.length ≤ p.length ∧ ∀ x, x ∈ (t.flw i s b p).1 → 0 ≤ x.cost ∧ x.cost ≤ 200000000000000 := by
  intro p
  induction p with
  | nil => intro i s b _ _; exact ⟨Nat.le_refl _, fun x hx => by cases hx⟩
  | cons on r ih =>
    intro i s b hs hl
    simp only [List.length_cons] at hl
    by_cases h0 : t.doE s i b on = 0
    · obtain ⟨h1, h2, h3, _⟩ := do_sta ho hs (by omega) h0
      obtain ⟨h4, h5⟩ := ih (i := i + 1) (b := on) h1 (by omega)
      rw [flw_cons_of h0]
      refine ⟨by simp only [List.length_cons]; omega, fun x hx => ?_⟩
      rcases List.mem_cons.1 hx with rfl | hx
      · exact ⟨h2, h3⟩
      · exact h5 x hx
    · rw [flw_eq, if_neg h0]
      exact ⟨by simp, fun x hx => by cases hx⟩
theorem costs_take {l : List Done} {k : Nat} (hk : k < l.length) : costs (l.take (k + 1)) = costs (l.take k) + l[k].cost := by
  rw [List.take_succ_eq_append_getElem hk, costs_snoc]
theorem costs_bd {l : List Done} (h : ∀ x, x ∈ l → 0 ≤ x.cost ∧ x.cost ≤ 200000000000000) : 0 ≤ costs l ∧ costs l ≤ 200000000000000 * l.length := by
  induction l with
  | nil => simp [costs_nil]
  | cons x l ih =>
    have h1 := h x (.head _)
    have h2 := ih fun y hy => h y (.tail _ hy)
    rw [costs_cons, List.length_cons]
    omega
end Go.Proofs.Ytlfjdbilblfknaa.Bs
namespace Go.Proofs.Ytlfjdbilblfknaa.X
open Go Go.RowKit Go.Proofs.Ytlfjdbilblfknaa.Bs
set_option linter.unusedVariables false
set_option maxHeartbeats 8000000 in
theorem Cost_any {v : RTV} {t : RTk} {pq : SV} {p : Plan} {es : List (SV × List Bool)} {w : World} (ht : TskAt w w.heap.size v t) (hn : t.slu.length + t.pmp.length ≤ 5000000) (hp : ListAt plnK w (Lt w.heap.size) pq es) (hes : es.map (·.2) = p) :
    Calls Try.prog 17 #[tskV v t, svV pq] w fun e w' => e = .returned (.tuple ⟨[.int .i64 (costN t p), .int .i64 (costE t p)]⟩) ∧ Below w.heap.size w w' := by
  have hfol := fun (w5 : World) (hB : Below w.heap.size w w5) => follow_made (v := v) (t := t) (w := w5) (pq := pq) (ht.sys (Sys.ofBelow hB)) hn ((hp.keep fun k hk => hB.block k hk).mono fun k hk => Nat.lt_of_lt_of_le hk hB.size) hes
  simp only [tskV, tskC, svV] at hfol ⊢
  refine enter Try.func17 rfl Try.ntmps17 rfl ?_; simp only [frame, Nat.zero_add, Nat.reduceAdd]
  repeat (first | (refine M0 ?_; first | refine SL ?_ | refine SB fun _ _ => ?_) | (refine M1 ?_; refine SC ?_) | (refine M2 ?_; refine SE ?_))
  rename_i g2 hg2
  refine XL.rebase (List.Sublist.refl _) (fun W0 S0 => ?_)
  refine XL.callF (ks := [g2]) (rs := []) (hs := []) (b0 := w.heap.size) (wE := w) (FolV v t p) (ck rfl) rfl rfl (Fam.start S0.size) (fun k hk => S0.keyLt k hk) S0.toBelow (fun w1 S1 _ hB1 => hfol w1 hB1) (fun w2 x new hR hF2 hB2 hk2 => ?_) ZZHL
  rcases hR with ⟨h0, rfl, rfl⟩ | ⟨h0, h1, rfl, rfl⟩ | ⟨h0, h1, g, gt, gm, r, q, ds, rfl, hds, rfl⟩
  · have e1 : costE t p = rtE t := by unfold costE; rw [if_pos h0]
    have e2 : costN t p = 0 := by unfold costN; rw [if_neg (by rw [e1]; exact h0)]
    repeat (first | (refine M0 ?_; first | refine SL ?_ | refine SB fun _ _ => ?_) | (refine M1 ?_; refine SC ?_) | (refine M2 ?_; refine SE ?_))
    rw [show decide (rtE t = 0) = false from decide_eq_false h0]
    repeat (first | (refine M0 ?_; first | refine SL ?_ | refine SB fun _ _ => ?_) | (refine M1 ?_; refine SC ?_) | (refine M2 ?_; refine SE ?_))
    rw [show decide (rtE t ≠ 0) = true from decide_eq_true h0]
    repeat (first | (refine M0 ?_; first | refine SL ?_ | refine SB fun _ _ => ?_) | (refine M1 ?_; refine SC ?_) | (refine M2 ?_; refine SE ?_))
    refine XE.retg tok Try.results17 rfl (by simp only [and_self, and_true]) (fun w' S => ?_)
    rw [e1, e2]
    exact ⟨rfl, hB2.trans S.toBelow⟩
  · have e1 : costE t p = 2 := by unfold costE; rw [if_neg (by simp [h0]), if_pos h1]
    have e2 : costN t p = 0 := by unfold costN; rw [if_neg (by rw [e1]; decide)]
    repeat (first | (refine M0 ?_; first | refine SL ?_ | refine SB fun _ _ => ?_) | (refine M1 ?_; refine SC ?_) | (refine M2 ?_; refine SE ?_))
    refine XE.retg tok Try.results17 rfl (by simp only [and_self, and_true]) (fun w' S => ?_)
    rw [e1, e2]
    exact ⟨rfl, hB2.trans S.toBelow⟩
  have e1 : costE t p = (t.flw 0 t.s t.on p).2 := by unfold costE; rw [if_neg (by simp [h0]), if_neg (by simp [h1])]
  repeat (first | (refine M0 ?_; first | refine SL ?_ | refine SB fun _ _ => ?_) | (refine M1 ?_; refine SC ?_) | (refine M2 ?_; refine SE ?_))
  have ho := rtOk_of h0
  obtain ⟨hsl, _⟩ := shaped_len h1
  obtain ⟨hbl1, hbl2⟩ := flw_bd ho (p := p) (i := 0) (s := t.s) (b := t.on) ho.sta (by rw [Nat.zero_add, hsl]; exact Nat.le_refl _)
  have hn6 : t.n ≤ 6 := ho.n6
  obtain ⟨E, hE⟩ : ∃ E, E = (t.flw 0 t.s t.on p).2 := ⟨_, rfl⟩
  rw [← hE] at e1 ⊢
  refine XC.cond _ rfl (fun h2 => ?_) (fun h2 => ?_)
  · have e2 : costN t p = 0 := by unfold costN; rw [if_neg (by rw [e1]; simpa using h2)]
    repeat (first | (refine M0 ?_; first | refine SL ?_ | refine SB fun _ _ => ?_) | (refine M1 ?_; refine SC ?_) | (refine M2 ?_; refine SE ?_))
    refine XE.retg tok Try.results17 rfl (by simp only [and_self, and_true]) (fun w' S => ?_)
    rw [e1, e2]
    exact ⟨rfl, hB2.trans S.toBelow⟩
  have hE0 : E = 0 := by simpa using h2
  have e2 : costN t p = costs (ds.map (·.2)) := by unfold costN; rw [if_pos (by rw [e1, hE0]), hds]
  rw [← hds] at hbl1 hbl2
  obtain ⟨dl, hdl⟩ : ∃ dl, dl = ds.map (·.2) := ⟨_, rfl⟩
  rw [← hdl] at hbl1 hbl2 e2
  have hdlen : dl.length = ds.length := by rw [hdl]; simp
  obtain ⟨Aq, nq, cq⟩ := q
  have hl : ListAt donK w2 _ ⟨Aq, nq, cq⟩ ds := hF2.held (hList donK ⟨Aq, nq, cq⟩ ds) (.head _)
  have hln := hl.len (by decide)
  simp only at hln
  subst hln
  simp only [svV]
  repeat (first | (refine M0 ?_; first | refine SL ?_ | refine SB fun _ _ => ?_) | (refine M1 ?_; refine SC ?_) | (refine M2 ?_; refine SE ?_))
  refine XC.loopk [27, 28] rfl (fun k : Nat => [(29, .int .i64 (k : Nat)), (10, .int .i64 (costs (dl.take k)))]) (fun _ => [(g2, _)]) (fun _ => w2) (fun k => k ≤ ds.length) (fun k => ds.length - k) 0 (Nat.zero_le _) ZZSUB (fun _ h => h) ?_
  intro k hk
  dsimp only [List.cons_append, List.nil_append]
  repeat (first | (refine M0 ?_; first | refine SL ?_ | refine SB fun _ _ => ?_) | (refine M1 ?_; refine SC ?_) | (refine M2 ?_; refine SE ?_))
  refine XC.cond _ rfl (fun h3 => ?_) (fun h3 => ?_)
  rotate_left
  · have hkn : k = ds.length := by have := of_decide_eq_false h3; omega
    rw [hkn, ← hdlen, List.take_length]
    repeat (first | (refine M0 ?_; first | refine SL ?_ | refine SB fun _ _ => ?_) | (refine M1 ?_; refine SC ?_) | (refine M2 ?_; refine SE ?_))
    refine XE.retg tok Try.results17 rfl (by simp only [and_self, and_true]) (fun w' S => ?_)
    rw [e1, hE0, e2]
    exact ⟨rfl, hB2.trans S.toBelow⟩
  have hkn : k < ds.length := by have := of_decide_eq_true h3; omega
  obtain ⟨aq, rfl, hfl⟩ := hl.addr (by decide) (by omega)
  have hel := hl.elem (List.getElem?_eq_getElem hkn)
  have hdk : dl[k] = ds[k].2 := by simp [hdl]
  have hct := costs_take (l := dl) (k := k) (by omega)
  rw [hdk] at hct
  have hb1 := costs_bd (l := dl.take k) fun x hx => hbl2 x (List.mem_of_mem_take hx)
  have hb2 := hbl2 dl[k] (List.getElem_mem _)
  rw [hdk] at hb2
  have hb3 : (dl.take k).length ≤ 6 := by rw [List.length_take]; omega
  obtain ⟨⟨q1, d1⟩, hqd⟩ : ∃ z, z = ds[k] := ⟨_, rfl⟩
  rw [← hqd] at hel hct hb2
  simp only at hct hb2
  have hel' : ∀ j u, ([.int .i64 d1.s.vol, .slice q1.A q1.n q1.c, .int .i64 d1.out, .int .i64 d1.energy, .int .i64 d1.cost] : List Value)[j]? = some u → w2.cell? ((aq.add (k * 5)).add j) = some u := hel
  repeat (first | (refine M0 ?_; first | refine SL ?_ | refine SB fun _ _ => ?_ | refine Y4 (Ev.load_far_agg tok [.int .i64 d1.s.vol, .slice q1.A q1.n q1.c, .int .i64 d1.out, .int .i64 d1.energy, .int .i64 d1.cost] rfl rfl rfl (by rw [add_block]; exact hfl.2.1) (Free.far hfl (by intro e he; left; rw [List.mem_singleton.1 he]; simp)) hel') ?_) | (refine M1 ?_; refine SC ?_) | (refine M2 ?_; refine SE ?_))
  rw [← hct]
  exact XE.round (s := k) (k + 1) hkn (by omega) ZZSUB (fun _ h => h.pop (by assumption))
end Go.Proofs.Ytlfjdbilblfknaa.X
/-
  The example's task and plans, plans compared, Awake (runoff).
-/
namespace Go.Proofs.Ytlfjdbilblfknaa.X
open Go Go.RowKit Go.Proofs.Ytlfjdbilblfknaa.Bs
set_option linter.unusedVariables false
/-! ### choices and plans compared -/
set_option maxHeartbeats 4000000 in
theorem Bools_any {p q : SV} {l m : List Bool} {w : World} (hp : ListAt boolK w (Lt w.heap.size) p l) (hq : ListAt boolK w (Lt w.heap.size) q m) :
    Calls Try.prog 14 #[svV p, svV q] w fun e w' => e = .returned (.bool (decide (l = m))) ∧ Below w.heap.size w w' := by
  obtain ⟨Ap, np, cp⟩ := p
  obtain ⟨Aq, nq, cq⟩ := q
  have lp := hp.len (by decide)
  have lq := hq.len (by decide)
  have mp := hp.max
  have mq := hq.max
  simp only at lp lq mp mq
  subst lp lq
  simp only [svV]
  refine enter Try.func14 rfl Try.ntmps14 rfl ?_; simp only [frame, Nat.zero_add, Nat.reduceAdd]
  repeat (first | (refine M0 ?_; first | refine SL ?_ | refine SB fun _ _ => ?_) | (refine M1 ?_; first | refine SC ?_ | refine SD ?_) | (refine M2 ?_; refine SE ?_) | (refine M3 ?_; first | refine SG ?_ | refine SF ?_) | (refine M4 ?_; refine SR ?_) | (refine M5 ?_; first | exact M7 | refine YM ?_ | refine YN ?_ ?_))
  refine XC.cond _ rfl (fun h1 => ?_) (fun h1 => ?_)
  · have hne : l ≠ m := fun e => by have := of_decide_eq_true h1; rw [e] at this; exact this rfl
    repeat (first | (refine M0 ?_; first | refine SL ?_ | refine SB fun _ _ => ?_) | (refine M1 ?_; first | refine SC ?_ | refine SD ?_) | (refine M2 ?_; refine SE ?_) | (refine M3 ?_; first | refine SG ?_ | refine SF ?_) | (refine M4 ?_; refine SR ?_) | (refine M5 ?_; first | exact M7 | refine YM ?_ | refine YN ?_ ?_))
    refine XE.retg tok Try.results14 rfl (by simp only [and_self, and_true]) (fun w' S => ?_)
    rw [decide_eq_false hne]
    exact ⟨rfl, S.toBelow⟩
  have hlen : l.length = m.length := by have := of_decide_eq_false h1; omega
  repeat (first | (refine M0 ?_; first | refine SL ?_ | refine SB fun _ _ => ?_) | (refine M1 ?_; first | refine SC ?_ | refine SD ?_) | (refine M2 ?_; refine SE ?_) | (refine M3 ?_; first | refine SG ?_ | refine SF ?_) | (refine M4 ?_; refine SR ?_) | (refine M5 ?_; first | exact M7 | refine YM ?_ | refine YN ?_ ?_))
  refine XC.loopk [0, 1] rfl (fun k : Nat => [(5, .int .i64 (k : Nat))]) (fun _ => []) (fun _ => w) (fun k => k ≤ l.length ∧ ∀ j, j < k → bl l j = bl m j) (fun k => l.length - k) 0 ⟨Nat.zero_le _, fun j h => absurd h (by omega)⟩ ZZSUB (fun _ h => h) ?_
  rintro k ⟨hk, h0⟩
  dsimp only [List.cons_append, List.nil_append]
  repeat (first | (refine M0 ?_; first | refine SL ?_ | refine SB fun _ _ => ?_) | (refine M1 ?_; first | refine SC ?_ | refine SD ?_) | (refine M2 ?_; refine SE ?_) | (refine M3 ?_; first | refine SG ?_ | refine SF ?_) | (refine M4 ?_; refine SR ?_) | (refine M5 ?_; first | exact M7 | refine YM ?_ | refine YN ?_ ?_))
  refine XC.cond _ rfl (fun h2 => ?_) (fun h2 => ?_)
  rotate_left
  · have hkn : k = l.length := by have := of_decide_eq_false h2; omega
    subst hkn
    repeat (first | (refine M0 ?_; first | refine SL ?_ | refine SB fun _ _ => ?_) | (refine M1 ?_; first | refine SC ?_ | refine SD ?_) | (refine M2 ?_; refine SE ?_) | (refine M3 ?_; first | refine SG ?_ | refine SF ?_) | (refine M4 ?_; refine SR ?_) | (refine M5 ?_; first | exact M7 | refine YM ?_ | refine YN ?_ ?_))
    refine XE.retg tok Try.results14 rfl (by simp only [and_self, and_true]) (fun w' S => ?_)
    rw [decide_eq_true (bl_ext hlen h0)]
    exact ⟨rfl, S.toBelow⟩
  have hkn : k < l.length := by have := of_decide_eq_true h2; omega
  obtain ⟨ap, rfl, hlp⟩ := hp.addr (by decide) (by omega)
  obtain ⟨aq, rfl, hlq⟩ := hq.addr (by decide) (by omega)
  have c1 := boolAt hp (k := k) (by omega)
  have c2 := boolAt hq (k := k) (by omega)
  repeat (first | (refine M0 ?_; first | refine SL ?_ | refine SB fun _ _ => ?_ | refine Y4 (Ev.load_old tok rfl rfl (add_lt hlp) c1) ?_ | refine Y4 (Ev.load_old tok rfl rfl (add_lt hlq) c2) ?_ | refine Y4 (Ev.neqB Try.underlying4 rfl rfl) ?_) | (refine M1 ?_; first | refine SC ?_ | refine SD ?_) | (refine M2 ?_; refine SE ?_) | (refine M3 ?_; first | refine SG ?_ | refine SF ?_ | refine YF (Ev.load_old tok rfl rfl (add_lt hlp) c1) ?_ | refine YF (Ev.load_old tok rfl rfl (add_lt hlq) c2) ?_ | refine YF (Ev.neqB Try.underlying4 rfl rfl) ?_) | (refine M4 ?_; refine SR ?_) | (refine M5 ?_; first | exact M7 | refine YM ?_ | refine YN ?_ ?_))
  refine XC.cond _ rfl (fun h3 => ?_) (fun h3 => ?_)
  · have hne : l ≠ m := fun e => by rw [e] at h3; simp at h3
    repeat (first | (refine M0 ?_; first | refine SL ?_ | refine SB fun _ _ => ?_) | (refine M1 ?_; first | refine SC ?_ | refine SD ?_) | (refine M2 ?_; refine SE ?_) | (refine M3 ?_; first | refine SG ?_ | refine SF ?_) | (refine M4 ?_; refine SR ?_) | (refine M5 ?_; first | exact M7 | refine YM ?_ | refine YN ?_ ?_))
    refine XE.retg tok Try.results14 rfl (by simp only [and_self, and_true]) (fun w' S => ?_)
    rw [decide_eq_false hne]
    exact ⟨rfl, S.toBelow⟩
  · repeat (first | (refine M0 ?_; first | refine SL ?_ | refine SB fun _ _ => ?_) | (refine M1 ?_; first | refine SC ?_ | refine SD ?_) | (refine M2 ?_; refine SE ?_) | (refine M3 ?_; first | refine SG ?_ | refine SF ?_) | (refine M4 ?_; refine SR ?_) | (refine M5 ?_; first | exact M7 | refine YM ?_ | refine YN ?_ ?_))
    refine XE.round (s := k) (k + 1) ⟨hkn, fun j hj => ?_⟩ (by omega) ZZSUB (fun _ h => h)
    by_cases e : j = k
    · rw [e]; simpa using h3
    · exact h0 j (by omega)
set_option maxHeartbeats 4000000 in
theorem SamePlan_any {p q : SV} {es fs : List (SV × List Bool)} {w : World} (hp : ListAt plnK w (Lt w.heap.size) p es) (hq : ListAt plnK w (Lt w.heap.size) q fs) :
    Calls Try.prog 21 #[svV p, svV q] w fun e w' => e = .returned (.bool (decide (es.map (·.2) = fs.map (·.2)))) ∧ Below w.heap.size w w' := by
  obtain ⟨Ap, np, cp⟩ := p
  obtain ⟨Aq, nq, cq⟩ := q
  have lp := hp.len (by decide)
  have lq := hq.len (by decide)
  have mp := hp.max
  have mq := hq.max
  simp only at lp lq mp mq
  subst lp lq
  simp only [svV]
  refine enter Try.func21 rfl Try.ntmps21 rfl ?_; simp only [frame, Nat.zero_add, Nat.reduceAdd]
  repeat (first | (refine M0 ?_; first | refine SL ?_ | refine SB fun _ _ => ?_) | (refine M1 ?_; first | refine SC ?_ | refine SD ?_) | (refine M2 ?_; refine SE ?_) | (refine M3 ?_; first | refine SG ?_ | refine SF ?_) | (refine M4 ?_; refine SR ?_) | (refine M5 ?_; first | exact M7 | refine YM ?_ | refine YN ?_ ?_))
  refine XC.cond _ rfl (fun h1 => ?_) (fun h1 => ?_)
  · have hne : es.map (·.2) ≠ fs.map (·.2) := fun e => by have := congrArg List.length e; simp at this; have := of_decide_eq_true h1; omega
    repeat (first | (refine M0 ?_; first | refine SL ?_ | refine SB fun _ _ => ?_) | (refine M1 ?_; first | refine SC ?_ | refine SD ?_) | (refine M2 ?_; refine SE ?_) | (refine M3 ?_; first | refine SG ?_ | refine SF ?_) | (refine M4 ?_; refine SR ?_) | (refine M5 ?_; first | exact M7 | refine YM ?_ | refine YN ?_ ?_))
    refine XE.retg tok Try.results21 rfl (by simp only [and_self, and_true]) (fun w' S => ?_)
    rw [decide_eq_false hne]
    exact ⟨rfl, S.toBelow⟩
  have hlen : es.length = fs.length := by have := of_decide_eq_false h1; omega
  repeat (first | (refine M0 ?_; first | refine SL ?_ | refine SB fun _ _ => ?_) | (refine M1 ?_; first | refine SC ?_ | refine SD ?_) | (refine M2 ?_; refine SE ?_) | (refine M3 ?_; first | refine SG ?_ | refine SF ?_) | (refine M4 ?_; refine SR ?_) | (refine M5 ?_; first | exact M7 | refine YM ?_ | refine YN ?_ ?_))
  refine XC.loopk [0, 1] rfl (fun k : Nat => [(5, .int .i64 (k : Nat))]) (fun _ => []) (fun _ => w) (fun k => k ≤ es.length ∧ ∀ j, j < k → (es.map (·.2))[j]? = (fs.map (·.2))[j]?) (fun k => es.length - k) 0 ⟨Nat.zero_le _, fun j h => absurd h (by omega)⟩ ZZSUB (fun _ h => h) ?_
  rintro k ⟨hk, h0⟩
  dsimp only [List.cons_append, List.nil_append]
  repeat (first | (refine M0 ?_; first | refine SL ?_ | refine SB fun _ _ => ?_) | (refine M1 ?_; first | refine SC ?_ | refine SD ?_) | (refine M2 ?_; refine SE ?_) | (refine M3 ?_; first | refine SG ?_ | refine SF ?_) | (refine M4 ?_; refine SR ?_) | (refine M5 ?_; first | exact M7 | refine YM ?_ | refine YN ?_ ?_))
  refine XC.cond _ rfl (fun h2 => ?_) (fun h2 => ?_)
  rotate_left
  · have hkn : k = es.length := by have := of_decide_eq_false h2; omega
    subst hkn
    have he : es.map (·.2) = fs.map (·.2) := List.ext_getElem? fun j => by
      rcases Nat.lt_or_ge j es.length with h | h
      · exact h0 j h
      · rw [List.getElem?_eq_none (by simpa using h), List.getElem?_eq_none (by simpa using (by omega : fs.length ≤ j))]
    repeat (first | (refine M0 ?_; first | refine SL ?_ | refine SB fun _ _ => ?_) | (refine M1 ?_; first | refine SC ?_ | refine SD ?_) | (refine M2 ?_; refine SE ?_) | (refine M3 ?_; first | refine SG ?_ | refine SF ?_) | (refine M4 ?_; refine SR ?_) | (refine M5 ?_; first | exact M7 | refine YM ?_ | refine YN ?_ ?_))
    refine XE.retg tok Try.results21 rfl (by simp only [and_self, and_true]) (fun w' S => ?_)
    rw [decide_eq_true he]
    exact ⟨rfl, S.toBelow⟩
  have hkn : k < es.length := by have := of_decide_eq_true h2; omega
  have hkf : k < fs.length := by omega
  obtain ⟨ap, rfl, hlp⟩ := hp.addr (by decide) (by omega)
  obtain ⟨aq, rfl, hlq⟩ := hq.addr (by decide) (by omega)
  have c1 := hp.elem (List.getElem?_eq_getElem hkn) 0 (svV es[k].1) rfl
  have c2 := hq.elem (List.getElem?_eq_getElem hkf) 0 (svV fs[k].1) rfl
  rw [add_add, Nat.add_zero] at c1 c2
  have i1 : ListAt boolK w (Lt w.heap.size) es[k].1 es[k].2 := hp.ins es[k] (List.getElem_mem hkn) (hList boolK es[k].1 es[k].2) (.head _)
  have i2 : ListAt boolK w (Lt w.heap.size) fs[k].1 fs[k].2 := hq.ins fs[k] (List.getElem_mem hkf) (hList boolK fs[k].1 fs[k].2) (.head _)
  have g1 : (es.map (·.2))[k]? = some es[k].2 := by simp [hkn]
  have g2 : (fs.map (·.2))[k]? = some fs[k].2 := by simp [hkf]
  obtain ⟨⟨p1, l1⟩, h1e⟩ : ∃ z, z = es[k] := ⟨_, rfl⟩
  obtain ⟨⟨q1, m1⟩, h1f⟩ : ∃ z, z = fs[k] := ⟨_, rfl⟩
  rw [← h1e] at c1 i1 g1
  rw [← h1f] at c2 i2 g2
  simp only at c1 c2 i1 i2 g1 g2
  have c1' : w.cell? (ap.add (k * 1)) = some (svV p1) := c1
  have c2' : w.cell? (aq.add (k * 1)) = some (svV q1) := c2
  have hcall := fun {L : Lo} (w5 : World) (S5 : Sys w.heap.size w L w5) => Bools_any (i1.arg S5) (i2.arg S5)
  simp only [svV] at c1' c2' hcall
  repeat (first | (refine M0 ?_; first | refine SL ?_ | refine SB fun _ _ => ?_ | refine Y4 (Ev.load_old tok rfl rfl (add_lt hlp) c1') ?_ | refine Y4 (Ev.load_old tok rfl rfl (add_lt hlq) c2') ?_ | refine Y4 (Ev.call (f := 14) (ck rfl) rfl (fun w5 S5 => hcall w5 S5)) ?_) | (refine M1 ?_; first | refine SC ?_ | refine SD ?_) | (refine M2 ?_; refine SE ?_) | (refine M3 ?_; first | refine SG ?_ | refine SF ?_ | refine YF (Ev.load_old tok rfl rfl (add_lt hlp) c1') ?_ | refine YF (Ev.load_old tok rfl rfl (add_lt hlq) c2') ?_ | refine YF (Ev.call (f := 14) (ck rfl) rfl (fun w5 S5 => hcall w5 S5)) ?_) | (refine M4 ?_; refine SR ?_) | (refine M5 ?_; first | exact M7 | refine YM ?_ | refine YN ?_ ?_))
  refine XC.cond _ rfl (fun h3 => ?_) (fun h3 => ?_)
  · have hne : es.map (·.2) ≠ fs.map (·.2) := fun e => by
      rw [e, g2] at g1
      simp only [Option.some.injEq] at g1
      simp [g1] at h3
    repeat (first | (refine M0 ?_; first | refine SL ?_ | refine SB fun _ _ => ?_) | (refine M1 ?_; first | refine SC ?_ | refine SD ?_) | (refine M2 ?_; refine SE ?_) | (refine M3 ?_; first | refine SG ?_ | refine SF ?_) | (refine M4 ?_; refine SR ?_) | (refine M5 ?_; first | exact M7 | refine YM ?_ | refine YN ?_ ?_))
    refine XE.retg tok Try.results21 rfl (by simp only [and_self, and_true]) (fun w' S => ?_)
    rw [decide_eq_false hne]
    exact ⟨rfl, S.toBelow⟩
  · repeat (first | (refine M0 ?_; first | refine SL ?_ | refine SB fun _ _ => ?_) | (refine M1 ?_; first | refine SC ?_ | refine SD ?_) | (refine M2 ?_; refine SE ?_) | (refine M3 ?_; first | refine SG ?_ | refine SF ?_) | (refine M4 ?_; refine SR ?_) | (refine M5 ?_; first | exact M7 | refine YM ?_ | refine YN ?_ ?_))
    refine XE.round (s := k) (k + 1) ⟨hkn, fun j hj => ?_⟩ (by omega) ZZSUB (fun _ h => h)
    by_cases e : j = k
    · rw [e, g1, g2]; congr 1; simpa using h3
    · exact h0 j (by omega)
/-! ### the example -/
def PlanV (p : Plan) (x : Value) (new : List Held) : Prop := ∃ q : SV, x = svV q ∧ new = [hPlan q p]
theorem Plan_made {a b c d : Bool} {w : World} : Calls Try.prog 16 #[.bool a, .bool b, .bool c, .bool d] w (Made w (PlanV [[a, b], [c, d]])) := by
  refine enter Try.func16 rfl Try.ntmps16 rfl ?_; simp only [frame, Nat.zero_add, Nat.reduceAdd]
  repeat (first | (refine M0 ?_; first | refine SL ?_ | refine SB fun _ _ => ?_ | refine XL.buildSlice tok rfl rfl rfl rfl rfl rfl rfl rfl rfl (fun _ _ => ?_)) | (refine M1 ?_; first | refine SC ?_ | refine SD ?_) | (refine M2 ?_; refine SE ?_) | (refine M3 ?_; first | refine SG ?_ | refine SF ?_) | (refine M4 ?_; refine SR ?_) | (refine M5 ?_; first | exact M7 | refine YM ?_ | refine YN ?_ ?_))
  rename_i g1 hg1 g2 hg2 g3 hg3
  refine XE.retg tok Try.results16 rfl (by simp only [and_self, and_true]) (fun w' S => ?_)
  refine ⟨_, _, rfl, ⟨⟨some ⟨g3, 0, none⟩, 2, 2⟩, rfl, rfl⟩, fun x hx => ?_, S.toBelow⟩
  rw [List.mem_singleton.1 hx]
  have h1 := (S.own (g1, _) (.tail _ (.tail _ (.head _)))).2
  have h2 := (S.own (g2, _) (.tail _ (.head _))).2
  have h3 := (S.own (g3, _) (.head _)).2
  refine ⟨[(⟨some ⟨g1, 0, none⟩, 2, 2⟩, [a, b]), (⟨some ⟨g2, 0, none⟩, 2, 2⟩, [c, d])], ⟨ReadsP.block h3 hg3 rfl, Nat.le_of_ble_eq_true rfl, fun x hx h hh => ?_⟩, rfl⟩
  rcases List.mem_cons.1 hx with rfl | hx
  · rw [List.mem_singleton.1 hh]
    exact boolsAt (l := [a, b]) h1 hg1 rfl (by decide)
  · rw [List.mem_singleton.1 hx] at hh
    rw [List.mem_singleton.1 hh]
    exact boolsAt (l := [c, d]) h2 hg2 rfl (by decide)
/-- blocks as they stand. -/
def hBlk (bs : Lo) : Held := ⟨fun w ok => ∀ e, e ∈ bs → ok e.1 ∧ w.heap[e.1]? = some e.2, fun h hk e he => ⟨(h e he).1, (hk _ (h e he).1).trans (h e he).2⟩, fun h hk e he => ⟨hk _ (h e he).1, (h e he).2⟩⟩
def rxRows : List Value := [.int .i64 (-1000), .int .i64 0, .int .i64 0, .int .i64 1000000, .int .i64 2000, .int .i64 5000000]
def BasinV (x : Value) (new : List Held) : Prop := ∃ g1 g2 : Nat, x = .agg ⟨[.slice (some ⟨g1, 0, none⟩) 3 3, .int .i64 100, .int .i64 3000, .int .i64 500, .slice (some ⟨g2, 0, none⟩) 2 2]⟩ ∧ new = [hBlk [(g1, cel 46 rxRows)]]
theorem Basin7_made {w : World} : Calls Try.prog 30 #[] w (Made w BasinV) := by
  refine enter Try.func30 rfl Try.ntmps30 rfl ?_; simp only [frame, Nat.zero_add, Nat.reduceAdd]
  repeat (first | (refine M0 ?_; first | refine SL ?_ | refine SB fun _ _ => ?_ | refine XL.buildSlice tok rfl rfl rfl rfl rfl rfl rfl rfl rfl (fun _ _ => ?_)) | (refine M1 ?_; first | refine SC ?_ | refine SD ?_) | (refine M2 ?_; refine SE ?_) | (refine M3 ?_; first | refine SG ?_ | refine SF ?_) | (refine M4 ?_; refine SR ?_) | (refine M5 ?_; first | exact M7 | refine YM ?_ | refine YN ?_ ?_))
  rename_i g0 hg0 g1 hg1 g2 hg2
  refine XE.retg tok Try.results30 rfl (by simp only [and_self, and_true]) (fun w' S => ?_)
  refine ⟨_, _, rfl, ⟨g1, g2, rfl, rfl⟩, fun x hx => ?_, S.toBelow⟩
  rw [List.mem_singleton.1 hx]
  intro e he
  rw [List.mem_singleton.1 he]
  exact ⟨⟨hg1, S.lt (e := (g1, _)) (.tail _ (.head _))⟩, (S.own (g1, _) (.tail _ (.head _))).2⟩
def tskBlk (gr go gi gp gs gu gn : Nat) : Lo := [(gr, cel 46 rxRows), (go, cel 3 [.int .i64 (-500), .int .i64 500]), (gi, cel 3 [.int .i64 60000, .int .i64 60000]), (gp, cel 3 [.int .i64 1, .int .i64 2]),
  (gs, cel 93 [.string ⟨#[108, 111, 99, 107]⟩, .int .i64 100, .int .i64 10]), (gu, cel 35 [.string ⟨#[109, 105, 108, 108]⟩, .int .i64 40000, .int .i64 5, .int .i64 1, .int .i64 7]), (gn, cel 4 [.bool false, .bool false])]
def tskRV (gr go gi gp gs gu gn : Nat) : RTV := ⟨⟨some ⟨gr, 0, none⟩, 3, 3, none, 0, 0⟩, ⟨none, 0, 0⟩, ⟨some ⟨go, 0, none⟩, 2, 2⟩, ⟨some ⟨gi, 0, none⟩, 2, 2⟩, ⟨some ⟨gp, 0, none⟩, 2, 2⟩, ⟨some ⟨gs, 0, none⟩, 1, 1⟩, ⟨some ⟨gu, 0, none⟩, 1, 1⟩, ⟨some ⟨gn, 0, none⟩, 2, 2⟩⟩
theorem tsk_of {gr go gi gp gs gu gn : Nat} {w : World} {ok : Nat → Prop} (h : (hBlk (tskBlk gr go gi gp gs gu gn)).p w ok) : TskAt w w.heap.size (tskRV gr go gi gp gs gu gn) rxT := by
  have b1 := (h (gr, _) (.head _)).2
  have b2 := (h (go, _) (.tail _ (.head _))).2
  have b3 := (h (gi, _) (.tail _ (.tail _ (.head _)))).2
  have b4 := (h (gp, _) (.tail _ (.tail _ (.tail _ (.head _))))).2
  have b5 := (h (gs, _) (.tail _ (.tail _ (.tail _ (.tail _ (.head _)))))).2
  have b6 := (h (gu, _) (.tail _ (.tail _ (.tail _ (.tail _ (.tail _ (.head _))))))).2
  have b7 := (h (gn, _) (.tail _ (.tail _ (.tail _ (.tail _ (.tail _ (.tail _ (.head _)))))))).2
  refine ⟨⟨((ReadsP.block b1 (Nat.zero_le _) rfl).mono fun j hj => hj.2).to, ReadsP.nil.to, Nat.le_of_ble_eq_true rfl, Nat.le_of_ble_eq_true rfl, Nat.le_of_ble_eq_true rfl, fun q hq => by cases hq⟩, IntsAt.nil, ⟨(ReadsP.block b2 (Nat.zero_le _) rfl).mono fun j hj => hj.2, Nat.le_of_ble_eq_true rfl⟩, ⟨(ReadsP.block b3 (Nat.zero_le _) rfl).mono fun j hj => hj.2, Nat.le_of_ble_eq_true rfl⟩, ⟨(ReadsP.block b4 (Nat.zero_le _) rfl).mono fun j hj => hj.2, Nat.le_of_ble_eq_true rfl⟩,
    ⟨(ReadsP.block b5 (Nat.zero_le _) rfl).mono fun j hj => hj.2, Nat.le_of_ble_eq_true rfl, fun a ha x hx => by cases hx⟩, ⟨(ReadsP.block b6 (Nat.zero_le _) rfl).mono fun j hj => hj.2, Nat.le_of_ble_eq_true rfl, fun a ha x hx => by cases hx⟩, ⟨(ReadsP.block b7 (Nat.zero_le _) rfl).mono fun j hj => hj.2, Nat.le_of_ble_eq_true rfl, fun a ha x hx => by cases hx⟩, fun d hd => ?_⟩
  rcases List.mem_cons.1 hd with rfl | hd
  · decide
  · rw [List.mem_singleton.1 hd]; decide
def TaskV (x : Value) (new : List Held) : Prop := ∃ gr go gi gp gs gu gn : Nat, x = tskV (tskRV gr go gi gp gs gu gn) rxT ∧ new = [hBlk (tskBlk gr go gi gp gs gu gn)]
set_option maxHeartbeats 4000000 in
theorem Task_made {w : World} : Calls Try.prog 9 #[] w (Made w TaskV) := by
  refine enter Try.func9 rfl Try.ntmps9 rfl ?_; simp only [frame, Nat.zero_add, Nat.reduceAdd]
  repeat (first | (refine M0 ?_; first | refine SL ?_ | refine SB fun _ _ => ?_) | (refine M1 ?_; refine SC ?_) | (refine M2 ?_; refine SE ?_))
  rename_i g0 hg0
  refine XL.rebase (List.Sublist.refl _) (fun W0 S0 => ?_)
  refine XL.callF (ks := [g0]) (rs := []) (hs := []) (b0 := w.heap.size) (wE := w) BasinV (ck rfl) rfl rfl (Fam.start S0.size) (fun k hk => S0.keyLt k hk) S0.toBelow (fun w1 S1 _ hB1 => Basin7_made) (fun w2 x new hR hF2 hB2 hk2 => ?_) ZZHL
  obtain ⟨gr, gq, rfl, rfl⟩ := hR
  repeat (first | (refine M0 ?_; first | refine SL ?_ | refine SB fun _ _ => ?_ | refine XL.buildSlice tok rfl rfl rfl rfl rfl rfl rfl rfl rfl (fun _ _ => ?_)) | (refine M1 ?_; refine SC ?_) | (refine M2 ?_; refine SE ?_))
  rename_i g1 hg1 go hgo gi hgi gp hgp gs hgs gu hgu gn hgn
  refine XE.retg tok Try.results9 rfl (by simp only [and_self, and_true]) (fun w' S => ?_)
  have hF9 := hF2.sys S ZZHL
  have hl := hF9.get (x := hBlk [(gr, cel 46 rxRows)]) (.head _) (gr, _) (.head _)
  have hw : w.heap.size ≤ w2.heap.size := hB2.size
  refine ⟨_, _, rfl, ⟨gr, go, gi, gp, gs, gu, gn, rfl, rfl⟩, fun x hx => ?_, hB2.trans S.toBelow⟩
  rw [List.mem_singleton.1 hx]
  intro e he
  have hin : ∀ {o : Obj} {q : Nat}, (q, o) ∈ [(gn, cel 4 [.bool false, .bool false]), (gu, cel 35 [.string ⟨#[109, 105, 108, 108]⟩, .int .i64 40000, .int .i64 5, .int .i64 1, .int .i64 7]), (gs, cel 93 [.string ⟨#[108, 111, 99, 107]⟩, .int .i64 100, .int .i64 10]), (gp, cel 3 [.int .i64 1, .int .i64 2]), (gi, cel 3 [.int .i64 60000, .int .i64 60000]), (go, cel 3 [.int .i64 (-500), .int .i64 500])] → Btw w.heap.size w'.heap.size q ∧ w'.heap[q]? = some o := fun {o q} h => ⟨⟨(S.own _ (List.mem_append_left _ h)).1, S.lt (e := (q, o)) (List.mem_append_left _ h)⟩, (S.own (q, o) (List.mem_append_left _ h)).2⟩
  simp only [tskBlk] at he
  rcases List.mem_cons.1 he with rfl | he
  · exact hl
  rcases List.mem_cons.1 he with rfl | he
  · exact hin (by simp)
  rcases List.mem_cons.1 he with rfl | he
  · exact hin (by simp)
  rcases List.mem_cons.1 he with rfl | he
  · exact hin (by simp)
  rcases List.mem_cons.1 he with rfl | he
  · exact hin (by simp)
  rcases List.mem_cons.1 he with rfl | he
  · exact hin (by simp)
  · rw [List.mem_singleton.1 he]
    exact hin (by simp)
theorem rx_bst : bst rxT = some (12, [[false, true], [false, false]]) := by
  unfold bst
  rw [if_pos rx_e]
  exact rx_rest
theorem rx_bstE : bstE rxT = 0 := by
  unfold bstE
  rw [if_pos rx_e, show rxT.rest rxT.n rxT.s rxT.on = _ from rx_rest]
  rfl
theorem rx_costE : costE rxT [[false, false], [false, false]] = 172 := by
  unfold costE
  rw [if_neg (by simp [rx_e]), if_neg (by decide)]
  exact rx_flw
theorem rx_costN : costN rxT [[false, false], [false, false]] = 0 := by
  unfold costN
  rw [if_neg (by rw [rx_costE]; decide)]
set_option maxHeartbeats 4000000 in
theorem Awake7_any {w : World} : Calls Try.prog 7 #[] w fun e w' => e = .returned (.bool true) ∧ Below w.heap.size w w' := by
  refine enter Try.func7 rfl Try.ntmps7 rfl ?_; simp only [frame, Nat.zero_add, Nat.reduceAdd]
  repeat (first | (refine M0 ?_; first | refine SL ?_ | refine SB fun _ _ => ?_) | (refine M1 ?_; refine SC ?_) | (refine M2 ?_; refine SE ?_))
  refine XL.callF (ks := []) (rs := []) (hs := []) (b0 := w.heap.size) (wE := w) TaskV (ck rfl) rfl rfl (Fam.start (Nat.le_refl _)) (fun k hk => by cases hk) (Below.refl _ _) (fun w1 S1 _ hB1 => Task_made) (fun w2 x new hR hF2 hB2 hk2 => ?_) (fun e he => by cases he)
  obtain ⟨gr, go, gi, gp, gs, gu, gn, rfl, rfl⟩ := hR
  repeat (first | (refine M0 ?_; first | refine SL ?_ | refine SB fun _ _ => ?_) | (refine M1 ?_; refine SC ?_) | (refine M2 ?_; refine SE ?_))
  refine XL.callF (wE := w) (BestV rxT) (ck rfl) rfl rfl hF2 hk2 hB2 (fun w1 S1 hF1 hB1 => Best_made (tsk_of (hF1.held (hBlk _) (.head _))) (by decide)) (fun w3 x new hR hF3 hB3 hk3 => ?_) (fun e he => by cases he)
  obtain ⟨q, rfl, rfl⟩ := hR
  rw [rx_bst, rx_bstE]
  simp only [fdC, Option.map_some, Option.getD_some]
  repeat (first | (refine M0 ?_; first | refine SL ?_ | refine SB fun _ _ => ?_) | (refine M1 ?_; refine SC ?_) | (refine M2 ?_; refine SE ?_))
  refine XL.callF (wE := w) TaskV (ck rfl) rfl rfl hF3 hk3 hB3 (fun w1 S1 _ hB1 => Task_made) (fun w4 x new hR hF4 hB4 hk4 => ?_) (fun e he => by cases he)
  obtain ⟨hr, ho, hi, hp, hs, hu, hn, rfl, rfl⟩ := hR
  repeat (first | (refine M0 ?_; first | refine SL ?_ | refine SB fun _ _ => ?_) | (refine M1 ?_; refine SC ?_) | (refine M2 ?_; refine SE ?_))
  refine XL.callF (wE := w) (PlanV [[false, false], [false, false]]) (ck rfl) rfl rfl hF4 hk4 hB4 (fun w1 S1 _ hB1 => Plan_made) (fun w5 x new hR hF5 hB5 hk5 => ?_) (fun e he => by cases he)
  obtain ⟨q2, rfl, rfl⟩ := hR
  have hcost : ∀ {L : Lo} (w6 : World), Sys w.heap.size w5 L w6 → (∀ e, e ∈ L → e.1 ∈ ([] : List Nat) ∨ w5.heap.size ≤ e.1) → Calls Try.prog 17 #[tskV (tskRV hr ho hi hp hs hu hn) rxT, svV q2] w6 fun e w' => e = .returned (.tuple ⟨[.int .i64 0, .int .i64 172]⟩) ∧ Below w6.heap.size w6 w' := fun {L} w6 S6 hL => by
    have F6 := (hF5.add (ks' := []) (fun k hk => by cases hk)).sys S6 hL
    obtain ⟨es, h1, h2⟩ : PlanAt w6 _ q2 [[false, false], [false, false]] := F6.held (hPlan q2 [[false, false], [false, false]]) (.head _)
    have h3 := Cost_any (w := w6) (tsk_of (F6.held (hBlk (tskBlk hr ho hi hp hs hu hn)) (.tail _ (.head _)))) (by decide) (h1.mono fun j hj => hj.2.1) h2
    rw [rx_costE, rx_costN] at h3
    exact h3
  repeat (first | (refine M0 ?_; first | refine SL ?_ | refine SB fun _ _ => ?_ | refine Y4 (Ev.call (f := 17) (ck rfl) rfl (fun w6 S6 => hcost w6 S6 (fun e he => by cases he))) ?_) | (refine M1 ?_; refine SC ?_) | (refine M2 ?_; refine SE ?_))
  refine XL.callF (wE := w) (PlanV [[false, true], [false, false]]) (ck rfl) rfl rfl hF5 hk5 hB5 (fun w1 S1 _ hB1 => Plan_made) (fun w7 x new hR hF7 hB7 hk7 => ?_) (fun e he => by cases he)
  obtain ⟨q3, rfl, rfl⟩ := hR
  have hsame : ∀ {L : Lo} (w8 : World), Sys w.heap.size w7 L w8 → (∀ e, e ∈ L → e.1 ∈ ([] : List Nat) ∨ w7.heap.size ≤ e.1) → Calls Try.prog 21 #[svV q, svV q3] w8 fun e w' => e = .returned (.bool true) ∧ Below w8.heap.size w8 w' := fun {L} w8 S8 hL => by
    have F8 := (hF7.add (ks' := []) (fun k hk => by cases hk)).sys S8 hL
    obtain ⟨es, h1, h2⟩ : PlanAt w8 _ q3 [[false, true], [false, false]] := F8.held (hPlan q3 [[false, true], [false, false]]) (.head _)
    obtain ⟨fs, h3, h4⟩ : PlanAt w8 _ q (fdP (bst rxT)) := F8.held (hPlan q (fdP (bst rxT))) (by simp)
    have h5 := SamePlan_any (w := w8) (p := q) (q := q3) (h3.mono fun j hj => hj.2.1) (h1.mono fun j hj => hj.2.1)
    rw [h2, h4, rx_bst, show decide (fdP (some (12, [[false, true], [false, false]])) = [[false, true], [false, false]]) = true from rfl] at h5
    exact h5
  repeat (first | (refine M0 ?_; first | refine SL ?_ | refine SB fun _ _ => ?_ | refine Y4 (Ev.call (f := 21) (ck rfl) rfl (fun w8 S8 => hsame w8 S8 (fun e he => by cases he))) ?_) | (refine M1 ?_; refine SC ?_) | (refine M2 ?_; refine SE ?_))
  refine XE.retg tok Try.results7 rfl (by simp only [and_self, and_true]) (fun w' S => ?_)
  exact ⟨rfl, hB7.trans S.toBelow⟩
end Go.Proofs.Ytlfjdbilblfknaa.X
/-
  The walks of the document's Check (runoff).
-/
namespace Go.Proofs.Ytlfjdbilblfknaa.X
open Go Go.RowKit Go.Proofs.Ytlfjdbilblfknaa.Bs
set_option linter.unusedVariables false
def strK : Kind ByteArray := ⟨9, 1, fun s => [.string s], fun _ => [], fun _ => rfl⟩
def RTk.names (t : RTk) : List ByteArray := t.devs.map Dev.name
end Go.Proofs.Ytlfjdbilblfknaa.X
/-
  What is great; the law RunoffBest, walked.
-/
namespace Go.Proofs.Ytlfjdbilblfknaa.Bs
open Go.Proofs.Ytlfjdbilblfknaa.X
set_option linter.unusedVariables false
section
variable {t : RTk}
theorem bst_none (h0 : rtE t = 0) (h : t.rest t.n t.s t.on = none) : bst t = none ∧ bstE t = 9 := by
  refine ⟨?_, ?_⟩
  · unfold bst; rw [if_pos h0, h]
  · unfold bstE; rw [if_pos h0, h]; rfl
theorem bst_some (h0 : rtE t = 0) {x : Int × Plan} (h : t.rest t.n t.s t.on = some x) : bst t = some x ∧ bstE t = 0 := by
  refine ⟨?_, ?_⟩
  · unfold bst; rw [if_pos h0, h]
  · unfold bstE; rw [if_pos h0, h]; rfl
theorem bst_err (h0 : rtE t ≠ 0) : bst t = none ∧ bstE t = rtE t := by
  refine ⟨?_, ?_⟩
  · unfold bst; rw [if_neg h0]
  · unfold bstE; rw [if_neg h0]
end
def greatB (t : RTk) : Bool := decide (9 < (t.slu.length + t.pmp.length) * t.outer.length) && (decide (t.slu.length + t.pmp.length ≤ 4) && decide (t.outer.length ≤ 6))
end Go.Proofs.Ytlfjdbilblfknaa.Bs
namespace Go.Proofs.Ytlfjdbilblfknaa.X
open Go Go.RowKit Go.Proofs.Ytlfjdbilblfknaa.Bs
set_option linter.unusedVariables false
set_option maxHeartbeats 4000000 in
theorem Great_any {v : RTV} {t : RTk} {w : World} (ht : TskAt w w.heap.size v t) (hn : t.slu.length + t.pmp.length ≤ 5000000) (hno : t.outer.length ≤ 5000000) :
    Calls Try.prog 6 #[tskV v t] w fun e w' => e = .returned (.bool (greatB t)) ∧ Below w.heap.size w w' := by
  have l1 := ht.outer.len
  have l2 := ht.slu.len (by decide)
  have l3 := ht.pmp.len (by decide)
  obtain ⟨p, q, ⟨Ao, no, co⟩, r, c, ⟨As, ns, cs⟩, ⟨Ap, np, cp⟩, on⟩ := v
  simp only at l1 l2 l3
  subst l1 l2 l3
  have hm := mul_bd (X := 5000000) (Y := 5000000) (x := (t.slu.length : Int) + t.pmp.length) (y := t.outer.length) (by omega) (by omega)
  have hc : (((t.slu.length + t.pmp.length) * t.outer.length : Nat) : Int) = ((t.slu.length : Int) + t.pmp.length) * t.outer.length := by rw [Int.natCast_mul, Int.natCast_add]
  have hg : greatB t = (decide (9 < ((t.slu.length : Int) + t.pmp.length) * t.outer.length) && (decide ((t.slu.length : Int) + t.pmp.length ≤ 4) && decide ((t.outer.length : Int) ≤ 6))) := by
    unfold greatB
    rw [← hc]
    congr 1
    · simp only [decide_eq_decide]; omega
    · congr 1 <;> (simp only [decide_eq_decide]; omega)
  rw [hg]
  simp only [tskV, tskC]
  obtain ⟨M, hM⟩ : ∃ M, M = ((t.slu.length : Int) + t.pmp.length) * t.outer.length := ⟨_, rfl⟩
  refine enter Try.func6 rfl Try.ntmps6 rfl ?_; simp only [frame, Nat.zero_add, Nat.reduceAdd]
  repeat (first | (refine M0 ?_; first | refine SL ?_ | refine SB fun _ _ => ?_) | (refine M1 ?_; refine SC ?_) | (refine M2 ?_; refine SE ?_))
  rw [← hM]
  by_cases a1 : 9 < M
  · rw [decide_eq_true a1]
    repeat (first | (refine M0 ?_; first | refine SL ?_ | refine SB fun _ _ => ?_) | (refine M1 ?_; refine SC ?_) | (refine M2 ?_; refine SE ?_))
    by_cases a2 : (t.slu.length : Int) + t.pmp.length ≤ 4
    · rw [decide_eq_true a2]
      repeat (first | (refine M0 ?_; first | refine SL ?_ | refine SB fun _ _ => ?_) | (refine M1 ?_; refine SC ?_) | (refine M2 ?_; refine SE ?_))
      refine XE.retg tok Try.results6 rfl (by simp only [and_self, and_true]) (fun w' S => ?_)
      exact ⟨rfl, S.toBelow⟩
    · rw [decide_eq_false a2]
      repeat (first | (refine M0 ?_; first | refine SL ?_ | refine SB fun _ _ => ?_) | (refine M1 ?_; refine SC ?_) | (refine M2 ?_; refine SE ?_))
      refine XE.retg tok Try.results6 rfl (by simp only [and_self, and_true]) (fun w' S => ?_)
      exact ⟨rfl, S.toBelow⟩
  · rw [decide_eq_false a1]
    repeat (first | (refine M0 ?_; first | refine SL ?_ | refine SB fun _ _ => ?_) | (refine M1 ?_; refine SC ?_) | (refine M2 ?_; refine SE ?_))
    refine XE.retg tok Try.results6 rfl (by simp only [and_self, and_true]) (fun w' S => ?_)
    exact ⟨rfl, S.toBelow⟩
end Go.Proofs.Ytlfjdbilblfknaa.X
/-
  The walks of both Windows, and the law (runoff).
-/
namespace Go.Proofs.Ytlfjdbilblfknaa.Bs
open Go.Proofs.Ytlfjdbilblfknaa.X
structure Spn where
  lo : Int
  hi : Int
def spn (l : List Spn) (k : Nat) : Spn := l[k]?.getD ⟨0, 0⟩
/-- of the first k spans those whose Lo, whose Hi is below the level. -/
def winP (lv : Int) (l : List Spn) : Nat → List Int
  | 0 => []
  | k + 1 => if (spn l k).lo < lv then winP lv l k ++ [(k : Int)] else winP lv l k
def winS (lv : Int) (l : List Spn) : Nat → List Int
  | 0 => []
  | k + 1 => if (spn l k).hi < lv then winS lv l k ++ [(k : Int)] else winS lv l k
def spnBad (l : List Spn) : Bool := l.any fun x => decide (x.hi < x.lo)
def winE (lv : Int) (l : List Spn) : Int := if 400 < l.length then 3 else if spnBad l = true then 2 else if outB lv (-20000) 20000 = true then 7 else 0
end Go.Proofs.Ytlfjdbilblfknaa.Bs
namespace Go.Proofs.Ytlfjdbilblfknaa.X
open Go Go.RowKit Go.Proofs.Ytlfjdbilblfknaa.Bs
set_option linter.unusedVariables false
def spnC (x : Spn) : List Value := [.int .i64 x.lo, .int .i64 x.hi]
def spnV (x : Spn) : Value := .agg ⟨spnC x⟩
def spnK : Kind Spn := ⟨54, 2, spnC, fun _ => [], fun _ => rfl⟩
def winK : Kind Int := ⟨3, 1, fun n => [.int .i64 n], fun _ => [], fun _ => rfl⟩
theorem win_flat (l : List Int) : l.flatMap winK.c = ints l := by
  unfold ints
  induction l with
  | nil => rfl
  | cons a l ih => rw [List.flatMap_cons, ih]; rfl
theorem winInts {W : World} {ok : Nat → Prop} {r : SV} {l : List Int} (h : ListAt winK W ok r l) : IntsAt W ok r l := ⟨by have := h.rd; rw [win_flat] at this; exact this, h.max⟩
def WinV (lv : Int) (l : List Spn) (x : Value) (new : List Held) : Prop := ∃ q1 q2 : SV, x = .tuple ⟨[svV q1, svV q2, .int .i64 (winE lv l)]⟩ ∧ new = [hInts q1 (if winE lv l = 0 then winS lv l l.length else []), hInts q2 (if winE lv l = 0 then winP lv l l.length else [])]
/-- how far the windows were told. -/
structure WSt where
  k : Nat
  W : World
  q1 : SV
  q2 : SV
structure WInv (w : World) (lv : Int) (l : List Spn) (z : WSt) : Prop where
  le : z.k ≤ l.length
  bel : Below w.heap.size w z.W
  fam : Fam z.W w.heap.size [] [⟨Int, winK, svV z.q1, winS lv l z.k⟩, ⟨Int, winK, svV z.q2, winP lv l z.k⟩] []
end Go.Proofs.Ytlfjdbilblfknaa.X
/-
  The walks of Do and Least (runoff).
-/
namespace Go.Proofs.Ytlfjdbilblfknaa.Bs
open Go.Proofs.Ytlfjdbilblfknaa.X
/-- the least costs along a plan. -/
noncomputable def RTk.lst (t : RTk) : Nat → Sta → List Bool → Plan → List Int
  | _, _, _, [] => [0]
  | i, s, b, on :: r => fdC (t.rest (t.n - i) s b) :: RTk.lst t (i + 1) (t.doD s i b on).s on r
noncomputable def lstL (t : RTk) (p : Plan) : List Int := if costE t p = 0 then t.lst 0 t.s t.on p else []
noncomputable def folL (t : RTk) (p : Plan) : List Done := if folE t p = 0 then (t.flw 0 t.s t.on p).1 else []
noncomputable def folF (t : RTk) (p : Plan) : Int := if folE t p = 0 then (t.flw 0 t.s t.on p).2 else 0
end Go.Proofs.Ytlfjdbilblfknaa.Bs
namespace Go.Proofs.Ytlfjdbilblfknaa.X
open Go Go.RowKit Go.Proofs.Ytlfjdbilblfknaa.Bs
set_option linter.unusedVariables false
def DoV2 (t : RTk) (p : Plan) (x : Value) (new : List Held) : Prop := ∃ (q : SV) (ds : List (SV × Done)), x = .tuple ⟨[svV q, .int .i64 (folF t p), .int .i64 (folE t p)]⟩ ∧ ds.map (·.2) = folL t p ∧ new = [hList donK q ds]
section
variable {w : World} {ok : Nat → Prop} {gm : Nat} {kvs : List (Value × Value)}
end
/-- the planner, behind calls that changed what is known. -/
def hPA (g gt gm : Nat) (v : RTV) (r : SV) (t : RTk) : Held := ⟨fun w ok => PlnAt w ok g gt gm v r t, fun h hk => h.keep hk, fun h hk => h.mono hk⟩
/-- what is known, behind gm. -/
def hMemG (gm : Nat) (t : RTk) (kvs : List (Value × Value)) : Held := ⟨fun w ok => (hMem t kvs).p w (fun j => gm ≤ j ∧ ok j), fun h hk => (hMem t kvs).keep h fun k hj => hk k hj.2, fun h hk => (hMem t kvs).mono h fun k hj => ⟨hj.1, hk k hj.2⟩⟩
structure LsSt where
  k : Nat
  W : World
  rl : SV
  sq : SV
  bq : SV
  s : Sta
  b : List Bool
  l : List Int
  kvs : List (Value × Value)
structure LsInv (w : World) (v : RTV) (t : RTk) (p : Plan) (ks : List Nat) (g gt gm : Nat) (r q : SV) (ds : List (SV × Done)) (z : LsSt) : Prop where
  le : z.k ≤ p.length
  bel : Below w.heap.size w z.W
  fam : Fam z.W w.heap.size ks [⟨Int, winK, svV z.rl, z.l⟩] [hMix w z.sq z.s.fil, hPA g gt gm v r t, hList donK q ds, hMemG gm t z.kvs]
  lt : ∀ x, x ∈ ks → x < z.W.heap.size
  keys : KeysOk Try.prog 110 z.kvs
  bef : ListAt boolK w (Lt w.heap.size) z.bq z.b
  bl : z.b.length = t.m
  sta : StaOk t.b z.s
  one : t.flw z.k z.s z.b (p.drop z.k) = ((ds.map (·.2)).drop z.k, 0)
  lst : z.l ++ t.lst z.k z.s z.b (p.drop z.k) = t.lst 0 t.s t.on p
  len : z.l.length = z.k
def LstV (t : RTk) (p : Plan) (x : Value) (new : List Held) : Prop := ∃ q : SV, x = .tuple ⟨[svV q, .int .i64 (costE t p)]⟩ ∧ new = [hInts q (lstL t p)]
end Go.Proofs.Ytlfjdbilblfknaa.X
