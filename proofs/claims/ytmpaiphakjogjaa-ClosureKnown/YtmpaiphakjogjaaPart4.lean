/-
  The walks of above and fails (closure).
-/
import Derived.Test.YtmpaiphakjogjaaPart3
import Derived.Test.YtmpaiphakjogjaaPart2
set_option linter.unusedVariables false
set_option linter.unusedSimpArgs false
namespace Go.Proofs.Ytmpaiphakjogjaa.X
open Go Go.RowKit Go.Proofs.Ytmpaiphakjogjaa.Bs
set_option linter.unusedVariables false
def BoolR (b : Bool) (x : Value) (new : List Held) : Prop := x = .bool b ∧ new = []
def IntR (n : Int) (x : Value) (new : List Held) : Prop := x = .int .i64 n ∧ new = []
set_option maxHeartbeats 8000000 in
theorem cabove_any {t : CTk} {v : CTV} {b0 g gm k i : Nat} {p : CPl} {ks : List Nat} {w : World} (hG : Gam t v b0 g gm ks [] [] w) (ho : CtOk t) (hk : k < t.m) (hi : i < t.n) (hp : t.strange p = false) :
    Calls Try.prog 88 #[.pointer (some ⟨g, 0, none⟩), .int .i64 (k : Nat), plnV p, .int .i64 (i : Nat)] w (GamR t b0 gm ks (BoolR (t.above k p i)) w) := by
  have hgs := hG.gin
  have hgg : g ∈ [g] := .head _
  have hml := hG.lt gm (.head _)
  have hgm : w.heap[g]? = some (gamO v t gm) := hG.game
  have S0 := Sys.start1 hG.bg hgm
  have hin := fun (w5 : World) (ks2 : List Nat) (hG5 : Gam t v b0 g gm ks2 [] [] w5) => inside_any hG5 ho hk hi hp
  have hab : t.above k p i = match t.ins k p i with
    | none => true
    | some x => decide (t.limit < t.hi x) := rfl
  obtain ⟨vp, vf, vh, vr⟩ := v
  simp only [gamO, gamC] at S0
  simp only [plnV] at hin ⊢
  refine enterL Try.func88 rfl Try.ntmps88 rfl (S0) ?_; simp only [frame, Nat.zero_add, Nat.reduceAdd]
  refine XC.hint 0 0 ?_
  repeat (first | (refine M0 ?_; first | refine SL ?_ | refine SB fun _ _ => ?_) | (refine M1 ?_; refine SC ?_) | (refine M2 ?_; refine SE ?_))
  refine XL.callG (wE := w) (InsR t k p i) (ck rfl) rfl rfl hG Since.refl (.tail _ (.head _)) (fun w5 ks2 hG5 => hin w5 ks2 hG5) (fun w1 x new hR hG1 hS1 => ?_) ZZHM ZZHM
  obtain ⟨rfl, rfl⟩ := hR
  have hz := hS1.size
  cases hx : t.ins k p i with
  | none =>
    rw [hx] at hab
    simp only [spn5]
    repeat (first | (refine M0 ?_; first | refine SL ?_ | refine SB fun _ _ => ?_) | (refine M1 ?_; first | refine SC ?_ | refine SD ?_) | (refine M2 ?_; refine SE ?_) | (refine M3 ?_; first | refine SG ?_ | refine SF ?_) | (refine M4 ?_; refine SR ?_) | (refine M5 ?_; first | exact M7 | refine YM ?_ | refine YN ?_ ?_))
    refine XE.retg tok Try.results88 rfl (by simp only [and_self, and_true]) (fun w' S => ?_)
    exact GamR.end_ hG1 hml hS1 S (.tail _ (.tail _ (.head _))) ⟨by rw [hab]; rfl, rfl⟩ ZZHL ZZO2
  | some y =>
    rw [hx] at hab
    simp only [spn5]
    repeat (first | (refine M0 ?_; first | refine SL ?_ | refine SB fun _ _ => ?_) | (refine M1 ?_; first | refine SC ?_ | refine SD ?_) | (refine M2 ?_; refine SE ?_) | (refine M3 ?_; first | refine SG ?_ | refine SF ?_) | (refine M4 ?_; refine SR ?_) | (refine M5 ?_; first | exact M7 | refine YM ?_ | refine YN ?_ ?_))
    refine XE.retg tok Try.results88 rfl (by simp only [and_self, and_true]) (fun w' S => ?_)
    exact GamR.end_ hG1 hml hS1 S (.tail _ (.tail _ (.head _))) ⟨by rw [hab]; rfl, rfl⟩ ZZHL ZZO2
set_option maxHeartbeats 8000000 in
/-- the closure of fails. -/
theorem fails1_any {t : CTk} {v : CTV} {b0 g gm k i g3 g4 g5 : Nat} {z : Int} {p : CPl} {ks : List Nat} {w : World} (hG : Gam t v b0 g gm ks [] [] w) (ho : CtOk t) (hk : k < t.m) (hi : i < t.n) (hp : t.strange p = false)
    (h3 : w.heap[g3]? = some (cel 102 [.pointer (some ⟨g, 0, none⟩)])) (h4 : w.heap[g4]? = some (cel 3 [.int .i64 (k : Nat)])) (h5 : w.heap[g5]? = some (cel 36 [.int .i64 p.close, .int .i64 p.open_])) (hn3 : g3 ≠ g) (hn4 : g4 ≠ g) (hn5 : g5 ≠ g) :
    Calls Try.prog 87 #[.int .i64 (i : Nat), .int .i64 z, .pointer (some ⟨g3, 0, none⟩), .pointer (some ⟨g4, 0, none⟩), .pointer (some ⟨g5, 0, none⟩)] w (GamR t b0 gm ks (BoolR (t.above k p i)) w) := by
  have hgs := hG.gin
  have hgg : g ∈ [g] := .head _
  have hml := hG.lt gm (.head _)
  have hgm : w.heap[g]? = some (gamO v t gm) := hG.game
  have S0 := Sys.start1 hG.bg hgm
  have hin := fun (w5 : World) (ks2 : List Nat) (hG5 : Gam t v b0 g gm ks2 [] [] w5) => cabove_any hG5 ho hk hi hp
  have l3 := (Array.getElem?_eq_some_iff.1 h3).1
  have l4 := (Array.getElem?_eq_some_iff.1 h4).1
  have l5 := (Array.getElem?_eq_some_iff.1 h5).1
  have c3 : w.cell? ⟨g3, 0, none⟩ = some (.pointer (some ⟨g, 0, none⟩)) := by simp [World.cell?, h3]
  have c4 : w.cell? ⟨g4, 0, none⟩ = some (.int .i64 (k : Nat)) := by simp [World.cell?, h4]
  have c5 : ∀ (j : Nat) u, ([.int .i64 p.close, .int .i64 p.open_] : List Value)[j]? = some u → w.cell? ((⟨g5, 0, none⟩ : Addr).add j) = some u := fun j u hj => by
    rw [add_off]; simpa [World.cell?, h5] using hj
  obtain ⟨vp, vf, vh, vr⟩ := v
  simp only [gamO, gamC] at S0
  simp only [plnV] at hin
  refine enterL Try.func87 rfl Try.ntmps87 rfl (S0) ?_; simp only [frame, Nat.zero_add, Nat.reduceAdd]
  repeat (first | (refine M0 ?_; first | refine SL ?_ | refine SB fun _ _ => ?_ | refine Y4 (Ev.load_far tok rfl rfl l3 ZZNE c3) ?_ | refine Y4 (Ev.load_far tok rfl rfl l4 ZZNE c4) ?_ | refine Y4 (Ev.load_far_agg tok [.int .i64 p.close, .int .i64 p.open_] rfl rfl rfl l5 ZZNE c5) ?_) | (refine M1 ?_; refine SC ?_) | (refine M2 ?_; refine SE ?_))
  refine XL.callG (wE := w) (BoolR (t.above k p i)) (ck rfl) rfl rfl hG Since.refl (.head _) (fun w5 ks2 hG5 => hin w5 ks2 hG5) (fun w1 x new hR hG1 hS1 => ?_) ZZHM ZZHM
  obtain ⟨rfl, rfl⟩ := hR
  have hz := hS1.size
  repeat (first | (refine M0 ?_; first | refine SL ?_ | refine SB fun _ _ => ?_) | (refine M1 ?_; refine SC ?_) | (refine M2 ?_; refine SE ?_))
  refine XE.retg tok Try.results87 rfl (by simp only [and_self, and_true]) (fun w' S => ?_)
  exact GamR.end_ hG1 hml hS1 S (.head _) ⟨rfl, rfl⟩ ZZHL ZZO2
set_option maxHeartbeats 4000000 in
/-- where, whatever what is asked does. -/
theorem where_inv {f : FuncId} {cap : List Value} {P : Nat → Bool} {r : SV} {ms : List Int} {w : World} (J : World → Prop) (hck : callOk Try.prog f = true) (h0 : J w) (hr : ∀ W, J W → IntsAt W (Lt W.heap.size) r ms) (hn : ms.length ≤ 1000) (hJ : ∀ W W', J W → Below W.heap.size W W' → J W')
    (hc : ∀ k, k < ms.length → ∀ W, J W → Calls Try.prog f ([] ++ [Value.int .i64 (k : Nat), Value.int .i64 (at0 ms k)] ++ cap).toArray W fun e w' => e = .returned (.bool (P k)) ∧ J w') :
    Calls Try.prog 41 #[svV r, .func (.func f) #[] cap.toArray] w fun e w' => e = .returned (.int .i64 (idxB P ms.length)) ∧ J w' := by
  obtain ⟨A, n, c⟩ := r
  have hln := (hr w h0).len
  simp only at hln
  subst hln
  have S0 : Sys 0 w [] w := Sys.start (Nat.zero_le _) (fun e he => by cases he) .nil
  have hB := fun {W w' : World} (S : Sys 0 W [] w') => S.toBelowG (fun e he => by cases he)
  simp only [svV]
  refine enterL Try.func41 rfl Try.ntmps41 rfl (S0) ?_; simp only [frame, Nat.zero_add, Nat.reduceAdd]
  repeat (first | (refine M0 ?_; first | refine SL ?_ | refine SB fun _ _ => ?_) | (refine M1 ?_; refine SC ?_) | (refine M2 ?_; refine SE ?_))
  refine XC.loopk [1, 7, 8] rfl (fun z : Nat × World => [(9, .int .i64 (z.1 : Nat))]) (fun _ => []) (fun z => z.2) (fun z => z.1 ≤ ms.length ∧ J z.2 ∧ ∀ j, j < z.1 → P j = false) (fun z => ms.length - z.1) (0, w) ⟨Nat.zero_le _, h0, fun j h => absurd h (by simp)⟩ ZZSUB (fun _ h => h) ?_
  rintro ⟨k, W⟩ ⟨hk, hJW, h0⟩
  simp only at hk hJW h0
  dsimp only [List.cons_append, List.nil_append]
  repeat (first | (refine M0 ?_; first | refine SL ?_ | refine SB fun _ _ => ?_) | (refine M1 ?_; refine SC ?_) | (refine M2 ?_; refine SE ?_))
  refine XC.cond _ rfl (fun h3 => ?_) (fun h3 => ?_)
  · have hkn : k < ms.length := by simpa using h3
    obtain ⟨ad, rfl, hlt, hcells⟩ := (hr W hJW).at_ (by omega)
    have hcell := hcells k hkn
    repeat (first | (refine M0 ?_; first | refine SL ?_ | refine SB fun _ _ => ?_ | refine Y4 (Ev.load_far tok rfl rfl (by rw [add_block]; exact hlt) (fun e he => by cases he) hcell) ?_) | (refine M1 ?_; refine SC ?_) | (refine M2 ?_; refine SE ?_))
    refine XL.callr (fst := []) (cap := cap) (fun _ x w2 => x = .bool (P k) ∧ J w2) hck rfl rfl rfl (fun w5 S5 => (hc k hkn w5 (hJ _ _ hJW (hB S5))).mono fun e w' ⟨e1, e2⟩ => ⟨_, e1, rfl, e2⟩) (fun w5 x w6 S5 ⟨ex, hJ6⟩ => ⟨[], w6, Sys.start (Nat.zero_le _) (fun e he => by cases he) .nil, ?_⟩)
    subst ex
    repeat (first | (refine M0 ?_; first | refine SL ?_ | refine SB fun _ _ => ?_) | (refine M1 ?_; refine SC ?_) | (refine M2 ?_; refine SE ?_))
    refine XC.cond _ rfl (fun h4 => ?_) (fun h4 => ?_)
    · repeat (first | (refine M0 ?_; first | refine SL ?_ | refine SB fun _ _ => ?_) | (refine M1 ?_; refine SC ?_) | (refine M2 ?_; refine SE ?_))
      refine XE.retg tok Try.results41 rfl (by simp only [and_self, and_true]) (fun w' S => ?_)
      unfold idxB
      rw [firstB_some.2 ⟨hkn, h4, h0⟩]
      exact ⟨rfl, hJ _ _ hJ6 (hB S)⟩
    · repeat (first | (refine M0 ?_; first | refine SL ?_ | refine SB fun _ _ => ?_) | (refine M1 ?_; refine SC ?_) | (refine M2 ?_; refine SE ?_))
      refine XE.roundW (s := (k, W)) (fun w9 S9 => ⟨(k + 1, w9), ⟨hkn, hJ _ _ hJ6 (hB S9), fun j hj => ?_⟩, by simp only; omega, ZZSUB, S9.rebase (List.Sublist.refl _)⟩)
      rcases Nat.lt_or_ge j k with h5 | h5
      · exact h0 j h5
      · have : j = k := by omega
        subst this
        exact h4
  · have hkn : ¬ k < ms.length := by simpa using h3
    repeat (first | (refine M0 ?_; first | refine SL ?_ | refine SB fun _ _ => ?_) | (refine M1 ?_; refine SC ?_) | (refine M2 ?_; refine SE ?_))
    refine XE.retg tok Try.results41 rfl (by simp only [and_self, and_true]) (fun w' S => ?_)
    unfold idxB
    rw [firstB_none.2 fun j hj => h0 j (by omega)]
    exact ⟨rfl, hJ _ _ hJW (hB S)⟩
theorem GamR.gam {t : CTk} {v : CTV} {b0 g gm : Nat} {ks : List Nat} {R : Value → List Held → Prop} {w w' : World} {e : Ending} (hG : Gam t v b0 g gm ks [] [] w) (h : GamR t b0 gm ks R w e w') : ∃ x new, e = .returned x ∧ R x new ∧ Since w gm w' ∧ Gam t v b0 g gm ks [] new w' := by
  obtain ⟨x, new, e1, e2, e3, e4, e5⟩ := h
  exact ⟨x, new, e1, e2, e3, by simpa using hG.after (kk := ks) rfl e3 e4 e5⟩
theorem Since.keep {gm g : Nat} {o : Obj} {w w' : World} (h : Since w gm w') (hg : w.heap[g]? = some o) (hne : g ≠ gm) : w'.heap[g]? = some o := (h.old g (Array.getElem?_eq_some_iff.1 hg).1 hne).trans hg
theorem Below.keep {g : Nat} {o : Obj} {w w' : World} (h : Below w.heap.size w w') (hg : w.heap[g]? = some o) : w'.heap[g]? = some o := (h.block g (Array.getElem?_eq_some_iff.1 hg).1).trans hg
set_option maxHeartbeats 8000000 in
theorem fails_any {t : CTk} {v : CTV} {b0 g gm k : Nat} {p : CPl} {ks : List Nat} {w : World} (hG : Gam t v b0 g gm ks [] [] w) (ho : CtOk t) (hk : k < t.m) (hp : t.strange p = false) :
    Calls Try.prog 62 #[.pointer (some ⟨g, 0, none⟩), .int .i64 (k : Nat), plnV p] w (GamR t b0 gm ks (IntR (idxB (t.above k p) t.n)) w) := by
  have hgs := hG.gin
  have hgg : g ∈ [g] := .head _
  have hml := hG.lt gm (.head _)
  have hgl := hG.lt g (List.mem_cons_of_mem _ hG.gin)
  have hgm : w.heap[g]? = some (gamO v t gm) := hG.game
  have S0 := Sys.start1 hG.bg hgm
  have hrn : t.river.length = t.n := ho.river
  have hwh := fun (g3 g4 g5 : Nat) (w5 : World) (ks2 : List Nat) (hG5 : Gam t v b0 g gm ks2 [] [] w5) (h3 : w5.heap[g3]? = some (cel 102 [.pointer (some ⟨g, 0, none⟩)])) (h4 : w5.heap[g4]? = some (cel 3 [.int .i64 (k : Nat)])) (h5 : w5.heap[g5]? = some (cel 36 [.int .i64 p.close, .int .i64 p.open_])) (hn3 : g3 ∈ ks2 ∧ g3 ≠ g) (hn4 : g4 ∈ ks2 ∧ g4 ≠ g) (hn5 : g5 ∈ ks2 ∧ g5 ≠ g) =>
    where_inv (f := 87) (cap := [.pointer (some ⟨g3, 0, none⟩), .pointer (some ⟨g4, 0, none⟩), .pointer (some ⟨g5, 0, none⟩)]) (P := t.above k p) (r := v.r) (ms := t.river) (w := w5)
      (fun W => Gam t v b0 g gm ks2 [] [] W ∧ Since w5 gm W ∧ W.heap[g3]? = some (cel 102 [.pointer (some ⟨g, 0, none⟩)]) ∧ W.heap[g4]? = some (cel 3 [.int .i64 (k : Nat)]) ∧ W.heap[g5]? = some (cel 36 [.int .i64 p.close, .int .i64 p.open_]))
      (ck rfl) ⟨hG5, Since.refl, h3, h4, h5⟩ (fun W hJ => hJ.1.task.river.mono fun j hj => Nat.lt_of_lt_of_le hj hJ.1.fam.base) (by have := ho.n60; omega)
      (fun W W' hJ hb => ⟨by simpa using hJ.1.made (new := []) hb (fun x hx => by cases hx), hJ.2.1.made hb, Below.keep hb hJ.2.2.1, Below.keep hb hJ.2.2.2.1, Below.keep hb hJ.2.2.2.2⟩)
      (fun i hi W hJ => (fails1_any (z := at0 t.river i) hJ.1 ho hk (by omega) hp hJ.2.2.1 hJ.2.2.2.1 hJ.2.2.2.2 hn3.2 hn4.2 hn5.2).mono fun e w' hR => by
        obtain ⟨x, new, e1, ⟨rfl, rfl⟩, e3, e4⟩ := hR.gam hJ.1
        exact ⟨e1, e4, hJ.2.1.trans e3, e3.keep hJ.2.2.1 (fun e => hG5.nin (e ▸ hn3.1)), e3.keep hJ.2.2.2.1 (fun e => hG5.nin (e ▸ hn4.1)), e3.keep hJ.2.2.2.2 (fun e => hG5.nin (e ▸ hn5.1))⟩)
  obtain ⟨vp, vf, vh, ⟨Ar, nr, cr⟩⟩ := v
  rw [hrn] at hwh
  simp only [gamO, gamC] at S0
  simp only [plnV]
  simp only [svV] at hwh
  refine enterL Try.func62 rfl Try.ntmps62 rfl (S0) ?_; simp only [frame, Nat.zero_add, Nat.reduceAdd]
  repeat (first | (refine M0 ?_; first | refine SL ?_ | refine SB fun _ _ => ?_ | refine Y4 (Ev.load_loc tok 3 (g := g) (o := 7) rfl rfl rfl rfl) ?_) | (refine M1 ?_; refine SC ?_) | (refine M2 ?_; refine SE ?_))
  refine XL.step _ (Ev.makeFunc rfl rfl) rfl ?_
  rename_i g3 hg3 g4 hg4 g5 hg5
  refine XL.callH (wE := w) (IntR (idxB (t.above k p) t.n)) (ck rfl) rfl rfl hG Since.refl (.tail _ (.tail _ (.tail _ (.head _)))) (fun w5 ks2 S5 hL5 hG5 => (hwh g3 g4 g5 w5 ks2 hG5 (S5.own (g3, _) (.tail _ (.tail _ (.head _)))).2 (S5.own (g4, _) (.tail _ (.head _))).2 (S5.own (g5, _) (.head _)).2 ⟨hL5 (g3, _) (.tail _ (.tail _ (.head _))), by omega⟩ ⟨hL5 (g4, _) (.tail _ (.head _)), by omega⟩ ⟨hL5 (g5, _) (.head _), by omega⟩).mono fun e w' ⟨e1, e2, e3, _⟩ => ⟨_, [], e1, ⟨rfl, rfl⟩, e3, e2.memo, fun y hy => by cases hy⟩) (fun w1 x new hR hG1 hS1 => ?_) ZZHM ZZHM
  obtain ⟨rfl, rfl⟩ := hR
  have hz := hS1.size
  repeat (first | (refine M0 ?_; first | refine SL ?_ | refine SB fun _ _ => ?_) | (refine M1 ?_; refine SC ?_) | (refine M2 ?_; refine SE ?_))
  refine XE.retg tok Try.results62 rfl (by simp only [and_self, and_true]) (fun w' S => ?_)
  exact GamR.end_ hG1 hml hS1 S (.tail _ (.tail _ (.tail _ (.head _)))) ⟨rfl, rfl⟩ ZZHL ZZO2
end Go.Proofs.Ytmpaiphakjogjaa.X
/-
  The walk of begin: the quiet tick (closure).
-/
namespace Go.Proofs.Ytmpaiphakjogjaa.Bs
open Go Go.Proofs.Ytmpaiphakjogjaa.X
/-- the one behind the last that is above. -/
def hiL (l : List Int) (lim : Int) (n : Nat) : Nat := match lastB (fun i => decide (lim < at0 l i)) n with
  | none => 0
  | some i => i + 1
theorem hiL_spec (l : List Int) (lim : Int) (n : Nat) : hiL l lim n ≤ n ∧ (hiL l lim n = 0 ∨ ∃ i, hiL l lim n = i + 1 ∧ lim < at0 l i) ∧ ∀ i, hiL l lim n ≤ i → i < n → at0 l i ≤ lim := by
  unfold hiL
  cases h : lastB (fun i => decide (lim < at0 l i)) n with
  | none =>
    have := lastB_none.1 h
    exact ⟨Nat.zero_le _, .inl rfl, fun i _ hi => by have := of_decide_eq_false (this i hi); omega⟩
  | some i =>
    obtain ⟨a1, a2, a3⟩ := lastB_some.1 h
    exact ⟨a1, .inr ⟨i, rfl, of_decide_eq_true a2⟩, fun j h1 h2 => by have := of_decide_eq_false (a3 j h1 h2); omega⟩
def CTk.qH (t : CTk) : Nat → Nat
  | 0 => 0
  | k + 1 => max (t.qH k) (hiL (t.h k).vals t.limit t.n)
theorem qH_spec (t : CTk) : ∀ k, t.qH k ≤ t.n ∧ (t.qH k = 0 ∨ ∃ i j, t.qH k = i + 1 ∧ j < k ∧ t.limit < t.v j i) ∧ ∀ i j, t.qH k ≤ i → i < t.n → j < k → t.v j i ≤ t.limit := by
  intro k
  induction k with
  | zero => exact ⟨Nat.zero_le _, .inl rfl, fun i j _ _ h => by omega⟩
  | succ k ih =>
    obtain ⟨h1, h2, h3⟩ := ih
    obtain ⟨g1, g2, g3⟩ := hiL_spec (t.h k).vals t.limit t.n
    unfold CTk.qH
    refine ⟨by omega, ?_, fun i j hi hn hj => ?_⟩
    · rcases Nat.le_total (t.qH k) (hiL (t.h k).vals t.limit t.n) with hle | hle
      · rw [Nat.max_eq_right hle]
        rcases g2 with g2 | ⟨i, g2, g4⟩
        · exact .inl g2
        · exact .inr ⟨i, k, g2, by omega, g4⟩
      · rw [Nat.max_eq_left hle]
        rcases h2 with h2 | ⟨i, j, h2, h4, h5⟩
        · exact .inl h2
        · exact .inr ⟨i, j, h2, by omega, h5⟩
    · rcases Nat.lt_or_ge j k with h | h
      · exact h3 i j (by omega) hn h
      · have : j = k := by omega
        subst this
        exact g3 i (by omega) hn
theorem qH_q (t : CTk) : t.qH t.m = t.q := by
  obtain ⟨h1, h2, h3⟩ := qH_spec t t.m
  refine q_eq h1 ?_ fun i hi hn => high_f.2 fun k hk => h3 i k hi hn hk
  rcases h2 with h2 | ⟨i, j, h2, h4, h5⟩
  · exact .inl h2
  · exact .inr ⟨i, h2, high_t.2 ⟨j, h4, h5⟩⟩
end Go.Proofs.Ytmpaiphakjogjaa.Bs
namespace Go.Proofs.Ytmpaiphakjogjaa.X
open Go Go.RowKit Go.Proofs.Ytmpaiphakjogjaa.Bs
set_option linter.unusedVariables false
theorem back0_any {q : SV} {w : World} :
    Calls Try.prog 81 #[svV q] w fun e w' => ∃ v, e = .returned v ∧ ∃ gp, v = .func (.func 96) #[] #[.pointer (some ⟨gp, 0, none⟩)] ∧ Sys w.heap.size w [(gp, cel 26 [svV q])] w' := by
  simp only [svV]
  refine enter Try.func81 rfl Try.ntmps81 rfl ?_; simp only [frame, Nat.zero_add, Nat.reduceAdd]
  repeat (first | (refine M0 ?_; first | refine SL ?_ | refine SB fun _ _ => ?_ | refine Y4 (Ev.makeFunc rfl rfl) ?_) | (refine M1 ?_; first | refine SC ?_ | refine SD ?_) | (refine M2 ?_; refine SE ?_) | (refine M3 ?_; first | refine SG ?_ | refine SF ?_ | refine YF (Ev.makeFunc rfl rfl) ?_) | (refine M4 ?_; refine SR ?_) | (refine M5 ?_; first | exact M7 | refine YM ?_ | refine YN ?_ ?_))
  refine XE.retg tok Try.results81 rfl (by simp only [and_self, and_true]) (fun w' S => ?_)
  exact ⟨_, rfl, _, rfl, S⟩
set_option maxHeartbeats 8000000 in
theorem back_any {σ : Type} (Lf : σ → Lo) (W0 : World) (J : Nat → σ → Prop) (Jx : σ → Prop) {B l gp n c : Nat} {A : Option Addr} {ms : List Int} (s0 : σ) (S0 : Sys B W0 (Lf s0) W0) (h0 : J ms.length s0)
    (hgp : W0.cell? ⟨gp, 0, none⟩ = some (.slice A n c)) (hlp : gp < W0.heap.size) (hfp : ∀ s e, e ∈ Lf s → e.1 ≠ gp) (hq : IntsAt W0 (Lt B) ⟨A, n, c⟩ ms) (hn : ms.length ≤ 1000)
    (hy : ∀ i s, i < ms.length → J (i + 1) s → ∀ w1, Sys B W0 (Lf s) w1 → ∃ fn tmps assign body, (Instr.yield l (#[.int .i64 (i : Nat), .int .i64 (at0 ms i)] : Array Value)).run Try.prog w1 = .ok (.round l fn tmps assign body) w1 ∧
        RoundIn Fence.wide 0 Try.prog l fn tmps assign body w1 fun e w' => ∃ v, e = .returned v ∧ ((v = .bool true ∧ ∃ s', J i s' ∧ Sys B W0 (Lf s') w') ∨ (v = .bool false ∧ ∃ s', Jx s' ∧ Sys B W0 (Lf s') w'))) :
    Calls Try.prog 96 #[.func (.yield l) #[] #[], .pointer (some ⟨gp, 0, none⟩)] W0 fun e w' => ∃ v, e = .returned v ∧ ((∃ s, J 0 s ∧ Sys B W0 (Lf s) w') ∨ (∃ s, Jx s ∧ Sys B W0 (Lf s) w')) := by
  have hln := hq.len
  simp only at hln
  subst hln
  refine enterL Try.func96 rfl Try.ntmps96 rfl (S0) ?_; simp only [frame, Nat.zero_add, Nat.reduceAdd]
  repeat (first | (refine M0 ?_; first | refine SL ?_ | refine SB fun _ _ => ?_ | refine Y4 (Ev.load_far tok rfl rfl hlp (hfp s0) hgp) ?_) | (refine M1 ?_; refine SC ?_) | (refine M2 ?_; refine SE ?_))
  refine XC.loopk [0, 1] rfl (fun z : Nat × σ => [(3, .int .i64 ((z.1 : Int) - 1))]) (fun z => Lf z.2) (fun _ => W0) (fun z => z.1 ≤ ms.length ∧ J z.1 z.2) (fun z => z.1) (ms.length, s0) ⟨Nat.le_refl _, h0⟩ ZZSUB (fun _ h => h) ?_
  rintro ⟨i, s⟩ ⟨hi, hJ⟩
  simp only at hi hJ
  dsimp only [List.cons_append, List.nil_append]
  repeat (first | (refine M0 ?_; first | refine SL ?_ | refine SB fun _ _ => ?_) | (refine M1 ?_; refine SC ?_) | (refine M2 ?_; refine SE ?_))
  refine XC.cond _ rfl (fun h1 => ?_) (fun h1 => ?_)
  rotate_left
  · have him : i = 0 := by have := of_decide_eq_false h1; omega
    subst him
    repeat (first | (refine M0 ?_; first | refine SL ?_ | refine SB fun _ _ => ?_) | (refine M1 ?_; refine SC ?_) | (refine M2 ?_; refine SE ?_))
    refine XE.end0 Try.results96 (fun w' S => ?_)
    exact ⟨_, rfl, .inl ⟨s, hJ, S⟩⟩
  obtain ⟨j, rfl⟩ : ∃ j, i = j + 1 := ⟨i - 1, by have := of_decide_eq_true h1; omega⟩
  obtain ⟨ad, rfl, hlt, hcells⟩ := hq.at_ (by omega)
  have hcell := hcells j (by omega)
  have ej : ((j + 1 : Nat) : Int) - 1 = (j : Nat) := by omega
  rw [ej]
  repeat (first | (refine M0 ?_; first | refine SL ?_ | refine SB fun _ _ => ?_ | refine Y4 (Ev.load_far tok rfl rfl hlp (hfp s) hgp) ?_ | refine Y4 (Ev.load_old tok rfl rfl (add_lt hlt) hcell) ?_) | (refine XI.id ?_; first | refine XI.done ?_ | refine XI.one1 rfl ?_) | (refine XR'.id ?_; first | refine XR'.seq ?_ | refine XR'.region ?_ | refine XR'.block ?_ | refine XR'.skip ?_ | refine XR'.ret ?_ | refine XR'.cond_t rfl ?_ | refine XR'.cond_f rfl ?_ | refine XR'.exit ?_) | (refine M1 ?_; first | refine XC.regionI (id := 3) 1 ?_ | refine SC ?_ | refine SD ?_) | (refine M2 ?_; first | refine XE.nextI ?_ | refine XE.nextR ?_ | refine SE ?_))
  refine XI.yield (vs := [.int .i64 (j : Nat), .int .i64 (at0 ms j)]) rfl rfl rfl (fun _ v w' => (v = .bool true ∧ ∃ s', J j s' ∧ Sys B W0 (Lf s') w') ∨ (v = .bool false ∧ ∃ s', Jx s' ∧ Sys B W0 (Lf s') w')) (fun w4 S4 => hy j s (by omega) hJ w4 S4) (fun w4 v5 w5 S4 hR => ?_)
  rcases hR with ⟨rfl, s', hJ', S5⟩ | ⟨rfl, s', hJ', S5⟩
  · refine ⟨_, _, S5, ?_⟩
    repeat (first | (refine M0 ?_; first | refine SL ?_ | refine SB fun _ _ => ?_) | (refine XI.id ?_; first | refine XI.done ?_ | refine XI.one1 rfl ?_) | (refine XR'.id ?_; first | refine XR'.seq ?_ | refine XR'.region ?_ | refine XR'.block ?_ | refine XR'.skip ?_ | refine XR'.ret ?_ | refine XR'.cond_t rfl ?_ | refine XR'.cond_f rfl ?_ | refine XR'.exit ?_) | (refine M1 ?_; first | refine SC ?_ | refine SD ?_) | (refine M2 ?_; first | refine XE.nextI ?_ | refine XE.nextR ?_ | refine SE ?_))
    repeat (first | (refine M0 ?_; first | refine SL ?_ | refine SB fun _ _ => ?_) | (refine M1 ?_; refine SC ?_) | (refine M2 ?_; refine SE ?_))
    exact XE.round (s := (j + 1, s)) (j, s') ⟨by simp only; omega, hJ'⟩ (by simp only; omega) (Sub.cons (by rw [← ej]; rfl) ZZSUB) (fun _ h => h)
  · refine ⟨_, _, S5, ?_⟩
    repeat (first | (refine M0 ?_; first | refine SL ?_ | refine SB fun _ _ => ?_) | (refine XI.id ?_; first | refine XI.done ?_ | refine XI.one1 rfl ?_) | (refine XR'.id ?_; first | refine XR'.seq ?_ | refine XR'.region ?_ | refine XR'.block ?_ | refine XR'.skip ?_ | refine XR'.ret ?_ | refine XR'.cond_t rfl ?_ | refine XR'.cond_f rfl ?_ | refine XR'.exit ?_) | (refine M1 ?_; first | refine SC ?_ | refine SD ?_) | (refine M2 ?_; first | refine XE.nextI ?_ | refine XE.nextR ?_ | refine SE ?_))
    repeat (first | (refine M0 ?_; first | refine SL ?_ | refine SB fun _ _ => ?_) | (refine M1 ?_; refine SC ?_) | (refine M2 ?_; refine SE ?_))
    refine XE.ret0 Try.results96 (fun w' S => ?_)
    exact ⟨_, rfl, .inr ⟨s', hJ', S⟩⟩
def rfOf5 : Code → Option (Code × Code)
  | .rangeFunc _ _ a b => some (a, b)
  | .seq x y => match rfOf5 x with
    | some r => some r
    | none => rfOf5 y
  | .block _ c => rfOf5 c
  | .scope c => rfOf5 c
  | .loop c => rfOf5 c
  | _ => none
/-- the blocks Ds hold no deferred calls. -/
def hDef (Ds : List Nat) : Held := ⟨fun W ok => ∀ D, D ∈ Ds → ok D ∧ W.heap[D]? = some (.deferred (some [])), fun h hk D hD => ⟨(h D hD).1, (hk D (h D hD).1).trans (h D hD).2⟩, fun h hk D hD => ⟨hk D (h D hD).1, (h D hD).2⟩⟩
/-- a game whose quiet tick is q so far. -/
def gamQ (v : CTV) (t : CTk) (gm q : Nat) : List Value :=
  [.slice v.p.A v.p.n v.p.c, .int .i64 t.b.leak, .int .i64 t.b.crest, .int .i64 t.b.over, .slice v.p.A2 v.p.n2 v.p.c2, .slice v.f.A v.f.n v.f.c, .slice v.h.A v.h.n v.h.c, .slice v.r.A v.r.n v.r.c, .int .i64 t.out, .int .i64 t.limit, .int .i64 t.delay,
   .int .i64 t.from_, .int .i64 (t.n : Nat), .int .i64 (q : Nat), .map (some gm)]
/-- what begin answers. -/
def BegR (t : CTk) (v : CTV) (w : World) (e : Ending) (w' : World) : Prop :=
  Below w.heap.size w w' ∧ ((ctE t ≠ 0 ∧ e = .returned (.tuple ⟨[.pointer none, .int .i64 (ctE t)]⟩)) ∨
    (ctE t = 0 ∧ ∃ g gm, e = .returned (.tuple ⟨[.pointer (some ⟨g, 0, none⟩), .int .i64 0]⟩) ∧ Gam t v w.heap.size g gm [g] [] [] w'))
set_option maxHeartbeats 16000000 in
theorem begin_any {v : CTV} {t : CTk} {w : World} (h : CtAt w w.heap.size v t) :
    Calls Try.prog 46 #[ctkV v t] w (BegR t v w) := by
  have hhn := h.hn
  have hchk := fun (w5 : World) (hB : Below w.heap.size w w5) => ctCheck_any (v := v) (t := t) (w := w5) ((h.below hB).more hB.size)
  have hhis := fun k hk => h.hisAt (k := k) hk
  have hrn := h.river.len
  obtain ⟨vp, vf, ⟨Ah, nh, ch⟩, ⟨Ar, nr, cr⟩⟩ := v
  simp only at hhn hrn hhis
  subst hhn
  simp only [ctkV, ctkC] at hchk ⊢
  refine enterM Try.func46 rfl Try.ntmps46 rfl ?_; simp only [frame, Nat.zero_add, Nat.reduceAdd]
  repeat (first | (refine M0 ?_; first | refine SL ?_ | refine SB fun _ _ => ?_ | refine Y4 (Ev.call (f := 11) (ck rfl) rfl (fun w5 S5 => hchk w5 S5.toBelow)) ?_) | (refine M1 ?_; refine SC ?_) | (refine M2 ?_; refine SE ?_))
  rename_i g1 hg1
  have hcv : (chkC t).2.2 = ctE t := rfl
  simp only [hcv]
  by_cases hc : ctE t = 0
  rotate_left
  · rw [show decide (ctE t ≠ 0) = true from decide_eq_true hc]
    repeat (first | (refine M0 ?_; first | refine SL ?_ | refine SB fun _ _ => ?_) | (refine M1 ?_; refine SC ?_) | (refine M2 ?_; refine SE ?_))
    refine XE.retM0 tok Try.results46 rfl (by simp only [and_self, and_true]) (fun w' S => ?_)
    exact ⟨S.toBelow, .inl ⟨hc, rfl⟩⟩
  rw [show decide (ctE t ≠ 0) = false from decide_eq_false (fun h => h hc)]
  have ho := ctOk_of hc
  have hm1 := ho.m1
  have hm8 := ho.m8
  have hn60 := ho.n60
  obtain ⟨ah, ⟨A0, n0, c0⟩, rfl, hlth, hck0, hq0⟩ := hhis 0 (by omega)
  have d00 : w.cell? ((ah.add (0 * 2)).add 0) = some (.int .i64 t.from_) := hck0 0 _ rfl
  rw [ho.river] at hrn
  subst hrn
  obtain ⟨v, hv⟩ : ∃ v : CTV, v = ⟨vp, vf, ⟨some ah, t.m, ch⟩, ⟨Ar, t.n, cr⟩⟩ := ⟨_, rfl⟩
  repeat (first | (refine M0 ?_; first | refine SL ?_ | refine SB fun _ _ => ?_) | (refine M1 ?_; refine SC ?_) | (refine M2 ?_; refine SE ?_))
  refine XC.cutn [1] rfl (fun z : Nat × Nat × Nat => [(7, .pointer (some ⟨z.2.2, 0, none⟩)), (31, .pointer (some ⟨z.1, 0, none⟩)), (29, .map (some z.2.1))]) (fun z => [(z.2.2, cel 102 [.pointer (some ⟨z.1, 0, none⟩)]), (z.1, cel 107 (gamQ ⟨vp, vf, ⟨some ah, t.m, ch⟩, ⟨Ar, t.n, cr⟩⟩ t z.2.1 0)), (z.2.1, mapO []), (g1, cel 29 (ctkC ⟨vp, vf, ⟨some ah, t.m, ch⟩, ⟨Ar, t.n, cr⟩⟩ t))]) (fun _ => w) (fun z => w.heap.size ≤ z.1 ∧ w.heap.size ≤ z.2.1 ∧ w.heap.size ≤ z.2.2) ?_ ?_
  · refine XC.drawR _ [0, 1, 2, 3, 4, 5, 6, 7, 8] [9, 10, 11, 12, 13] mixed (fun _ h => h) rfl (by kernel_rfl) ?_
    repeat (any_goals (first | (refine M0 ?_; first | refine SL ?_ | refine SB fun _ _ => ?_ | refine Y4 (Ev.load_old tok rfl rfl (add_lt2 hlth) d00) ?_ | refine XL.makeMap rfl (fun _ _ => ?_)) | (refine M1 ?_; refine SC ?_) | (refine M2 ?_; refine SE ?_) | (refine M3 ?_; first | refine SG ?_ | refine SF ?_ | refine YF (Ev.load_old tok rfl rfl (add_lt2 hlth) d00) ?_) | (refine M4 ?_; refine SR ?_) | (refine M5 ?_; first | exact M7 | refine YM ?_ | refine YN ?_ ?_)))
    any_goals (repeat (first | exact AnyR.nil | refine AnyR.skip rfl ?_))
    all_goals
      refine XE.leaf (_, _, _) ZZSUB (fun _ S' => by first | exact S' | exact S'.perm (by repeat (first | exact List.Perm.refl _ | refine perm1 ?_ | refine List.Perm.cons _ ?_ | refine perm2 ?_)) | exact (S'.pop (by assumption)) | exact (S'.pop2 (by assumption))) ⟨?_, ?_, ?_⟩ <;> assumption
  rintro ⟨g, gm, g7⟩ ⟨hg, hgm, hg7⟩
  simp only at hg hgm hg7
  dsimp only [List.cons_append, List.nil_append]
  refine XC.hint 7 3 (XC.hint 1 0 ?_)
  simp only [gamQ, ctkC]
  repeat (first | (refine M0 ?_; first | refine SL ?_ | refine SB fun _ _ => ?_) | (refine M1 ?_; refine SC ?_) | (refine M2 ?_; refine SE ?_))
  refine XC.rebase (List.Sublist.refl _) (fun W0 S0 => ?_)
  have hF0 : Fam W0 w.heap.size [g7, g, gm, g1] [] [hDef []] := (Fam.start S0.size).hold (x := hDef []) (ok := fun _ => False) (fun D hD => by cases hD) (fun j hj => hj.elim)
  refine XC.loopD [1, 7, 33, 34] rfl (fun z : Nat × World × List Nat => [(35, .int .i64 (z.1 : Nat))]) (fun z => [(g7, cel 102 [.pointer (some ⟨g, 0, none⟩)]), (g, cel 107 (gamQ ⟨vp, vf, ⟨some ah, t.m, ch⟩, ⟨Ar, t.n, cr⟩⟩ t gm (t.qH z.1))), (gm, mapO []), (g1, cel 29 (ctkC ⟨vp, vf, ⟨some ah, t.m, ch⟩, ⟨Ar, t.n, cr⟩⟩ t))]) (fun z => z.2.1) (fun z => z.2.2.map markD)
    (fun z => z.1 ≤ t.m ∧ Below w.heap.size w z.2.1 ∧ Fam z.2.1 w.heap.size [g7, g, gm, g1] [] [hDef z.2.2] ∧ (∀ x, x ∈ [g7, g, gm, g1] → x < z.2.1.heap.size) ∧ z.2.2.Nodup) (fun z => t.m - z.1) (0, W0, []) ⟨Nat.zero_le _, S0.toBelow, hF0, fun x hx => S0.keyLt x hx, .nil⟩ rfl ZZSUB (fun _ h => h) ?_
  rintro ⟨k, W, Ds⟩ ⟨hk, hB, hF, hkl, hnd⟩
  simp only at hk hB hF hkl hnd
  simp only [gamQ, ctkC]
  dsimp only [List.cons_append, List.nil_append]
  repeat (first | (refine M0 ?_; first | refine SL ?_ | refine SB fun _ _ => ?_) | (refine M1 ?_; refine SC ?_) | (refine M2 ?_; refine SE ?_))
  refine XC.cond _ rfl (fun h1 => ?_) (fun h1 => ?_)
  rotate_left
  · have hkm : k = t.m := by have := of_decide_eq_false h1; omega
    subst hkm
    rw [qH_q]
    repeat (first | (refine M0 ?_; first | refine SL ?_ | refine SB fun _ _ => ?_) | (refine M1 ?_; refine SC ?_) | (refine M2 ?_; refine SE ?_))
    refine XE.retMs tok rfl Try.results46 rfl (by simp only [and_self, and_true]) (fun w9 S9 D hD => ((hF.sys S9 ZZHL).held (hDef Ds) (.head _) D hD).2) hnd (fun e he hm => ?_) (fun w9 w' S9 hM => ?_)
    · have h2 := (hF.held (hDef Ds) (.head _) e.1 hm).1.2.2.1
      exact h2 (List.mem_map.2 ⟨e, he, rfl⟩)
    have hDs : ∀ D, D ∈ Ds → D ∉ [g7, g, gm, g1] ∧ w.heap.size ≤ D := fun D hD => ⟨(hF.held (hDef Ds) (.head _) D hD).1.2.2.1, (hF.held (hDef Ds) (.head _) D hD).1.1⟩
    have hBw : Below w.heap.size w w' := by
      have h3 := hB.trans S9.toBelow
      exact ⟨hM.os.trans h3.os, hM.tape.trans h3.tape, hM.output.trans h3.output, by rw [hM.size]; exact h3.size, fun j hj => by rw [hM.old j fun hD => by have := (hDs j hD).2; omega]; exact h3.block j hj⟩
    have hgw : w'.heap[g]? = some (gamO ⟨vp, vf, ⟨some ah, t.m, ch⟩, ⟨Ar, t.n, cr⟩⟩ t gm) := by
      rw [hM.old g fun hD => (hDs g hD).1 (by simp)]
      exact (S9.own (g, _) (.tail _ (.head _))).2
    have hmw : w'.heap[gm]? = some (mapO []) := by
      rw [hM.old gm fun hD => (hDs gm hD).1 (by simp)]
      exact (S9.own (gm, _) (.tail _ (.tail _ (.head _)))).2
    have hne : g ≠ gm := fun e => by
      subst e
      rw [hmw] at hgw
      simp [mapO, gamO] at hgw
    refine ⟨hBw, .inr ⟨hc, g, gm, rfl, Fam.start hBw.size, by simp; exact fun e => hne e.symm, by simp, fun x hx => ?_, hg, hgm, hgw, h.below hBw, [], hmw, KeysOk.nil, fun e he => by cases he⟩⟩
    rw [hM.size]
    exact Nat.lt_of_lt_of_le (hkl x (by simp only [List.mem_cons, List.not_mem_nil, or_false] at hx ⊢; omega)) S9.size
  have hkm : k < t.m := by have := of_decide_eq_true h1; omega
  obtain ⟨ad', ⟨Ak, nk, ck1⟩, e, _, hck, hqk⟩ := hhis k hkm
  cases e
  have hlk := hqk.len
  simp only at hlk
  rw [ho.len k hkm] at hlk
  subst hlk
  have hckW : ∀ j u, (hisC ⟨Ak, t.n, ck1⟩ (t.h k))[j]? = some u → W.cell? ((ah.add (k * 2)).add j) = some u := fun j u hj => (below_cell5 hB (add_lt2 hlth)).trans (hck j u hj)
  repeat (first | (refine M0 ?_; first | refine SL ?_ | refine SB fun _ _ => ?_ | refine Y4 (Ev.load_old_agg tok (hisC ⟨Ak, t.n, ck1⟩ (t.h k)) rfl rfl rfl (add_lt hlth) hckW) ?_) | (refine M1 ?_; refine SC ?_) | (refine M2 ?_; refine SE ?_))
  rename_i g9 hg9
  refine XL.callr (fst := []) (cap := []) (fun w1 x w2 => ∃ gp, x = .func (.func 96) #[] #[.pointer (some ⟨gp, 0, none⟩)] ∧ Sys w1.heap.size w1 [(gp, cel 26 [.slice Ak t.n ck1])] w2) (ck rfl) rfl rfl rfl (fun w1 S1 => back0_any (q := ⟨Ak, t.n, ck1⟩)) (fun w1 x w2 S1 hR => ?_)
  obtain ⟨gp, rfl, S2⟩ := hR
  refine ⟨_, w2, (S1.join S2 (List.Sublist.refl _)).rebase (List.sublist_cons_self _ _), ?_⟩
  have hB2 : Below w.heap.size w w2 := hB.trans (S1.toBelow.trans (S2.toBelow.mono (Nat.le_trans S1.base S1.size)))
  have hgpL : ∀ x, x ∈ [g9, g7, g, gm, g1] → x < gp := fun x hx => Nat.lt_of_lt_of_le (S1.keyLt x hx) (S2.own _ (.head _)).1
  have hgpc : w2.cell? ⟨gp, 0, none⟩ = some (.slice Ak t.n ck1) := by
    have := (S2.own _ (.head _)).2
    simp [World.cell?, this]
  have hgpl : gp < w2.heap.size := S2.lt (.head _)
  have hF2 : Fam w2 w.heap.size [g9, g7, g, gm, g1] [] [hDef Ds] := by
    have h3 := (hF.add (ks' := [g9, g7, g, gm, g1]) (fun x hx => by
      rcases List.mem_cons.1 hx with rfl | hx
      · exact .inr hg9
      · exact .inl hx)).sys S1 ZZHL
    exact h3.below S2.toBelow
  have hkl2 : ∀ x, x ∈ [g9, g7, g, gm, g1] → x < w2.heap.size := fun x hx => Nat.lt_trans (hgpL x hx) hgpl
  clear S1 S2
  repeat (first | (refine M0 ?_; first | refine SL ?_ | refine SB fun _ _ => ?_) | (refine M1 ?_; refine SC ?_) | (refine M2 ?_; refine SE ?_))
  refine XC.rangeFuncD (cap := [.pointer (some ⟨gp, 0, none⟩)]) rfl (ck rfl) (fun fn a D w3 hD hf S3 => ?_)
  obtain ⟨Q, hQ⟩ : ∃ Q, Q = t.qH k := ⟨_, rfl⟩
  rw [← hQ] at S3
  have hfS : Fits 64 [] [(1, .pointer (some ⟨g1, 0, none⟩)), (7, .pointer (some ⟨g7, 0, none⟩)), (9, .pointer (some ⟨g9, 0, none⟩))] { tmps := a.tmps, defers := [] } := by
    have h4 := Sub.fits (G := [(1, .pointer (some ⟨g1, 0, none⟩)), (7, .pointer (some ⟨g7, 0, none⟩)), (9, .pointer (some ⟨g9, 0, none⟩))]) ZZSUB hf
    exact ⟨h4.size, rfl, h4.get⟩
  have hbk := back_any (B := w.heap.size) (l := D + 1) (gp := gp) (n := t.n) (c := ck1) (A := Ak) (ms := (t.h k).vals) (σ := Option Nat)
    (fun s => [(D + 1, .loop (recO fn a.tmps #[42, 43] _ _ D (match s with | none => .ready | some _ => .done) (match s with | none => none | some _ => some (.exit 2)))), (D, .deferred (some [])), (g9, cel 65 (hisC ⟨Ak, t.n, ck1⟩ (t.h k))), (g7, cel 102 [.pointer (some ⟨g, 0, none⟩)]),
      (g, cel 107 (gamQ ⟨vp, vf, ⟨some ah, t.m, ch⟩, ⟨Ar, t.n, cr⟩⟩ t gm (match s with | none => Q | some i => max Q (i + 1)))), (gm, mapO []), (g1, cel 29 (ctkC ⟨vp, vf, ⟨some ah, t.m, ch⟩, ⟨Ar, t.n, cr⟩⟩ t))]) w3
    (fun i s => s = none ∧ ∀ j, i ≤ j → j < t.n → at0 (t.h k).vals j ≤ t.limit) (fun s => ∃ i, s = some i ∧ hiL (t.h k).vals t.limit t.n = i + 1) none
    (S3.rebase (List.Sublist.refl _)) ⟨rfl, fun j h1 h2 => by rw [ho.len k hkm] at h1; omega⟩ ?_ ?_ ?_ ?_ ?_ ?_
  rotate_left
  · have h := S3.farCell (a := ⟨gp, 0, none⟩) hgpl (fun e he => by
      have h5 : e.1 ∈ [D + 1, D, g9, g7, g, gm, g1] := List.mem_map.2 ⟨e, he, rfl⟩
      simp only [List.mem_cons, List.not_mem_nil, or_false] at h5
      have h6 := hgpL e.1
      simp only [List.mem_cons, List.not_mem_nil, or_false] at h6
      show e.1 ≠ gp
      rcases h5 with h5 | h5 | h5
      · omega
      · omega
      · have := h6 h5; omega)
    exact h.trans hgpc
  · exact Nat.lt_of_lt_of_le hgpl S3.size
  · intro s e he
    have h5 : e.1 ∈ [D + 1, D, g9, g7, g, gm, g1] := List.mem_map.2 ⟨e, he, rfl⟩
    simp only [List.mem_cons, List.not_mem_nil, or_false] at h5
    have h6 := hgpL e.1
    simp only [List.mem_cons, List.not_mem_nil, or_false] at h6
    rcases h5 with h5 | h5 | h5
    · omega
    · omega
    · have := h6 h5; omega
  · exact hqk.below (hB2.trans S3.toBelow)
  · rw [ho.len k hkm]; omega
  · rintro i s hi ⟨rfl, hJ⟩ w1 S1
    rw [ho.len k hkm] at hi
    have hB3 : Below w.heap.size w w3 := hB2.trans S3.toBelow
    obtain ⟨ak, rfl, hltk, hvk⟩ := hqk.at_ (by rw [ho.len k hkm]; omega)
    have dV : w3.cell? (ak.add (i * 1)) = some (.int .i64 (at0 (t.h k).vals i)) := (below_cell5 hB3 (add_lt hltk)).trans (hvk i (by rw [ho.len k hkm]; exact hi))
    have hloop := (S1.own _ (.head _)).2
    refine ⟨_, _, _, _, run_yield (args := #[.int .i64 (i : Nat), .int .i64 (at0 (t.h k).vals i)]) hloop rfl, ?_⟩
    refine round_of (hfS.params2 rfl rfl) S1 ?_
    clear hloop
    simp only [gamQ, ctkC, hisC, svV]
    repeat (first | (refine M0 ?_; first | refine SL ?_ | refine SB fun _ _ => ?_) | (refine XI.id ?_; first | refine XI.done ?_ | refine XI.one1 rfl ?_) | (refine XR'.id ?_; first | refine XR'.seq ?_ | refine XR'.region ?_ | refine XR'.block ?_ | refine XR'.skip ?_ | refine XR'.ret ?_ | refine XR'.cond_t rfl ?_ | refine XR'.cond_f rfl ?_ | refine XR'.exit ?_) | (refine M1 ?_; first | refine SC ?_ | refine SD ?_) | (refine M2 ?_; first | refine XE.nextI ?_ | refine XE.nextR ?_ | refine SE ?_))
    refine XE.begin (i := 0) rfl rfl rfl ?_
    repeat (first | (refine M0 ?_; first | refine SL ?_ | refine SB fun _ _ => ?_) | (refine XI.id ?_; first | refine XI.done ?_ | refine XI.one1 rfl ?_) | (refine XR'.id ?_; first | refine XR'.seq ?_ | refine XR'.region ?_ | refine XR'.block ?_ | refine XR'.skip ?_ | refine XR'.ret ?_ | refine XR'.cond_t rfl ?_ | refine XR'.cond_f rfl ?_ | refine XR'.exit ?_) | (refine M1 ?_; first | refine SC ?_ | refine SD ?_) | (refine M2 ?_; first | refine XE.nextI ?_ | refine XE.nextR ?_ | refine SE ?_))
    refine XR'.drawRS w3 _ [0, 1, 2, 3, 4, 5, 6, 7] [] mixed (fun _ h => h) rfl rfl (by kernel_rfl) ?_
    repeat (first | (refine M0 ?_; first | refine SL ?_ | refine SB fun _ _ => ?_ | refine Y4 (Ev.load_loc tok 2 (g := g9) (o := 1) rfl rfl rfl rfl) ?_ | refine Y4 (Ev.load_old tok rfl rfl (add_lt hltk) dV) ?_ | refine Y4 (Ev.load_loc tok 6 (g := g1) (o := 9) rfl rfl rfl rfl) ?_) | (refine M2 ?_; refine SE ?_) | (refine M3 ?_; first | refine SG ?_ | refine SF ?_ | refine YF (Ev.load_loc tok 2 (g := g9) (o := 1) rfl rfl rfl rfl) ?_ | refine YF (Ev.load_old tok rfl rfl (add_lt hltk) dV) ?_ | refine YF (Ev.load_loc tok 6 (g := g1) (o := 9) rfl rfl rfl rfl) ?_) | (refine M4 ?_; refine SR ?_) | (refine M5 ?_; first | exact M7 | refine YM ?_ | refine YN ?_ ?_))
    refine XE.onlyN ?_
    repeat (first | (refine M0 ?_; first | refine SL ?_ | refine SB fun _ _ => ?_) | (refine XI.id ?_; first | refine XI.done ?_ | refine XI.one1 rfl ?_) | (refine XR'.id ?_; first | refine XR'.seq ?_ | refine XR'.region ?_ | refine XR'.block ?_ | refine XR'.skip ?_ | refine XR'.ret ?_ | refine XR'.cond_t rfl ?_ | refine XR'.cond_f rfl ?_ | refine XR'.exit ?_) | (refine M1 ?_; first | refine SC ?_ | refine SD ?_) | (refine M2 ?_; first | refine XE.nextI ?_ | refine XE.nextR ?_ | refine SE ?_))
    refine XR'.cond _ rfl (fun h2 => ?_) (fun h2 => ?_)
    · refine XR'.seq ?_
      refine XR'.drawRS (trunc w w.heap.size) [(g7, cel 102 [.pointer (some ⟨g, 0, none⟩)])] [0, 1, 2, 3, 5, 6] [4, 7, 8, 9, 10] mixed (fun _ h => Sys.anchorT hB3 h (fun e he => by rw [List.mem_singleton.1 he]; exact .tail _ (.tail _ (.tail _ (.head _)))) (by simp) (Nat.le_refl _)) rfl rfl (by kernel_rfl) ?_
      repeat (first | (refine M0 ?_; first | refine SL ?_ | refine SB fun _ _ => ?_ | refine Y4 (Ev.load_loc tok 0 (g := g7) (o := 0) rfl rfl rfl rfl) ?_ | refine Y4 (Ev.load_loc tok 4 (g := g) (o := 13) rfl rfl rfl rfl) ?_) | (refine M2 ?_; refine SE ?_) | (refine M3 ?_; first | refine SG ?_ | refine SF ?_ | refine YF (Ev.load_loc tok 0 (g := g7) (o := 0) rfl rfl rfl rfl) ?_ | refine YF (Ev.load_loc tok 4 (g := g) (o := 13) rfl rfl rfl rfl) ?_) | (refine M4 ?_; refine SR ?_) | (refine M5 ?_; first | exact M7 | refine YM ?_ | refine YN ?_ ?_))
      have hle : w.heap.size ≤ w.heap.size := Nat.le_refl _
      refine z7 ?_
      repeat (first | (refine M0 ?_; first | refine SL ?_ | refine SB fun _ _ => ?_) | (refine M2 ?_; refine SE ?_) | (refine M3 ?_; first | refine SG ?_ | refine SF ?_) | (refine M4 ?_; refine SR ?_) | (refine M5 ?_; first | exact M7 | refine YM ?_ | refine YN ?_ ?_))
      refine z7 ?_
      repeat (first | (refine M0 ?_; first | refine SL ?_ | refine SB fun _ _ => ?_) | (refine M2 ?_; refine SE ?_) | (refine M3 ?_; first | refine SG ?_ | refine SF ?_) | (refine M4 ?_; refine SR ?_) | (refine M5 ?_; first | exact M7 | refine YM ?_ | refine YN ?_ ?_))
      refine z7 ?_
      repeat (first | (refine M0 ?_; first | refine SL ?_ | refine SB fun _ _ => ?_ | refine XL.store_at tok 4 (g := g) (o := 13) (j := 0) (cs := gamQ ⟨vp, vf, ⟨some ah, t.m, ch⟩, ⟨Ar, t.n, cr⟩⟩ t gm Q) rfl rfl rfl rfl rfl (Nat.le_of_ble_eq_true rfl) rfl ?_) | (refine M2 ?_; refine SE ?_) | (refine M3 ?_; first | refine SG ?_ | refine SF ?_) | (refine M4 ?_; refine SR ?_) | (refine M5 ?_; first | exact M7 | refine YM ?_ | refine YN ?_ ?_))
      refine z7 ?_
      repeat (first | (refine M0 ?_; first | refine SL ?_ | refine SB fun _ _ => ?_) | (refine M2 ?_; refine SE ?_) | (refine M3 ?_; first | refine SG ?_ | refine SF ?_) | (refine M4 ?_; refine SR ?_) | (refine M5 ?_; first | exact M7 | refine YM ?_ | refine YN ?_ ?_))
      refine XE.onlyN ?_
      repeat (first | (refine M0 ?_; first | refine SL ?_ | refine SB fun _ _ => ?_) | (refine XI.id ?_; first | refine XI.done ?_ | refine XI.one1 rfl ?_) | (refine XR'.id ?_; first | refine XR'.seq ?_ | refine XR'.region ?_ | refine XR'.block ?_ | refine XR'.skip ?_ | refine XR'.ret ?_ | refine XR'.cond_t rfl ?_ | refine XR'.cond_f rfl ?_ | refine XR'.exit ?_) | (refine M1 ?_; first | refine SC ?_ | refine SD ?_) | (refine M2 ?_; first | refine XE.nextI ?_ | refine XE.nextR ?_ | refine SE ?_))
      refine XE.endExit (i := 0) rfl rfl (fun w' S => ?_)
      refine ⟨_, rfl, .inr ⟨rfl, some i, ⟨i, rfl, ?_⟩, ?_⟩⟩
      · have hlb : lastB (fun i => decide (t.limit < at0 (t.h k).vals i)) t.n = some i := lastB_some.2 ⟨hi, h2, fun j h3 h4 => decide_eq_false (by have := hJ j h3 h4; omega)⟩
        unfold hiL
        rw [hlb]
      · have hmx : max (Q : Int) ((i : Int) + 1) = ((max Q (i + 1) : Nat) : Int) := by omega
        rw [hmx] at S
        exact S
      any_goals (repeat (first | exact AnyR.nil | refine AnyR.skip rfl ?_))
    · repeat (first | (refine M0 ?_; first | refine SL ?_ | refine SB fun _ _ => ?_) | (refine XI.id ?_; first | refine XI.done ?_ | refine XI.one1 rfl ?_) | (refine XR'.id ?_; first | refine XR'.seq ?_ | refine XR'.region ?_ | refine XR'.block ?_ | refine XR'.skip ?_ | refine XR'.ret ?_ | refine XR'.cond_t rfl ?_ | refine XR'.cond_f rfl ?_ | refine XR'.exit ?_) | (refine M1 ?_; first | refine SC ?_ | refine SD ?_) | (refine M2 ?_; first | refine XE.nextI ?_ | refine XE.nextR ?_ | refine SE ?_))
      refine XE.endR (i := 0) rfl rfl (fun w' S => ?_)
      refine ⟨_, rfl, .inl ⟨rfl, none, ⟨rfl, fun j h3 h4 => ?_⟩, S⟩⟩
      rcases Nat.lt_or_ge i j with h5 | h5
      · exact hJ j h5 h4
      · have : i = j := by omega
        subst this
        have := of_decide_eq_false h2
        omega
  have hF3 : Fam w3 w.heap.size [D + 1, D, g9, g7, g, gm, g1] [] [hDef Ds] := (hF2.add (ks' := [D + 1, D, g9, g7, g, gm, g1]) (fun x hx => by
    rcases List.mem_cons.1 hx with rfl | hx
    · right; omega
    rcases List.mem_cons.1 hx with rfl | hx
    · right; omega
    · exact .inl hx)).sys S3 ZZHL
  have hkl3 : ∀ x, x ∈ [D + 1, D, g9, g7, g, gm, g1] → x < w3.heap.size := fun x hx => S3.keyLt x hx
  have hB3 : Below w.heap.size w w3 := hB2.trans S3.toBelow
  have hDn : D ∉ Ds := fun hm => by have := (hF2.held (hDef Ds) (.head _) D hm).1.2.1; omega
  have hDg : ∀ x, x ∈ [g7, g, gm, g1] → x < D := fun x hx => by have := hkl2 x (List.mem_cons_of_mem _ hx); omega
  have hfin := fun {L : Lo} (w9 : World) (S9 : Sys w.heap.size w3 L w9) (hm : (D, .deferred (some [])) ∈ L) (hL : ∀ e, e ∈ L → e.1 ∈ [D + 1, D, g9, g7, g, gm, g1] ∨ w3.heap.size ≤ e.1) => (show Below w.heap.size w w9 ∧ Fam w9 w.heap.size [g7, g, gm, g1] [] [hDef (D :: Ds)] ∧ (D :: Ds).Nodup from by
    have h3 := (hF3.sys S9 hL).add (ks' := [g7, g, gm, g1]) (fun x hx => by left; simp only [List.mem_cons, List.not_mem_nil, or_false] at hx ⊢; omega)
    have hDw := (S9.own _ hm).2
    have hDb := (S9.own _ hm).1
    have hDl := S9.lt hm
    have h4 := h3.hold (x := hDef (D :: Ds)) (ok := Free w9 w.heap.size [g7, g, gm, g1] []) (fun x hx => by
      rcases List.mem_cons.1 hx with rfl | hx
      · exact ⟨⟨hDb, hDl, fun h5 => by have := hDg x h5; omega, fun r hr => by cases hr⟩, hDw⟩
      · exact h3.held (hDef Ds) (.head _) x hx) (fun j hj => hj)
    exact ⟨hB3.trans S9.toBelow, h4.forget (fun x hx => by rw [List.mem_singleton.1 hx]; exact .head _), List.nodup_cons.2 ⟨hDn, hnd⟩⟩)
  refine hbk.mono fun e w4 ⟨v4, e4, hz⟩ => ⟨v4, e4, ?_⟩
  rcases hz with ⟨s, ⟨rfl, hall⟩, S4⟩ | ⟨s, ⟨i, rfl, hi⟩, S4⟩
  · refine ⟨.ready, none, _, w3, by decide, S4, ?_⟩
    have hq1 : t.qH (k + 1) = Q := by
      show max (t.qH k) (hiL (t.h k).vals t.limit t.n) = Q
      obtain ⟨a1, a2, _⟩ := hiL_spec (t.h k).vals t.limit t.n
      rcases a2 with a2 | ⟨j, a2, a3⟩
      · omega
      · have := hall j (Nat.zero_le _) (by omega); omega
    dsimp only [RFEnd]
    repeat (first | (refine M0 ?_; first | refine SL ?_ | refine SB fun _ _ => ?_) | (refine M1 ?_; refine SC ?_) | (refine M2 ?_; refine SE ?_))
    refine XE.roundD (s := (k, W, Ds)) (fun w9 S9 => ?_)
    obtain ⟨b1, b2, b3⟩ := hfin w9 S9 (.tail _ (.head _)) ZZHL
    refine ⟨(k + 1, w9, D :: Ds), ⟨hkm, b1, b2, fun x hx => Nat.lt_of_lt_of_le (hkl3 x (by simp only [List.mem_cons, List.not_mem_nil, or_false] at hx ⊢; omega)) S9.size, b3⟩, by simp only; omega, rfl, ZZSUB, ?_⟩
    simp only [hq1]
    exact S9.rebase ZZSM
  · refine ⟨.done, some (.exit 2), _, w3, by decide, S4, ?_⟩
    have hq1 : t.qH (k + 1) = max Q (i + 1) := by
      show max (t.qH k) (hiL (t.h k).vals t.limit t.n) = _
      rw [hi, hQ]
    dsimp only [RFEnd]
    repeat (first | (refine M0 ?_; first | refine SL ?_ | refine SB fun _ _ => ?_) | (refine M1 ?_; refine SC ?_) | (refine M2 ?_; refine SE ?_))
    refine XE.roundD (s := (k, W, Ds)) (fun w9 S9 => ?_)
    obtain ⟨b1, b2, b3⟩ := hfin w9 S9 (.tail _ (.head _)) ZZHL
    refine ⟨(k + 1, w9, D :: Ds), ⟨hkm, b1, b2, fun x hx => Nat.lt_of_lt_of_le (hkl3 x (by simp only [List.mem_cons, List.not_mem_nil, or_false] at hx ⊢; omega)) S9.size, b3⟩, by simp only; omega, rfl, ZZSUB, ?_⟩
    simp only [hq1]
    exact S9.rebase ZZSM
end Go.Proofs.Ytmpaiphakjogjaa.X
/-
  Callers that begin a game themselves: begin, calls that may do runs, rows that grow beside a game.
-/
namespace Go.Proofs.Ytmpaiphakjogjaa.X
open Go Go.RowKit Go.Proofs.Ytmpaiphakjogjaa.Bs
set_option linter.unusedVariables false
section
variable {t : CTk} {v : CTV} {b0 b1 g gm : Nat} {ks ks' : List Nat} {rs : List RowX} {hs hs' new : List Held} {w w' wE w0 w1 w2 : World} {L : Lo} {B : Nat}
/-- from a lower block on; the blocks between are none of the game's. -/
theorem Gam.lower (h : Gam t v b1 g gm ks [] [] w) (hb : b0 ≤ b1) (ht : CtAt w b0 v t) (hsub : ∀ k, k ∈ ks → k ∈ ks') (hks : ∀ k, k ∈ ks' → k ∈ ks ∨ k < b1) : Gam t v b0 g gm ks' [] [] w := by
  have hl : b1 ≤ w.heap.size := h.fam.base
  refine ⟨Fam.start (Nat.le_trans hb hl), fun hk => ?_, hsub g h.gin, fun k hk => ?_, Nat.le_trans hb h.bg, Nat.le_trans hb h.bm, h.game, ht, h.memo.mono fun j hj => ⟨Nat.le_trans hb hj.1, hj.2.1, fun hk => ?_, fun r hr => by cases hr⟩⟩
  · rcases hks gm hk with h1 | h1
    · exact h.nin h1
    · have := h.bm; omega
  · rcases List.mem_cons.1 hk with rfl | hk
    · exact h.lt k (.head _)
    · rcases hks k hk with h1 | h1
      · exact h.lt k (List.mem_cons_of_mem _ h1)
      · omega
  · rcases List.mem_cons.1 hk with rfl | hk
    · exact hj.2.2.1 (.head _)
    · rcases hks j hk with h1 | h1
      · exact hj.2.2.1 (List.mem_cons_of_mem _ h1)
      · have := hj.1; omega
/-- fewer blocks are told of. -/
theorem Gam.less (h : Gam t v b0 g gm ks rs hs w) (hsub : ∀ k, k ∈ ks' → k ∈ ks) (hg : g ∈ ks') : Gam t v b0 g gm ks' rs hs w := by
  have hs' : ∀ k, k ∈ gm :: ks' → k ∈ gm :: ks := fun k hk => by
    rcases List.mem_cons.1 hk with rfl | hk
    · exact .head _
    · exact List.mem_cons_of_mem _ (hsub k hk)
  exact ⟨h.fam.add fun k hk => .inl (hs' k hk), fun hk => h.nin (hsub gm hk), hg, fun k hk => h.lt k (hs' k hk), h.bg, h.bm, h.game, h.task, h.memo.mono fun j hj => ⟨hj.1, hj.2.1, fun hk => hj.2.2.1 (hs' j hk), hj.2.2.2⟩⟩
variable {N : Nat} {ds : List Deferred} {Q : Exit → Act → World → Prop} {F : Fr} {ops : Array Oper} {rest : List Oper} {ty : TypeId} {p : String} {af : Array Edge}
/-- a call of begin. -/
theorem XL.begin5 {d : Nat} {args : Array Operand} {ats : Array TypeId} (hT : CtAt w0 B v t) (ha : evos F args.toList = some [ctkV v t]) (hd : Nat.blt d N = true)
    (k1 : ctE t ≠ 0 → ∀ w', Below B w0 w' → XL Try.prog N B w' ds Q ops rest ((d, .tuple ⟨[.pointer none, .int .i64 (ctE t)]⟩) :: F) L)
    (k2 : ctE t = 0 → CtOk t → ∀ w' g gm, Gam t v B g gm (g :: L.map (·.1)) [] [] w' → Below B w0 w' → w0.heap.size ≤ g → XL Try.prog N B w' ds Q ops rest ((d, .tuple ⟨[.pointer (some ⟨g, 0, none⟩), .int .i64 0]⟩) :: F) ((g, gamO v t gm) :: L)) :
    XL Try.prog N B w0 ds Q ops ({ dst := some d, op := .call { callee := .value (.func 46), args := args, argTypes := ats }, type := ty, pos := p, after := af, guard := none } :: rest) F L := by
  refine XL.callr (fst := []) (cap := []) (fun w x w' => BegR t v w (.returned x) w') (ck rfl) rfl ha hd (fun w S => ?_) (fun w x w' S hR => ?_)
  · simp only [List.nil_append, List.append_nil]
    exact (begin_any ((hT.below S.toBelow).more (Nat.le_trans S.base S.size))).mono fun e w' hR => by
      obtain ⟨h1, h2 | h2⟩ := hR
      · exact ⟨_, h2.2, h1, .inl ⟨h2.1, rfl⟩⟩
      · obtain ⟨h3, g, gm, h4, h5⟩ := h2
        exact ⟨_, h4, h1, .inr ⟨h3, g, gm, rfl, h5⟩⟩
  · obtain ⟨h1, h2 | h2⟩ := hR
    · obtain ⟨h3, h4⟩ := h2
      cases h4
      exact ⟨L, w', S.made h1, k1 h3 w' (S.toBelow.trans (h1.mono (Nat.le_trans S.base S.size)))⟩
    · obtain ⟨h3, g, gm, h4, h5⟩ := h2
      cases h4
      have hB : Below B w0 w' := S.toBelow.trans (h1.mono (Nat.le_trans S.base S.size))
      have hgl : w.heap.size ≤ g := h5.bg
      have hlow : Gam t v B g gm (g :: L.map (·.1)) [] [] w' := h5.lower (Nat.le_trans S.base S.size) (hT.below hB) (fun k hk => by rw [List.mem_singleton.1 hk]; exact .head _) (fun k hk => by
        rcases List.mem_cons.1 hk with rfl | hk
        · exact .inl (.head _)
        · exact .inr (S.keyLt k hk))
      have S' := S.made h1
      refine ⟨(g, gamO v t gm) :: L, w', Sys.start S'.base (fun e he => ?_) ?_, k2 h3 (ctOk_of h3) w' g gm hlow hB (Nat.le_trans S.size hgl)⟩
      · rcases List.mem_cons.1 he with rfl | he
        · exact ⟨hlow.bg, hlow.game⟩
        · exact S'.own e he
      · simp only [List.map_cons, List.nodup_cons]
        refine ⟨fun hm => ?_, S.nd⟩
        have := S.keyLt g hm
        omega
variable {P : Program}
/-- a call that may do runs, of a game of one's own. -/
theorem XL.callJ {f : FuncId} {d : Nat} {args : Array Operand} {vs : List Value} {ats : Array TypeId} (R : Value → List Held → Prop) (h : callOk P f = true)
    (ha : evos F args.toList = some vs) (hd : Nat.blt d N = true) (hG : Gam t v b0 g gm ks rs hs w0) (hg : (g, gamO v t gm) ∈ L)
    (hc : ∀ w ks2, Sys b0 w0 L w → (∀ e, e ∈ L → e.1 ∈ ks2) → Gam t v b0 g gm ks2 [] [] w → Calls P f vs.toArray w (GamR t b0 gm ks2 R w))
    (k : ∀ w' x new, R x new → Gam t v b0 g gm (L.map (·.1) ++ ks) rs (new ++ hs) w' → Below b0 w0 w' → XL P N b0 w' ds Q ops rest ((d, x) :: F) L)
    (hL : ∀ e, e ∈ L → e.1 ∈ ks ∨ w0.heap.size ≤ e.1 := by exact ZZHM) :
    XL P N b0 w0 ds Q ops ({ dst := some d, op := .call { callee := .value (.func f), args := args, argTypes := ats }, type := ty, pos := p, after := af, guard := none } :: rest) F L := by
  refine XL.callr (fst := []) (cap := []) (fun w x w' => ∃ new, R x new ∧ Gam t v b0 g gm (L.map (·.1) ++ ks) rs (new ++ hs) w' ∧ Since w gm w') h rfl ha hd (fun w S => ?_) (fun w x w' S hR => ?_)
  · have hA := hG.add S hg hL
    have := hc w _ S (fun e he => List.mem_append_right _ (List.mem_append_left _ (List.mem_map.2 ⟨e, he, rfl⟩))) hA.down
    simp only [List.nil_append, List.append_nil]
    exact this.mono fun e w' ⟨x, new, e1, e2, e3, e4, e5⟩ => ⟨x, e1, new, e2, hA.after rfl e3 e4 e5, e3⟩
  · obtain ⟨new, e2, hG', e3⟩ := hR
    have hne : ∀ e, e ∈ L → e.1 ≠ gm := fun e he e1 => by
      rcases hL e he with h1 | h1
      · exact hG.nin (e1 ▸ h1)
      · have := hG.lt gm (.head _); omega
    have S' : Sys b0 w' L w' := Sys.start hG'.fam.base (fun e he => ⟨(S.own e he).1, by rw [e3.old e.1 (S.lt he) (hne e he)]; exact (S.own e he).2⟩) S.nd
    exact ⟨L, w', S', k w' x new e2 hG' (S.toBelow.trans (e3.below hG.bm (Nat.le_trans S.base S.size)))⟩
/-- a row grows, beside a game. -/
theorem XL.pushG {α : Type} {K : Kind α} {d tt : Nat} {x y : Operand} {vv : Value} {l : List α} {a : α} {bytes gn : Nat} (i : Nat) (he : elemOk P tt K.ty K.m bytes = true) (h0 : 0 < K.m)
    (hx : evo F x = some vv) (hy : evo F y = some (.slice (some ⟨gn, 0, none⟩) 1 1)) (hd : Nat.blt d N = true) (hG : Gam t v b0 g gm ks rs hs w0) (hg : (g, gamO v t gm) ∈ L) (hi : rs[i]? = some ⟨α, K, vv, l⟩)
    (hA : (gn, cel K.ty (K.c a)) ∈ L) (ha : K.sl a = []) (h1 : ∀ a : α, (K.c a).all Value.oneCell' = true) (h63 : l.length + 1 ≤ 10000000) (hb : bytes ≤ 10000000)
    (k : ∀ w' r', Gam t v b0 g gm (L.map (·.1) ++ ks) (rs.set i ⟨α, K, svV r', l ++ [a]⟩) hs w' → Below b0 w0 w' → XL P N b0 w' ds Q ops rest ((d, svV r') :: F) L)
    (hL : ∀ e, e ∈ L → e.1 ∈ ks ∨ w0.heap.size ≤ e.1 := by exact ZZHM) :
    XL P N b0 w0 ds Q ops ({ dst := some d, op := .call { callee := .builtin .append, args := #[x, y], argTypes := #[tt, tt] }, type := ty, pos := p, after := af, guard := none } :: rest) F L := by
  have hgmL : ∀ e, e ∈ L → e.1 ≠ gm := fun e he e1 => by
    rcases hL e he with h1 | h1
    · exact hG.nin (e1 ▸ h1)
    · have := hG.lt gm (.head _); omega
  have hri : (⟨α, K, vv, l⟩ : RowX) ∈ rs := List.mem_of_getElem? hi
  refine XL.append2 (v := vv) (m := 1) (n := l.length) (size := K.m) (bytes := bytes) (base := b0) (A := ⟨gn, 0, none⟩) (xs := l.flatMap K.c) (news := K.c a) (L' := L) he h0 hx hy hd (hG.fam.row _ hri) (fun q hq e he2 e1 => ?_) (by rw [K.len]; omega) (fun w S j u hj => ?_) (h1 a) (by unfold maxLen; omega)
    (Nat.le_trans (Nat.mul_le_mul h63 hb) (by decide)) hG.fam.base (List.Sublist.refl _) (fun w v' w' S ho hgr _ hfr => ?_)
  · rcases hL e he2 with h2 | h2
    · exact hG.fam.sep _ hri q hq (e1 ▸ List.mem_cons_of_mem _ h2)
    · have := (hG.fam.lt hri hq).2; omega
  · rw [add_off, Nat.zero_add, S.cell hA j]; exact hj
  · have hW := hG.add S hg hL
    have hsz := hgr.size
    have hsame : ∀ j, j < w.heap.size → vv.ownBlock ≠ some j → w'.heap[j]? = w.heap[j]? := fun j hj hv => hgr.block j hj fun e2 => hv e2.symm
    have hFF := hW.fam.push hi (fun x hx => by rw [ha] at hx; cases hx) ho hsz (fun j hj _ hv => hsame j hj hv) (fun q hq => by
      rcases hfr q hq with h2 | h2
      · exact .inl h2
      · exact .inr ⟨h2, fun hm => by have := hW.lt q hm; omega⟩)
    have hsep : ∀ q, q ∈ gm :: (L.map (·.1) ++ ks) → w'.heap[q]? = w.heap[q]? := fun q hq => hsame q (hW.lt q hq) fun e => hW.fam.sep _ hri q e hq
    have hBw : Below b0 w w' := ⟨hgr.os, hgr.tape, hgr.output, hsz, fun j hj => hsame j (Nat.lt_of_lt_of_le hj (Nat.le_trans S.base S.size)) fun e => by have := (hG.fam.lt hri e).1; omega⟩
    obtain ⟨r', rfl, _⟩ := hFF.sv (K := K) (l := l ++ [a]) (v := v') (List.mem_iff_getElem?.2 ⟨i, by rw [List.getElem?_set_self (List.getElem?_eq_some_iff.1 hi).1]⟩)
    refine k w' r' ⟨hFF, hW.nin, hW.gin, fun q hq => Nat.lt_of_lt_of_le (hW.lt q hq) hsz, hW.bg, hW.bm, (hsep g (List.mem_cons_of_mem _ hW.gin)).trans hW.game, hW.task.below hBw, ?_⟩ (S.toBelow.trans hBw)
    refine (hW.memo.keep (w' := w') fun j hj => ?_).mono fun j hj => ⟨hj.1, Nat.lt_of_lt_of_le hj.2.1 hsz, hj.2.2.1, fun r hr e => ?_⟩
    · rcases hj with hj | rfl
      · exact hsame j hj.2.1 fun e => hj.2.2.2 _ hri e
      · exact hsep _ (.head _)
    · rcases List.mem_or_eq_of_mem_set hr with h2 | h2
      · exact hj.2.2.2 r h2 e
      · subst h2
        rcases hfr j e with h3 | h3
        · exact hj.2.2.2 _ hri h3
        · have := hj.2.1; omega
end
end Go.Proofs.Ytmpaiphakjogjaa.X
/-
  The walks of Quiet, Plan, Holds and Inner (closure).
-/
namespace Go.Proofs.Ytmpaiphakjogjaa.Bs
open Go Go.Proofs.Ytmpaiphakjogjaa.X
noncomputable def CTk.quiN (t : CTk) : Int := if ctE t ≠ 0 then 0 else t.from_ + t.q
noncomputable def CTk.plnE (t : CTk) (i : Int) : Int := if ctE t ≠ 0 then ctE t else if outB i t.from_ (t.from_ + t.last) = true then 7 else 0
noncomputable def CTk.plnP (t : CTk) (i : Int) : CPl := if t.plnE i ≠ 0 then ⟨0, 0⟩ else t.plan (i - t.from_)
noncomputable def CTk.hldE (t : CTk) (p : CPl) : Int := if ctE t ≠ 0 then ctE t else if t.strange p = true then 7 else 0
noncomputable def CTk.hldL (t : CTk) (p : CPl) : List Bool := if t.hldE p ≠ 0 then [] else t.holdL p
/-- the spans of the levels inside; none: one is too great. -/
noncomputable def CTk.spans (t : CTk) (k : Nat) (p : CPl) (n : Nat) : List (Int × Int) := (List.range n).map fun i => (t.lo (lvD (t.ins k p i)), t.hi (lvD (t.ins k p i)))
noncomputable def CTk.innE (t : CTk) (k : Int) (p : CPl) : Int :=
  if ctE t ≠ 0 then ctE t else if outB k 0 ((t.m : Int) - 1) = true then 4 else if t.strange p = true then 7 else
  if (firstB (fun i => (t.ins k.toNat p i).isNone) t.n).isSome = true then 3 else 0
noncomputable def CTk.innL (t : CTk) (k : Int) (p : CPl) : List (Int × Int) := if t.innE k p ≠ 0 then [] else t.spans k.toNat p t.n
end Go.Proofs.Ytmpaiphakjogjaa.Bs
namespace Go.Proofs.Ytmpaiphakjogjaa.X
open Go Go.RowKit Go.Proofs.Ytmpaiphakjogjaa.Bs
set_option linter.unusedVariables false
def boolK5 : Kind Bool := ⟨4, 1, fun b => [.bool b], fun _ => [], fun _ => rfl⟩
theorem bool5_el : elemOk Try.prog 54 boolK5.ty boolK5.m 1 = true := by kernel_rfl
def spnK5 : Kind (Int × Int) := ⟨85, 2, fun x => [.int .i64 x.1, .int .i64 x.2], fun _ => [], fun _ => rfl⟩
theorem spn5_el : elemOk Try.prog 80 spnK5.ty spnK5.m 16 = true := by kernel_rfl
set_option maxHeartbeats 4000000 in
theorem Quiet_any {v : CTV} {t : CTk} {w : World} (h : CtAt w w.heap.size v t) :
    Calls Try.prog 13 #[ctkV v t] w fun e w' => e = .returned (.tuple ⟨[.int .i64 t.quiN, .int .i64 (ctE t)]⟩) ∧ Below w.heap.size w w' := by
  simp only [ctkV, ctkC]
  refine enter Try.func13 rfl Try.ntmps13 rfl ?_; simp only [frame, Nat.zero_add, Nat.reduceAdd]
  repeat (first | (refine M0 ?_; first | refine SL ?_ | refine SB fun _ _ => ?_) | (refine M1 ?_; refine SC ?_) | (refine M2 ?_; refine SE ?_))
  refine XL.begin5 (v := v) (t := t) h rfl rfl (fun hc w1 hB1 => ?_) (fun hc ho w1 g gm hG hB1 hg1 => ?_)
  · repeat (first | (refine M0 ?_; first | refine SL ?_ | refine SB fun _ _ => ?_) | (refine M1 ?_; refine SC ?_) | (refine M2 ?_; refine SE ?_))
    rw [show decide (ctE t ≠ 0) = true from decide_eq_true hc]
    repeat (first | (refine M0 ?_; first | refine SL ?_ | refine SB fun _ _ => ?_) | (refine M1 ?_; refine SC ?_) | (refine M2 ?_; refine SE ?_))
    refine XE.retg tok Try.results13 rfl (by simp only [and_self, and_true]) (fun w' S => ?_)
    exact ⟨by unfold CTk.quiN; rw [if_pos hc]; rfl, hB1.trans S.toBelow⟩
  have h1 := ho.frm
  have h2 : t.q ≤ t.n := (qTo_spec t t.n).1
  have h3 := ho.n60
  simp only [gamO, gamC]
  repeat (first | (refine M0 ?_; first | refine SL ?_ | refine SB fun _ _ => ?_) | (refine M1 ?_; refine SC ?_) | (refine M2 ?_; refine SE ?_))
  refine XC.hint 4 1 ?_
  repeat (first | (refine M0 ?_; first | refine SL ?_ | refine SB fun _ _ => ?_) | (refine M1 ?_; first | refine SC ?_ | refine SD ?_) | (refine M2 ?_; refine SE ?_) | (refine M3 ?_; first | refine SG ?_ | refine SF ?_) | (refine M4 ?_; refine SR ?_) | (refine M5 ?_; first | exact M7 | refine YM ?_ | refine YN ?_ ?_))
  refine XE.retg tok Try.results13 rfl (by simp only [and_self, and_true]) (fun w' S => ?_)
  exact ⟨by unfold CTk.quiN; rw [if_neg (by simp [hc]), hc]; rfl, hB1.trans S.toBelow⟩
set_option maxHeartbeats 4000000 in
theorem Plan_any {v : CTV} {t : CTk} {i : Int} {w : World} (h : CtAt w w.heap.size v t) :
    Calls Try.prog 15 #[ctkV v t, .int .i64 i] w fun e w' => e = .returned (.tuple ⟨[plnV (t.plnP i), .int .i64 (t.plnE i)]⟩) ∧ Below w.heap.size w w' := by
  simp only [ctkV, ctkC]
  refine enter Try.func15 rfl Try.ntmps15 rfl ?_; simp only [frame, Nat.zero_add, Nat.reduceAdd]
  repeat (first | (refine M0 ?_; first | refine SL ?_ | refine SB fun _ _ => ?_) | (refine M1 ?_; refine SC ?_) | (refine M2 ?_; refine SE ?_))
  refine XL.begin5 (v := v) (t := t) h rfl rfl (fun hc w1 hB1 => ?_) (fun hc ho w1 g gm hG hB1 hg1 => ?_)
  · repeat (first | (refine M0 ?_; first | refine SL ?_ | refine SB fun _ _ => ?_) | (refine M1 ?_; refine SC ?_) | (refine M2 ?_; refine SE ?_))
    rw [show decide (ctE t ≠ 0) = true from decide_eq_true hc]
    repeat (first | (refine M0 ?_; first | refine SL ?_ | refine SB fun _ _ => ?_) | (refine M1 ?_; refine SC ?_) | (refine M2 ?_; refine SE ?_))
    refine XE.retg tok Try.results15 rfl (by simp only [and_self, and_true]) (fun w' S => ?_)
    have e1 : t.plnE i = ctE t := by unfold CTk.plnE; rw [if_pos hc]
    exact ⟨by unfold CTk.plnP; rw [e1, if_pos hc]; rfl, hB1.trans S.toBelow⟩
  have hgame := hG.game
  have hla := fun {L : Lo} {B : Nat} (w5 : World) (S5 : Sys B w1 L w5) (hm : (g, gamO v t gm) ∈ L) => last_any (v := v) (t := t) (gm := gm) (S5.own _ hm).2 ho
  have hpl := fun {L : Lo} {B : Nat} (w5 : World) (S5 : Sys B w1 L w5) (hm : (g, gamO v t gm) ∈ L) (hi : 0 ≤ i - t.from_ ∧ i - t.from_ ≤ 1000) => plan_any (v := v) (t := t) (gm := gm) (i := i - t.from_) (S5.own _ hm).2 ho hi
  have h1 := ho.frm
  have h3 := ho.n60
  have hd := ho.dly
  have hl1 : -31 ≤ t.last ∧ t.last ≤ 60 := by unfold CTk.last; omega
  simp only [gamO, gamC]
  repeat (first | (refine M0 ?_; first | refine SL ?_ | refine SB fun _ _ => ?_) | (refine M1 ?_; refine SC ?_) | (refine M2 ?_; refine SE ?_))
  refine XC.hint 6 2 ?_
  repeat (first | (refine M0 ?_; first | refine SL ?_ | refine SB fun _ _ => ?_ | refine Y4 (Ev.call (f := 49) (ck rfl) rfl (fun w5 S5 => hla w5 S5 (.head _))) ?_ | refine Y4 (Ev.call (f := 37) (ck rfl) rfl (fun w S => cout_any _ _ _ w)) ?_) | (refine M1 ?_; first | refine SC ?_ | refine SD ?_) | (refine M2 ?_; refine SE ?_) | (refine M3 ?_; first | refine SG ?_ | refine SF ?_ | refine YF (Ev.call (f := 49) (ck rfl) rfl (fun w5 S5 => hla w5 S5 (.head _))) ?_ | refine YF (Ev.call (f := 37) (ck rfl) rfl (fun w S => cout_any _ _ _ w)) ?_) | (refine M4 ?_; refine SR ?_) | (refine M5 ?_; first | exact M7 | refine YM ?_ | refine YN ?_ ?_))
  cases ho1 : outB i t.from_ (t.from_ + t.last)
  rotate_left
  · repeat (first | (refine M0 ?_; first | refine SL ?_ | refine SB fun _ _ => ?_) | (refine M1 ?_; refine SC ?_) | (refine M2 ?_; refine SE ?_))
    refine XE.retg tok Try.results15 rfl (by simp only [and_self, and_true]) (fun w' S => ?_)
    have e1 : t.plnE i = 7 := by unfold CTk.plnE; rw [if_neg (by simp [hc]), if_pos ho1]
    exact ⟨by unfold CTk.plnP; rw [e1, if_pos (by decide)]; rfl, hB1.trans S.toBelow⟩
  have hi := outB_f.1 ho1
  repeat (first | (refine M0 ?_; first | refine SL ?_ | refine SB fun _ _ => ?_ | refine Y4 (Ev.call (f := 50) (ck rfl) rfl (fun w5 S5 => hpl w5 S5 (.head _) (by omega))) ?_) | (refine M1 ?_; refine SC ?_) | (refine M2 ?_; refine SE ?_))
  refine XE.retg tok Try.results15 rfl (by simp only [and_self, and_true]) (fun w' S => ?_)
  have e1 : t.plnE i = 0 := by unfold CTk.plnE; rw [if_neg (by simp [hc]), if_neg (by simp [ho1])]
  exact ⟨by unfold CTk.plnP; rw [e1, if_neg (by decide)]; rfl, hB1.trans S.toBelow⟩
def HldR (t : CTk) (p : CPl) (x : Value) (new : List Held) : Prop := ∃ q : SV, x = .tuple ⟨[svV q, .int .i64 (t.hldE p)]⟩ ∧ new = [hList boolK5 q (t.hldL p)]
set_option maxHeartbeats 8000000 in
theorem Holds_made {v : CTV} {t : CTk} {p : CPl} {w : World} (h : CtAt w w.heap.size v t) :
    Calls Try.prog 22 #[ctkV v t, plnV p] w (Made w (HldR t p)) := by
  have hhn := h.hn
  simp only [ctkV, ctkC, plnV]
  refine enter Try.func22 rfl Try.ntmps22 rfl ?_; simp only [frame, Nat.zero_add, Nat.reduceAdd]
  repeat (first | (refine M0 ?_; first | refine SL ?_ | refine SB fun _ _ => ?_) | (refine M1 ?_; refine SC ?_) | (refine M2 ?_; refine SE ?_))
  refine XL.begin5 (v := v) (t := t) h rfl rfl (fun hc w1 hB1 => ?_) (fun hc ho w1 g gm hG hB1 hg1 => ?_)
  · repeat (first | (refine M0 ?_; first | refine SL ?_ | refine SB fun _ _ => ?_) | (refine M1 ?_; refine SC ?_) | (refine M2 ?_; refine SE ?_))
    rw [show decide (ctE t ≠ 0) = true from decide_eq_true hc]
    repeat (first | (refine M0 ?_; first | refine SL ?_ | refine SB fun _ _ => ?_) | (refine M1 ?_; refine SC ?_) | (refine M2 ?_; refine SE ?_))
    refine XE.retg tok Try.results22 rfl (by simp only [and_self, and_true]) (fun w' S => ?_)
    have e1 : t.hldE p = ctE t := by unfold CTk.hldE; rw [if_pos hc]
    exact ⟨_, _, rfl, ⟨⟨none, 0, 0⟩, by rw [e1]; rfl, rfl⟩, fun x hx => by rw [List.mem_singleton.1 hx]; unfold CTk.hldL; rw [e1, if_pos hc]; exact ListAt.nil, hB1.trans S.toBelow⟩
  have hst := fun {L : Lo} {B : Nat} {W : World} (w5 : World) (S5 : Sys B W L w5) (hm : (g, gamO v t gm) ∈ L) => stranger_any (v := v) (t := t) (gm := gm) (p := p) (S5.own _ hm).2 ho
  simp only [plnV] at hst
  rename_i g2 hg2 g3 hg3
  simp only [gamO, gamC]
  repeat (first | (refine M0 ?_; first | refine SL ?_ | refine SB fun _ _ => ?_ | refine Y4 (Ev.call (f := 61) (ck rfl) rfl (fun w5 S5 => hst w5 S5 (.head _))) ?_) | (refine M1 ?_; refine SC ?_) | (refine M2 ?_; refine SE ?_))
  cases hs : t.strange p
  rotate_left
  · repeat (first | (refine M0 ?_; first | refine SL ?_ | refine SB fun _ _ => ?_) | (refine M1 ?_; refine SC ?_) | (refine M2 ?_; refine SE ?_))
    refine XE.retg tok Try.results22 rfl (by simp only [and_self, and_true]) (fun w' S => ?_)
    have e1 : t.hldE p = 7 := by unfold CTk.hldE; rw [if_neg (by simp [hc]), if_pos hs]
    exact ⟨_, _, rfl, ⟨⟨none, 0, 0⟩, by rw [e1]; rfl, rfl⟩, fun x hx => by rw [List.mem_singleton.1 hx]; unfold CTk.hldL; rw [e1, if_pos (by decide)]; exact ListAt.nil, hB1.trans S.toBelow⟩
  have e1 : t.hldE p = 0 := by unfold CTk.hldE; rw [if_neg (by simp [hc]), if_neg (by simp [hs])]
  have e2 : t.hldL p = t.holdL p := by unfold CTk.hldL; rw [e1, if_neg (by decide)]
  have hm8 := ho.m8
  have hfl := fun (k : Nat) (hk : k < t.m) (w5 : World) (ks2 : List Nat) (hG5 : Gam t v w.heap.size g gm ks2 [] [] w5) => fails_any (p := p) hG5 ho hk hs
  simp only [plnV] at hfl
  have hR0 : Gam t v w.heap.size g gm [g, g3, g2] [⟨Bool, boolK5, .slice none 0 0, (List.range 0).map fun k => t.holds k p⟩] [] w1 :=
    ⟨Fam.nil boolK5 hG.fam, hG.nin, hG.gin, hG.lt, hG.bg, hG.bm, hG.game, hG.task, hG.memo.mono fun j hj => ⟨hj.1, hj.2.1, hj.2.2.1, fun r hr => by rw [List.mem_singleton.1 hr]; simp [Value.ownBlock]⟩⟩
  repeat (first | (refine M0 ?_; first | refine SL ?_ | refine SB fun _ _ => ?_) | (refine M1 ?_; refine SC ?_) | (refine M2 ?_; refine SE ?_))
  refine XC.loopk [3, 6, 23] rfl (fun z : Nat × World × SV => [(4, svV z.2.2), (24, .int .i64 (z.1 : Nat))]) (fun z => [(g, gamO v t gm), (g3, cel 36 [.int .i64 p.close, .int .i64 p.open_]), (g2, cel 29 (ctkC v t))]) (fun z => z.2.1)
    (fun z => z.1 ≤ t.m ∧ Below w.heap.size w z.2.1 ∧ Gam t v w.heap.size g gm [g, g3, g2] [⟨Bool, boolK5, svV z.2.2, (List.range z.1).map fun k => t.holds k p⟩] [] z.2.1) (fun z => t.m - z.1) (0, w1, ⟨none, 0, 0⟩) ⟨Nat.zero_le _, hB1, hR0⟩ ZZSUB (fun _ h => h) ?_
  rintro ⟨k, W, q⟩ ⟨hk, hB, hGW⟩
  simp only at hk hB hGW
  simp only [svV, gamO, gamC, ctkC]
  dsimp only [List.cons_append, List.nil_append]
  repeat (first | (refine M0 ?_; first | refine SL ?_ | refine SB fun _ _ => ?_) | (refine M1 ?_; refine SC ?_) | (refine M2 ?_; refine SE ?_))
  refine XC.cond _ rfl (fun h1 => ?_) (fun h1 => ?_)
  rotate_left
  · have hkm : k = t.m := by have := of_decide_eq_false h1; omega
    subst hkm
    repeat (first | (refine M0 ?_; first | refine SL ?_ | refine SB fun _ _ => ?_) | (refine M1 ?_; refine SC ?_) | (refine M2 ?_; refine SE ?_))
    refine XE.retg tok Try.results22 rfl (by simp only [and_self, and_true]) (fun w' S => ?_)
    have hF9 := hGW.fam.sys S ZZHL
    obtain ⟨qA, qn, qc⟩ := q
    exact ⟨_, _, rfl, ⟨⟨qA, qn, qc⟩, by rw [e1]; rfl, rfl⟩, fun x hx => by rw [List.mem_singleton.1 hx, e2]; exact hF9.listOf (K := boolK5) (.head _), hB.trans S.toBelow⟩
  have hkm : k < t.m := by have := of_decide_eq_true h1; omega
  have hgs : g ∈ [g, g3, g2] := by simp
  have hg3s : g3 ∈ [g, g3, g2] := by simp
  have hg2s : g2 ∈ [g, g3, g2] := by simp
  repeat (first | (refine M0 ?_; first | refine SL ?_ | refine SB fun _ _ => ?_) | (refine M1 ?_; refine SC ?_) | (refine M2 ?_; refine SE ?_))
  refine XL.callJ (IntR (idxB (t.above k p) t.n)) (ck rfl) rfl rfl hGW (.head _) (fun w5 ks2 _ _ hG5 => hfl k hkm w5 ks2 hG5) (fun w2 x new hR hG2 hB2 => ?_)
  obtain ⟨rfl, rfl⟩ := hR
  repeat (first | (refine M0 ?_; first | refine SL ?_ | refine SB fun _ _ => ?_) | (refine M1 ?_; refine SC ?_) | (refine M2 ?_; refine SE ?_))
  rw [show decide (idxB (t.above k p) t.n < 0) = t.holds k p from idxB_neg]
  repeat (first | (refine M0 ?_; first | refine SL ?_ | refine SB fun _ _ => ?_ | refine XL.buildSlice tok rfl rfl rfl rfl rfl rfl rfl rfl rfl (fun _ _ => ?_)) | (refine M1 ?_; refine SC ?_) | (refine M2 ?_; refine SE ?_))
  rename_i gn hgn
  refine XL.pushG (K := boolK5) (a := t.holds k p) (gn := gn) (bytes := 1) 0 bool5_el (by decide) rfl rfl rfl hG2 (.tail _ (.head _)) rfl (.head _) rfl (fun a => rfl) (by rw [List.length_map, List.length_range]; omega) (by decide) (fun w3 r' hG3 hB3 => ?_) ZZHL
  obtain ⟨rA, rn, rc⟩ := r'
  simp only [svV]
  repeat (first | (refine M0 ?_; first | refine SL ?_ | refine SB fun _ _ => ?_) | (refine M1 ?_; refine SC ?_) | (refine M2 ?_; refine SE ?_))
  refine XE.roundW (s := (k, W, q)) (fun w9 S9 => ⟨(k + 1, w9, ⟨rA, rn, rc⟩), ⟨hkm, hB.trans (hB2.trans (hB3.trans S9.toBelow)), ?_⟩, by simp only; omega, ZZSUB, S9.rebase ZZSM⟩)
  have hl : (List.range k).map (fun k => t.holds k p) ++ [t.holds k p] = (List.range (k + 1)).map fun k => t.holds k p := by rw [List.range_succ, List.map_append]; rfl
  simp only [List.set_cons_zero, hl] at hG3
  exact (hG3.sys S9 (.tail _ (.head _)) ZZHL).less (fun x hx => by simp only [List.mem_cons, List.not_mem_nil, or_false] at hx; simp only [List.map_cons, List.map_nil, List.mem_append, List.mem_cons, List.not_mem_nil, or_false]; omega) (by simp)
def InnR (t : CTk) (k : Int) (p : CPl) (x : Value) (new : List Held) : Prop := ∃ q : SV, x = .tuple ⟨[svV q, .int .i64 (t.innE k p)]⟩ ∧ new = [hList spnK5 q (t.innL k p)]
set_option maxHeartbeats 8000000 in
theorem Inner_made {v : CTV} {t : CTk} {h0 : Int} {p : CPl} {w : World} (h : CtAt w w.heap.size v t) :
    Calls Try.prog 31 #[ctkV v t, .int .i64 h0, plnV p] w (Made w (InnR t h0 p)) := by
  have hhn := h.hn
  have hmax := h.hmax
  simp only [ctkV, ctkC, plnV]
  refine enter Try.func31 rfl Try.ntmps31 rfl ?_; simp only [frame, Nat.zero_add, Nat.reduceAdd]
  repeat (first | (refine M0 ?_; first | refine SL ?_ | refine SB fun _ _ => ?_) | (refine M1 ?_; refine SC ?_) | (refine M2 ?_; refine SE ?_))
  refine XL.begin5 (v := v) (t := t) h rfl rfl (fun hc w1 hB1 => ?_) (fun hc ho w1 g gm hG hB1 hg1 => ?_)
  · repeat (first | (refine M0 ?_; first | refine SL ?_ | refine SB fun _ _ => ?_) | (refine M1 ?_; refine SC ?_) | (refine M2 ?_; refine SE ?_))
    rw [show decide (ctE t ≠ 0) = true from decide_eq_true hc]
    repeat (first | (refine M0 ?_; first | refine SL ?_ | refine SB fun _ _ => ?_) | (refine M1 ?_; refine SC ?_) | (refine M2 ?_; refine SE ?_))
    refine XE.retg tok Try.results31 rfl (by simp only [and_self, and_true]) (fun w' S => ?_)
    have e1 : t.innE h0 p = ctE t := by unfold CTk.innE; rw [if_pos hc]
    exact ⟨_, _, rfl, ⟨⟨none, 0, 0⟩, by rw [e1]; rfl, rfl⟩, fun x hx => by rw [List.mem_singleton.1 hx]; unfold CTk.innL; rw [e1, if_pos hc]; exact ListAt.nil, hB1.trans S.toBelow⟩
  have hst := fun {L : Lo} {B : Nat} {W : World} (w5 : World) (S5 : Sys B W L w5) (hm : (g, gamO v t gm) ∈ L) => stranger_any (v := v) (t := t) (gm := gm) (p := p) (S5.own _ hm).2 ho
  simp only [plnV] at hst
  rename_i g3 hg3 g5 hg5
  simp only [gamO, gamC]
  have hb : outB h0 0 ((v.h.n : Int) - 1) = outB h0 0 ((t.m : Int) - 1) := by rw [hhn]
  have hm8 := ho.m8
  have hn60 := ho.n60
  repeat (first | (refine M0 ?_; first | refine SL ?_ | refine SB fun _ _ => ?_ | refine Y4 (Ev.call (f := 37) (ck rfl) rfl (fun w S => cout_any _ _ _ w)) ?_) | (refine M1 ?_; refine SC ?_) | (refine M2 ?_; refine SE ?_))
  rw [hb]
  cases hk0 : outB h0 0 ((t.m : Int) - 1)
  rotate_left
  · repeat (first | (refine M0 ?_; first | refine SL ?_ | refine SB fun _ _ => ?_) | (refine M1 ?_; refine SC ?_) | (refine M2 ?_; refine SE ?_))
    refine XE.retg tok Try.results31 rfl (by simp only [and_self, and_true]) (fun w' S => ?_)
    have e1 : t.innE h0 p = 4 := by unfold CTk.innE; rw [if_neg (by simp [hc]), if_pos hk0]
    exact ⟨_, _, rfl, ⟨⟨none, 0, 0⟩, by rw [e1]; rfl, rfl⟩, fun x hx => by rw [List.mem_singleton.1 hx]; unfold CTk.innL; rw [e1, if_pos (by decide)]; exact ListAt.nil, hB1.trans S.toBelow⟩
  have hkb := outB_f.1 hk0
  repeat (first | (refine M0 ?_; first | refine SL ?_ | refine SB fun _ _ => ?_ | refine Y4 (Ev.call (f := 61) (ck rfl) rfl (fun w5 S5 => hst w5 S5 (.head _))) ?_) | (refine M1 ?_; refine SC ?_) | (refine M2 ?_; refine SE ?_))
  cases hs : t.strange p
  rotate_left
  · repeat (first | (refine M0 ?_; first | refine SL ?_ | refine SB fun _ _ => ?_) | (refine M1 ?_; refine SC ?_) | (refine M2 ?_; refine SE ?_))
    refine XE.retg tok Try.results31 rfl (by simp only [and_self, and_true]) (fun w' S => ?_)
    have e1 : t.innE h0 p = 7 := by unfold CTk.innE; rw [if_neg (by simp [hc]), if_neg (by simp [hk0]), if_pos hs]
    exact ⟨_, _, rfl, ⟨⟨none, 0, 0⟩, by rw [e1]; rfl, rfl⟩, fun x hx => by rw [List.mem_singleton.1 hx]; unfold CTk.innL; rw [e1, if_pos (by decide)]; exact ListAt.nil, hB1.trans S.toBelow⟩
  obtain ⟨k, rfl⟩ : ∃ k : Nat, h0 = (k : Int) := ⟨h0.toNat, by omega⟩
  have hkm : k < t.m := by omega
  have e1 : t.innE (k : Nat) p = if (firstB (fun i => (t.ins k p i).isNone) t.n).isSome = true then 3 else 0 := by unfold CTk.innE; rw [if_neg (by simp [hc]), if_neg (by simp [hk0]), if_neg (by simp [hs])]; rfl
  have hin := fun (i : Nat) (hi : i < t.n) (w5 : World) (ks2 : List Nat) (hG5 : Gam t v w.heap.size g gm ks2 [] [] w5) => inside_any (p := p) hG5 ho hkm hi hs
  simp only [plnV] at hin
  have hR0 : Gam t v w.heap.size g gm [g, g5, g3] [⟨Int × Int, spnK5, .slice none 0 0, t.spans k p 0⟩] [] w1 :=
    ⟨Fam.nil spnK5 hG.fam, hG.nin, hG.gin, hG.lt, hG.bg, hG.bm, hG.game, hG.task, hG.memo.mono fun j hj => ⟨hj.1, hj.2.1, hj.2.2.1, fun r hr => by rw [List.mem_singleton.1 hr]; simp [Value.ownBlock]⟩⟩
  repeat (first | (refine M0 ?_; first | refine SL ?_ | refine SB fun _ _ => ?_ | refine Y4 (Ev.load_loc tok 0 (g := g) (o := 12) rfl rfl rfl rfl) ?_) | (refine M1 ?_; refine SC ?_) | (refine M2 ?_; refine SE ?_))
  refine XC.loopk [1, 5, 8, 35] rfl (fun z : Nat × World × SV => [(6, svV z.2.2), (36, .int .i64 (z.1 : Nat))]) (fun z => [(g, gamO v t gm), (g5, cel 36 [.int .i64 p.close, .int .i64 p.open_]), (g3, cel 29 (ctkC v t))]) (fun z => z.2.1)
    (fun z => z.1 ≤ t.n ∧ Below w.heap.size w z.2.1 ∧ Gam t v w.heap.size g gm [g, g5, g3] [⟨Int × Int, spnK5, svV z.2.2, t.spans k p z.1⟩] [] z.2.1 ∧ ∀ j, j < z.1 → (t.ins k p j).isNone = false) (fun z => t.n - z.1) (0, w1, ⟨none, 0, 0⟩) ⟨Nat.zero_le _, hB1, hR0, fun j hj => absurd hj (by simp)⟩ ZZSUB (fun _ h => h) ?_
  rintro ⟨i, W, q⟩ ⟨hi, hB, hGW, hno⟩
  simp only at hi hB hGW hno
  simp only [svV, gamO, gamC, ctkC]
  dsimp only [List.cons_append, List.nil_append]
  repeat (first | (refine M0 ?_; first | refine SL ?_ | refine SB fun _ _ => ?_) | (refine M1 ?_; refine SC ?_) | (refine M2 ?_; refine SE ?_))
  refine XC.cond _ rfl (fun h1 => ?_) (fun h1 => ?_)
  rotate_left
  · have hin' : i = t.n := by have := of_decide_eq_false h1; omega
    subst hin'
    repeat (first | (refine M0 ?_; first | refine SL ?_ | refine SB fun _ _ => ?_) | (refine M1 ?_; refine SC ?_) | (refine M2 ?_; refine SE ?_))
    refine XE.retg tok Try.results31 rfl (by simp only [and_self, and_true]) (fun w' S => ?_)
    have hF9 := hGW.fam.sys S ZZHL
    obtain ⟨qA, qn, qc⟩ := q
    rw [firstB_none.2 hno, if_neg (by simp)] at e1
    exact ⟨_, _, rfl, ⟨⟨qA, qn, qc⟩, by rw [e1]; rfl, rfl⟩, fun x hx => by rw [List.mem_singleton.1 hx]; unfold CTk.innL; rw [e1, if_neg (by decide)]; exact hF9.listOf (K := spnK5) (.head _), hB.trans S.toBelow⟩
  have hin' : i < t.n := by have := of_decide_eq_true h1; omega
  have hgs : g ∈ [g, g5, g3] := by simp
  have hg3s : g3 ∈ [g, g5, g3] := by simp
  have hg5s : g5 ∈ [g, g5, g3] := by simp
  repeat (first | (refine M0 ?_; first | refine SL ?_ | refine SB fun _ _ => ?_) | (refine M1 ?_; refine SC ?_) | (refine M2 ?_; refine SE ?_))
  refine XL.callJ (InsR t k p i) (ck rfl) rfl rfl hGW (.head _) (fun w5 ks2 _ _ hG5 => hin i hin' w5 ks2 hG5) (fun w2 x new hR hG2 hB2 => ?_)
  obtain ⟨rfl, rfl⟩ := hR
  cases hx : t.ins k p i with
  | none =>
    simp only [spn5]
    repeat (first | (refine M0 ?_; first | refine SL ?_ | refine SB fun _ _ => ?_) | (refine M1 ?_; refine SC ?_) | (refine M2 ?_; refine SE ?_))
    refine XE.retg tok Try.results31 rfl (by simp only [and_self, and_true]) (fun w' S => ?_)
    have hne : (firstB (fun i => (t.ins k p i).isNone) t.n).isSome = true := by
      cases hf : firstB (fun i => (t.ins k p i).isNone) t.n with
      | some j => rfl
      | none => have := firstB_none.1 hf i hin'; rw [hx] at this; cases this
    rw [if_pos hne] at e1
    exact ⟨_, _, rfl, ⟨⟨none, 0, 0⟩, by rw [e1]; rfl, rfl⟩, fun x hx => by rw [List.mem_singleton.1 hx]; unfold CTk.innL; rw [e1, if_pos (by decide)]; exact ListAt.nil, hB.trans (hB2.trans S.toBelow)⟩
  | some y =>
  simp only [spn5]
  repeat (first | (refine M0 ?_; first | refine SL ?_ | refine SB fun _ _ => ?_) | (refine M1 ?_; refine SC ?_) | (refine M2 ?_; refine SE ?_))
  rename_i g10 hg10
  repeat (first | (refine M0 ?_; first | refine SL ?_ | refine SB fun _ _ => ?_ | refine XL.buildSlice tok rfl rfl rfl rfl rfl rfl rfl rfl rfl (fun _ _ => ?_)) | (refine M1 ?_; refine SC ?_) | (refine M2 ?_; refine SE ?_))
  rename_i gn hgn
  have hgx : g10 ∈ [g10] := .head _
  refine XL.pushG (K := spnK5) (a := (t.lo y, t.hi y)) (gn := gn) (bytes := 16) 0 spn5_el (by decide) rfl rfl rfl hG2 (.tail _ (.tail _ (.head _))) rfl (.head _) rfl (fun a => rfl) (by unfold CTk.spans; rw [List.length_map, List.length_range]; omega) (by decide) (fun w3 r' hG3 hB3 => ?_) ZZHL
  obtain ⟨rA, rn, rc⟩ := r'
  simp only [svV]
  repeat (first | (refine M0 ?_; first | refine SL ?_ | refine SB fun _ _ => ?_) | (refine M1 ?_; refine SC ?_) | (refine M2 ?_; refine SE ?_))
  refine XE.roundW (s := (i, W, q)) (fun w9 S9 => ⟨(i + 1, w9, ⟨rA, rn, rc⟩), ⟨hin', hB.trans (hB2.trans (hB3.trans S9.toBelow)), ?_, fun j hj => ?_⟩, by simp only; omega, ZZSUB, S9.rebase ZZSM⟩)
  · have hl : t.spans k p i ++ [(t.lo y, t.hi y)] = t.spans k p (i + 1) := by
      unfold CTk.spans
      rw [List.range_succ, List.map_append]
      simp [hx, lvD]
    simp only [List.set_cons_zero, hl] at hG3
    exact (hG3.sys S9 (.tail _ (.tail _ (.head _))) ZZHL).less (fun x hx => by simp only [List.mem_cons, List.not_mem_nil, or_false] at hx; simp only [List.map_cons, List.map_nil, List.mem_append, List.mem_cons, List.not_mem_nil, or_false]; omega) (by simp)
  · rcases Nat.lt_or_ge j i with h2 | h2
    · exact hno j h2
    · have : j = i := by omega
      subst this
      rw [hx]; rfl
end Go.Proofs.Ytmpaiphakjogjaa.X
/-
  The plain law of ClosureSafe: levels, and a history that is lowered.
-/
namespace Go.Proofs.Ytmpaiphakjogjaa.Bs
open Go Go.Proofs.Ytmpaiphakjogjaa.X
set_option linter.unusedVariables false
theorem hld_0 {t : CTk} {p : CPl} (h : t.hldE p = 0) : ctE t = 0 ∧ CtOk t ∧ t.strange p = false ∧ t.hldL p = t.holdL p := by
  have hl : t.hldL p = t.holdL p := by unfold CTk.hldL; rw [if_neg (by simp [h])]
  unfold CTk.hldE at h
  by_cases hc : ctE t = 0
  · rw [if_neg (by simp [hc])] at h
    refine ⟨hc, ctOk_of hc, ?_, hl⟩
    cases hs : t.strange p with
    | false => rfl
    | true => rw [hs] at h; cases h
  · rw [if_pos hc] at h; exact absurd h hc
theorem hld_of {t : CTk} {p : CPl} (h : CtOk t) (hp : t.strange p = false) : t.hldE p = 0 := by
  unfold CTk.hldE
  rw [if_neg (by simp [ctE_of h]), if_neg (by simp [hp])]
theorem inn_e {t : CTk} (ho : CtOk t) {k : Nat} (hk : k < t.m) {p : CPl} (hp : t.strange p = false) : t.innE (k : Nat) p = if (firstB (fun i => (t.ins k p i).isNone) t.n).isSome = true then 3 else 0 := by
  unfold CTk.innE
  have hb : outB ((k : Nat) : Int) 0 ((t.m : Int) - 1) = false := outB_f.2 ⟨by omega, by omega⟩
  rw [if_neg (by simp [ctE_of ho]), if_neg (by simp [hb]), if_neg (by simp [hp])]; rfl
/-- a history is another one. -/
def CTk.low (t : CTk) (k : Nat) (l : List Int) : CTk := { t with his := t.his.set k ⟨(t.h k).from_, l⟩ }
end Go.Proofs.Ytmpaiphakjogjaa.Bs
/-
  The walks of alone, of the ticks at which closing can begin, and of Last (closure).
-/
namespace Go.Proofs.Ytmpaiphakjogjaa.X
open Go Go.RowKit Go.Proofs.Ytmpaiphakjogjaa.Bs
set_option linter.unusedVariables false
section
variable {P : Program} {T : TT} {N : Nat} {B : Nat} {w0 : World} {ds : List Deferred} {F : Fr} {L : Lo} {pu : Prop} {dst : Option Tmp} {ty : TypeId} {p : String} {af : Array Edge} {gd : Option (Nat × Bool)}
/-- x[j:k]. -/
theorem Ev.slice_both (hT : TOK P T) {t e es : Nat} {x lo hi : Operand} {A : Option Addr} {n c : Nat} {k1 k2 : IntKind} {q1 q2 : Int} (j k : Nat) (hx : evo F x = some (.slice A n c)) (hlo : evo F lo = some (.int k1 q1)) (hhi : evo F hi = some (.int k2 q2)) (hq1 : q1 = (j : Int)) (hq2 : q2 = (k : Int))
    (hs : lkG T.sl t = some (e, es)) (h1 : j ≤ k) (h2 : k ≤ c) : Ev P N B w0 ds pu F L ⟨dst, .slice t x (some lo) (some hi) none, ty, p, af, gd⟩ (.slice (if c = j then A else A.map (·.add (j * es))) (k - j) (c - j)) :=
  .of_run fun a w hf hw => by
    have h := tab_ok hT.sl hs
    unfold slOf at h
    cases hu : P.underlying t with
    | none => rw [hu] at h; cases h
    | some d =>
      rw [hu] at h
      cases d <;> simp at h
      obtain ⟨i, hi', rfl, rfl⟩ := h
      subst hq1 hq2
      have hz := sizeOf_run hi' w
      simp [execOp, hf.eval hx, hf.eval hlo, hf.eval hhi, Instr.sliceAt, Instr.slice, run_underlying hu, Instr.sliceBounds, Instr.sliceBound, asIntOf, hz, h1, h2]
end
/-- one history of a task, in memory. -/
theorem CtAt.one {v : CTV} {t : CTk} {w : World} {B k : Nat} {ah : Addr} (h : CtAt w B v t) (hk : k < t.m) (ha : v.h.A = some ah) : CtAt w B ⟨v.p, v.f, ⟨some (ah.add (k * 2)), 1, v.h.c - k⟩, v.r⟩ (t.alone k) := by
  obtain ⟨ad, q, e1, e2, e3, e4⟩ := h.hisAt hk
  rw [ha] at e1
  cases e1
  have hc := h.cap
  rw [h.hn] at hc
  refine ⟨h.bas, h.fil, ⟨[(q, t.h k)], ⟨⟨rfl, fun _ => ⟨_, rfl, by rw [add_block]; exact e2, fun j u hj => e3 j u (by simpa [hisK] using hj)⟩⟩, by show 1 ≤ 9223372036854775807; decide, fun a ha' x hx => ?_⟩, rfl⟩, h.river, by show 1 ≤ v.h.c - k; omega⟩
  rw [List.mem_singleton.1 ha'] at hx
  rw [List.mem_singleton.1 hx]
  exact e4
/-- what alone answers. -/
noncomputable def AloE (t : CTk) (k : Int) : Int := if ctE t ≠ 0 then ctE t else if outB k 0 ((t.m : Int) - 1) = true then 4 else 0
set_option maxHeartbeats 8000000 in
theorem alone_any {v : CTV} {t : CTk} {h0 : Int} {w : World} (h : CtAt w w.heap.size v t) :
    Calls Try.prog 63 #[ctkV v t, .int .i64 h0] w fun e w' => Below w.heap.size w w' ∧ ((AloE t h0 ≠ 0 ∧ e = .returned (.tuple ⟨[.pointer none, .int .i64 (AloE t h0)]⟩)) ∨
      (AloE t h0 = 0 ∧ ∃ g gm v' ah, v.h.A = some ah ∧ v' = ⟨v.p, v.f, ⟨some (ah.add (h0.toNat * 2)), 1, v.h.c - h0.toNat⟩, v.r⟩ ∧ h0.toNat < t.m ∧ e = .returned (.tuple ⟨[.pointer (some ⟨g, 0, none⟩), .int .i64 0]⟩) ∧ Gam (t.alone h0.toNat) v' w.heap.size g gm [g] [] [] w' ∧ w.heap.size ≤ g)) := by
  have hhn := h.hn
  have hone := fun (k : Nat) (hk : k < t.m) (ah : Addr) (ha : v.h.A = some ah) => h.one hk ha
  have hadr := fun (k : Nat) (hk : k < t.m) => h.hisAt hk
  have hcap := h.cap
  obtain ⟨vp, vf, ⟨Ah, nh, ch⟩, vr⟩ := v
  simp only at hhn hone hadr hcap
  subst hhn
  simp only [ctkV, ctkC]
  refine enter Try.func63 rfl Try.ntmps63 rfl ?_; simp only [frame, Nat.zero_add, Nat.reduceAdd]
  repeat (first | (refine M0 ?_; first | refine SL ?_ | refine SB fun _ _ => ?_) | (refine M1 ?_; refine SC ?_) | (refine M2 ?_; refine SE ?_))
  refine XL.begin5 (v := ⟨vp, vf, ⟨Ah, t.m, ch⟩, vr⟩) (t := t) h rfl rfl (fun hc w1 hB1 => ?_) (fun hc ho w1 g gm hG hB1 hg1 => ?_)
  · repeat (first | (refine M0 ?_; first | refine SL ?_ | refine SB fun _ _ => ?_) | (refine M1 ?_; refine SC ?_) | (refine M2 ?_; refine SE ?_))
    rw [show decide (ctE t ≠ 0) = true from decide_eq_true hc]
    repeat (first | (refine M0 ?_; first | refine SL ?_ | refine SB fun _ _ => ?_) | (refine M1 ?_; refine SC ?_) | (refine M2 ?_; refine SE ?_))
    refine XE.retg tok Try.results63 rfl (by simp only [and_self, and_true]) (fun w' S => ?_)
    have e1 : AloE t h0 = ctE t := by unfold AloE; rw [if_pos hc]
    exact ⟨hB1.trans S.toBelow, .inl ⟨by rw [e1]; exact hc, by rw [e1]; rfl⟩⟩
  have hm8 := ho.m8
  repeat (first | (refine M0 ?_; first | refine SL ?_ | refine SB fun _ _ => ?_ | refine Y4 (Ev.call (f := 37) (ck rfl) rfl (fun w S => cout_any _ _ _ w)) ?_) | (refine M1 ?_; refine SC ?_) | (refine M2 ?_; refine SE ?_))
  cases hk0 : outB h0 0 ((t.m : Int) - 1)
  rotate_left
  · repeat (first | (refine M0 ?_; first | refine SL ?_ | refine SB fun _ _ => ?_) | (refine M1 ?_; refine SC ?_) | (refine M2 ?_; refine SE ?_))
    refine XE.retg tok Try.results63 rfl (by simp only [and_self, and_true]) (fun w' S => ?_)
    have e1 : AloE t h0 = 4 := by unfold AloE; rw [if_neg (by simp [hc]), if_pos hk0]
    exact ⟨hB1.trans S.toBelow, .inl ⟨by rw [e1]; decide, by rw [e1]; rfl⟩⟩
  have hkb := outB_f.1 hk0
  obtain ⟨k, rfl⟩ : ∃ k : Nat, h0 = (k : Int) := ⟨h0.toNat, by omega⟩
  have hkm : k < t.m := by omega
  have e1 : AloE t (k : Nat) = 0 := by unfold AloE; rw [if_neg (by simp [hc]), if_neg (by simp [hk0])]
  obtain ⟨ah, q, rfl, _, _, _⟩ := hadr k hkm
  have hT1 := hone k hkm ah rfl
  have hck : ¬ ch = k := by omega
  repeat (first | (refine M0 ?_; first | refine SL ?_ | refine SB fun _ _ => ?_ | refine Y4 (Ev.slice_both tok k (k + 1) rfl rfl rfl rfl (by omega) rfl (by omega) (by omega)) ?_) | (refine M1 ?_; refine SC ?_) | (refine M2 ?_; refine SE ?_))
  rw [if_neg hck, show k + 1 - k = 1 by omega]
  simp only [Option.map_some]
  repeat (first | (refine M0 ?_; first | refine SL ?_ | refine SB fun _ _ => ?_) | (refine M1 ?_; refine SC ?_) | (refine M2 ?_; refine SE ?_))
  refine XL.rebase (List.Sublist.refl _) (fun W0 S0 => ?_)
  refine XL.begin5 (v := ⟨vp, vf, ⟨some (ah.add (k * 2)), 1, ch - k⟩, vr⟩) (t := t.alone k) (hT1.below (hB1.trans S0.toBelow)) rfl rfl (fun hc2 w2 hB2 => absurd (ctE_of (alone_ok ho hkm)) hc2) (fun hc2 ho2 w2 g' gm' hG2 hB2 hg2 => ?_)
  have hB3 := hB1.trans (S0.toBelow.trans hB2)
  have hgb := hG2.bg
  repeat (first | (refine M0 ?_; first | refine SL ?_ | refine SB fun _ _ => ?_) | (refine M1 ?_; refine SC ?_) | (refine M2 ?_; refine SE ?_))
  refine XE.retg tok Try.results63 rfl (by simp only [and_self, and_true]) (fun w' S => ?_)
  have hG3 := (hG2.sys S (.head _) (fun e he => by
    rcases List.mem_cons.1 he with rfl | he
    · exact .inl (.head _)
    · exact .inl (List.mem_cons_of_mem _ (List.mem_map.2 ⟨e, he, rfl⟩)))).less (ks' := [g']) (fun x hx => by rw [List.mem_singleton.1 hx]; exact .head _) (.head _)
  exact ⟨hB3.trans S.toBelow, .inr ⟨e1, g', gm', ⟨vp, vf, ⟨some (ah.add (k * 2)), 1, ch - k⟩, vr⟩, ah, rfl, rfl, hkm, rfl, hG3, hgb⟩⟩
end Go.Proofs.Ytmpaiphakjogjaa.X
/-
  The walks of the ticks at which closing can begin, the last first, and of Last (closure).
-/
namespace Go.Proofs.Ytmpaiphakjogjaa.X
open Go Go.RowKit Go.Proofs.Ytmpaiphakjogjaa.Bs
set_option linter.unusedVariables false
theorem begs0_any {g : Nat} {w : World} :
    Calls Try.prog 57 #[.pointer (some ⟨g, 0, none⟩)] w fun e w' => ∃ v, e = .returned v ∧ ∃ gp, v = .func (.func 86) #[] #[.pointer (some ⟨gp, 0, none⟩)] ∧ Sys w.heap.size w [(gp, cel 102 [.pointer (some ⟨g, 0, none⟩)])] w' := by
  refine enter Try.func57 rfl Try.ntmps57 rfl ?_; simp only [frame, Nat.zero_add, Nat.reduceAdd]
  repeat (first | (refine M0 ?_; first | refine SL ?_ | refine SB fun _ _ => ?_ | refine Y4 (Ev.makeFunc rfl rfl) ?_) | (refine M1 ?_; first | refine SC ?_ | refine SD ?_) | (refine M2 ?_; refine SE ?_) | (refine M3 ?_; first | refine SG ?_ | refine SF ?_ | refine YF (Ev.makeFunc rfl rfl) ?_) | (refine M4 ?_; refine SR ?_) | (refine M5 ?_; first | exact M7 | refine YM ?_ | refine YN ?_ ?_))
  refine XE.retg tok Try.results57 rfl (by simp only [and_self, and_true]) (fun w' S => ?_)
  exact ⟨_, rfl, _, rfl, S⟩
set_option maxHeartbeats 8000000 in
theorem begs_any {σ : Type} (Lf : σ → Lo) (Wf : σ → World) (J : Nat → σ → Prop) (Jx : σ → Prop) {B l gp g gm : Nat} {v : CTV} {t : CTk} (s0 : σ) (ho : CtOk t) (S0 : Sys B (Wf s0) (Lf s0) (Wf s0)) (h0 : J t.beg s0)
    (hgp : (Wf s0).cell? ⟨gp, 0, none⟩ = some (.pointer (some ⟨g, 0, none⟩))) (hlp : gp < (Wf s0).heap.size) (hfp : ∀ e, e ∈ Lf s0 → e.1 ≠ gp) (hg : (g, gamO v t gm) ∈ Lf s0)
    (hy : ∀ i s, i < t.beg → J (i + 1) s → ∀ w1, Sys B (Wf s) (Lf s) w1 → ∃ fn tmps assign body, (Instr.yield l (#[.int .i64 (i : Nat)] : Array Value)).run Try.prog w1 = .ok (.round l fn tmps assign body) w1 ∧
        RoundIn Fence.wide 0 Try.prog l fn tmps assign body w1 fun e w' => ∃ v, e = .returned v ∧ ((v = .bool true ∧ ∃ s', J i s' ∧ Sys B (Wf s') (Lf s') w') ∨ (v = .bool false ∧ ∃ s', Jx s' ∧ Sys B (Wf s') (Lf s') w'))) :
    Calls Try.prog 86 #[.func (.yield l) #[] #[], .pointer (some ⟨gp, 0, none⟩)] (Wf s0) fun e w' => ∃ v, e = .returned v ∧ ((∃ s, J 0 s ∧ Sys B (Wf s) (Lf s) w') ∨ (∃ s, Jx s ∧ Sys B (Wf s) (Lf s) w')) := by
  have h1 := ho.n60
  have h2 := ho.dly
  have hl1 : -31 ≤ t.last ∧ t.last ≤ 60 := by unfold CTk.last; omega
  have hla := fun (w5 : World) (S5 : Sys B (Wf s0) (Lf s0) w5) => last_any (v := v) (t := t) (gm := gm) (S5.own _ hg).2 ho
  refine enterL Try.func86 rfl Try.ntmps86 rfl (S0) ?_; simp only [frame, Nat.zero_add, Nat.reduceAdd]
  repeat (first | (refine M0 ?_; first | refine SL ?_ | refine SB fun _ _ => ?_ | refine Y4 (Ev.load_far tok rfl rfl hlp hfp hgp) ?_ | refine Y4 (Ev.call (f := 49) (ck rfl) rfl (fun w5 S5 => hla w5 S5)) ?_) | (refine M1 ?_; refine SC ?_) | (refine M2 ?_; refine SE ?_))
  refine XC.loopk [0] rfl (fun z : Int × σ => [(3, .int .i64 z.1)]) (fun z => Lf z.2) (fun z => Wf z.2) (fun z => -31 ≤ z.1 ∧ z.1 ≤ 60 ∧ (z.1 + 1).toNat ≤ t.beg ∧ J (z.1 + 1).toNat z.2) (fun z => (z.1 + 1).toNat) (t.last, s0) ⟨hl1.1, hl1.2, Nat.le_refl _, h0⟩ ZZSUB (fun _ h => h) ?_
  rintro ⟨x, s⟩ ⟨hx1, hx2, hxb, hJ⟩
  simp only at hx1 hx2 hxb hJ
  dsimp only [List.cons_append, List.nil_append]
  repeat (first | (refine M0 ?_; first | refine SL ?_ | refine SB fun _ _ => ?_) | (refine XI.id ?_; first | refine XI.done ?_ | refine XI.one1 rfl ?_) | (refine XR'.id ?_; first | refine XR'.seq ?_ | refine XR'.region ?_ | refine XR'.block ?_ | refine XR'.skip ?_ | refine XR'.ret ?_ | refine XR'.cond_t rfl ?_ | refine XR'.cond_f rfl ?_ | refine XR'.exit ?_) | (refine M1 ?_; first | refine XC.regionI (id := 1) 1 ?_ | refine SC ?_ | refine SD ?_) | (refine M2 ?_; first | refine XE.nextI ?_ | refine XE.nextR ?_ | refine SE ?_))
  by_cases hx : 0 ≤ x
  rotate_left
  · rw [show decide (0 ≤ x) = false from decide_eq_false hx]
    repeat (first | (refine M0 ?_; first | refine SL ?_ | refine SB fun _ _ => ?_) | (refine XI.id ?_; first | refine XI.done ?_ | refine XI.one1 rfl ?_) | (refine XR'.id ?_; first | refine XR'.seq ?_ | refine XR'.region ?_ | refine XR'.block ?_ | refine XR'.skip ?_ | refine XR'.ret ?_ | refine XR'.cond_t rfl ?_ | refine XR'.cond_f rfl ?_ | refine XR'.exit ?_) | (refine M1 ?_; first | refine SC ?_ | refine SD ?_) | (refine M2 ?_; first | refine XE.nextI ?_ | refine XE.nextR ?_ | refine SE ?_))
    refine XI.guard_n rfl ?_ rfl
    repeat (first | (refine M0 ?_; first | refine SL ?_ | refine SB fun _ _ => ?_) | (refine XI.id ?_; first | refine XI.done ?_ | refine XI.one1 rfl ?_) | (refine XR'.id ?_; first | refine XR'.seq ?_ | refine XR'.region ?_ | refine XR'.block ?_ | refine XR'.skip ?_ | refine XR'.ret ?_ | refine XR'.cond_t rfl ?_ | refine XR'.cond_f rfl ?_ | refine XR'.exit ?_) | (refine M1 ?_; first | refine SC ?_ | refine SD ?_) | (refine M2 ?_; first | refine XE.nextI ?_ | refine XE.nextR ?_ | refine SE ?_))
    repeat (first | (refine M0 ?_; first | refine SL ?_ | refine SB fun _ _ => ?_) | (refine M1 ?_; refine SC ?_) | (refine M2 ?_; refine SE ?_))
    have him : (x + 1).toNat = 0 := by omega
    rw [him] at hJ
    refine XE.end0 Try.results86 (fun w' S => ?_)
    exact ⟨_, rfl, .inl ⟨s, hJ, S⟩⟩
  · rw [show decide (0 ≤ x) = true from decide_eq_true hx]
    obtain ⟨j, rfl⟩ : ∃ j : Nat, x = (j : Nat) := ⟨x.toNat, by omega⟩
    have ej : ((j : Int) + 1).toNat = j + 1 := by omega
    rw [ej] at hJ hxb
    repeat (first | (refine M0 ?_; first | refine SL ?_ | refine SB fun _ _ => ?_) | (refine XI.id ?_; first | refine XI.done ?_ | refine XI.one1 rfl ?_) | (refine XR'.id ?_; first | refine XR'.seq ?_ | refine XR'.region ?_ | refine XR'.block ?_ | refine XR'.skip ?_ | refine XR'.ret ?_ | refine XR'.cond_t rfl ?_ | refine XR'.cond_f rfl ?_ | refine XR'.exit ?_) | (refine M1 ?_; first | refine SC ?_ | refine SD ?_) | (refine M2 ?_; first | refine XE.nextI ?_ | refine XE.nextR ?_ | refine SE ?_))
    refine XI.guard_y rfl ?_
    refine XI.yield (vs := [.int .i64 (j : Nat)]) rfl rfl rfl (fun _ v w' => (v = .bool true ∧ ∃ s', J j s' ∧ Sys B (Wf s') (Lf s') w') ∨ (v = .bool false ∧ ∃ s', Jx s' ∧ Sys B (Wf s') (Lf s') w')) (fun w4 S4 => hy j s (by omega) hJ w4 S4) (fun w4 v5 w5 S4 hR => ?_)
    rcases hR with ⟨rfl, s', hJ', S5⟩ | ⟨rfl, s', hJ', S5⟩
    · refine ⟨_, _, S5, ?_⟩
      repeat (first | (refine M0 ?_; first | refine SL ?_ | refine SB fun _ _ => ?_) | (refine XI.id ?_; first | refine XI.done ?_ | refine XI.one1 rfl ?_) | (refine XR'.id ?_; first | refine XR'.seq ?_ | refine XR'.region ?_ | refine XR'.block ?_ | refine XR'.skip ?_ | refine XR'.ret ?_ | refine XR'.cond_t rfl ?_ | refine XR'.cond_f rfl ?_ | refine XR'.exit ?_) | (refine M1 ?_; first | refine SC ?_ | refine SD ?_) | (refine M2 ?_; first | refine XE.nextI ?_ | refine XE.nextR ?_ | refine SE ?_))
      repeat (first | (refine M0 ?_; first | refine SL ?_ | refine SB fun _ _ => ?_) | (refine M1 ?_; refine SC ?_) | (refine M2 ?_; refine SE ?_))
      have e0 : ((j : Int) - 1 + 1).toNat = j := by omega
      exact XE.round (s := ((j : Int), s)) ((j : Int) - 1, s') ⟨by simp only; omega, by simp only; omega, by simp only; omega, by simp only; rw [e0]; exact hJ'⟩ (by simp only; omega) ZZSUB (fun _ h => h)
    · refine ⟨_, _, S5, ?_⟩
      repeat (first | (refine M0 ?_; first | refine SL ?_ | refine SB fun _ _ => ?_) | (refine XI.id ?_; first | refine XI.done ?_ | refine XI.one1 rfl ?_) | (refine XR'.id ?_; first | refine XR'.seq ?_ | refine XR'.region ?_ | refine XR'.block ?_ | refine XR'.skip ?_ | refine XR'.ret ?_ | refine XR'.cond_t rfl ?_ | refine XR'.cond_f rfl ?_ | refine XR'.exit ?_) | (refine M1 ?_; first | refine SC ?_ | refine SD ?_) | (refine M2 ?_; first | refine XE.nextI ?_ | refine XE.nextR ?_ | refine SE ?_))
      repeat (first | (refine M0 ?_; first | refine SL ?_ | refine SB fun _ _ => ?_) | (refine M1 ?_; refine SC ?_) | (refine M2 ?_; refine SE ?_))
      refine XE.end0 Try.results86 (fun w' S => ?_)
      exact ⟨_, rfl, .inr ⟨s', hJ', S⟩⟩
theorem AloE_ok {t : CTk} {h0 : Int} (h : AloE t h0 = 0) : ctE t = 0 ∧ outB h0 0 ((t.m : Int) - 1) = false ∧ CtOk t ∧ CtOk (t.alone h0.toNat) ∧ h0.toNat < t.m ∧ (t.alone h0.toNat).beg = t.beg := by
  have hc : ctE t = 0 := Classical.byContradiction fun hc => by unfold AloE at h; rw [if_pos hc] at h; exact hc h
  unfold AloE at h
  rw [if_neg (by simp [hc])] at h
  have ho := ctOk_of hc
  have hm := ho.m1
  cases hk : outB h0 0 ((t.m : Int) - 1) with
  | true => rw [hk] at h; cases h
  | false =>
    have hb := outB_f.1 hk
    have hkm : h0.toNat < t.m := by omega
    have en : (t.alone h0.toNat).n = t.n := ho.len _ hkm
    refine ⟨hc, rfl, ho, alone_ok ho hkm, hkm, ?_⟩
    unfold CTk.beg CTk.last
    rw [en]; rfl
section
variable {t : CTk} {v : CTV} {w0 : World} {L : Lo} {B N : Nat} {ds : List Deferred} {Q : Exit → Act → World → Prop} {F : Fr} {ops : Array Oper} {rest : List Oper} {ty : TypeId} {p : String} {af : Array Edge}
/-- a call of alone. -/
theorem XL.alone5 {d : Nat} {args : Array Operand} {ats : Array TypeId} {h0 : Int} (hT : CtAt w0 B v t) (ha : evos F args.toList = some [ctkV v t, .int .i64 h0]) (hd : Nat.blt d N = true)
    (k1 : AloE t h0 ≠ 0 → ∀ w', Below B w0 w' → XL Try.prog N B w' ds Q ops rest ((d, .tuple ⟨[.pointer none, .int .i64 (AloE t h0)]⟩) :: F) L)
    (k2 : AloE t h0 = 0 → ∀ w' g gm v', Gam (t.alone h0.toNat) v' B g gm (g :: L.map (·.1)) [] [] w' → Below B w0 w' → w0.heap.size ≤ g → XL Try.prog N B w' ds Q ops rest ((d, .tuple ⟨[.pointer (some ⟨g, 0, none⟩), .int .i64 0]⟩) :: F) ((g, gamO v' (t.alone h0.toNat) gm) :: L)) :
    XL Try.prog N B w0 ds Q ops ({ dst := some d, op := .call { callee := .value (.func 63), args := args, argTypes := ats }, type := ty, pos := p, after := af, guard := none } :: rest) F L := by
  refine XL.callr (fst := []) (cap := []) (fun w x w' => Below w.heap.size w w' ∧ ((AloE t h0 ≠ 0 ∧ x = .tuple ⟨[.pointer none, .int .i64 (AloE t h0)]⟩) ∨
      (AloE t h0 = 0 ∧ ∃ g gm v' ah, v.h.A = some ah ∧ v' = ⟨v.p, v.f, ⟨some (ah.add (h0.toNat * 2)), 1, v.h.c - h0.toNat⟩, v.r⟩ ∧ h0.toNat < t.m ∧ x = .tuple ⟨[.pointer (some ⟨g, 0, none⟩), .int .i64 0]⟩ ∧ Gam (t.alone h0.toNat) v' w.heap.size g gm [g] [] [] w' ∧ w.heap.size ≤ g))) (ck rfl) rfl ha hd (fun w S => ?_) (fun w x w' S hR => ?_)
  · simp only [List.nil_append, List.append_nil]
    exact (alone_any (h0 := h0) ((hT.below S.toBelow).more (Nat.le_trans S.base S.size))).mono fun e w' hR => by
      obtain ⟨h1, h2 | h2⟩ := hR
      · exact ⟨_, h2.2, h1, .inl ⟨h2.1, rfl⟩⟩
      · obtain ⟨h3, g, gm, v', ah, h4, h5, h6, h7, h8⟩ := h2
        exact ⟨_, h7, h1, .inr ⟨h3, g, gm, v', ah, h4, h5, h6, rfl, h8⟩⟩
  · obtain ⟨h1, h2 | h2⟩ := hR
    · obtain ⟨h3, h4⟩ := h2
      cases h4
      exact ⟨L, w', S.made h1, k1 h3 w' (S.toBelow.trans (h1.mono (Nat.le_trans S.base S.size)))⟩
    · obtain ⟨h3, g, gm, v', ah, h4, h5, h6, h7, h8, h9⟩ := h2
      cases h7
      have hB : Below B w0 w' := S.toBelow.trans (h1.mono (Nat.le_trans S.base S.size))
      have hTo : CtAt w' B v' (t.alone h0.toNat) := by rw [h5]; exact (hT.below hB).one h6 h4
      have hlow : Gam (t.alone h0.toNat) v' B g gm (g :: L.map (·.1)) [] [] w' := h8.lower (Nat.le_trans S.base S.size) hTo (fun k hk => by rw [List.mem_singleton.1 hk]; exact .head _) (fun k hk => by
        rcases List.mem_cons.1 hk with rfl | hk
        · exact .inl (.head _)
        · exact .inr (S.keyLt k hk))
      have S' := S.made h1
      refine ⟨(g, gamO v' (t.alone h0.toNat) gm) :: L, w', Sys.start S'.base (fun e he => ?_) ?_, k2 h3 w' g gm v' hlow hB (Nat.le_trans S.size h9)⟩
      · rcases List.mem_cons.1 he with rfl | he
        · exact ⟨hlow.bg, hlow.game⟩
        · exact S'.own e he
      · simp only [List.map_cons, List.nodup_cons]
        refine ⟨fun hm => ?_, S.nd⟩
        have := S.keyLt g hm
        omega
end
end Go.Proofs.Ytmpaiphakjogjaa.X
/-
  The walk of Last (closure).
-/
namespace Go.Proofs.Ytmpaiphakjogjaa.X
open Go Go.RowKit Go.Proofs.Ytmpaiphakjogjaa.Bs
set_option linter.unusedVariables false
section
variable {N B : Nat} {w0 : World} {L : Lo} {Q : Exit → Act → World → Prop} {ds : List Deferred} {F : Fr}
theorem XE.blk_ret {id : Nat} (h : XE N B w0 ds Q .ret F L) : XE N B w0 ds (Exit.inBlock id Q) .ret F L := ⟨h.run⟩
theorem Fits.one5 {a : Act} {t : Nat} {v : Value} (h : Fits N ds F a) (ht : Nat.blt t N = true) :
    Fits N [] ((t, v) :: F) { tmps := ((#[t] : Array Tmp).zip #[v]).foldl (fun s (p, y) => s.setIfInBounds p y) a.tmps, defers := [] } := by
  have h1 := h.put (v := v) ht
  have e : ((#[t] : Array Tmp).zip #[v]).foldl (fun s (p, y) => s.setIfInBounds p y) a.tmps = (a.put (some t) v).tmps := by
    simp [Act.put]
  rw [e]
  exact ⟨h1.size, rfl, h1.get⟩
end
set_option maxHeartbeats 16000000 in
theorem Last_any {v : CTV} {t : CTk} {h0 : Int} {w : World} (h : CtAt w w.heap.size v t) :
    Calls Try.prog 23 #[ctkV v t, .int .i64 h0] w fun e w' => e = .returned (.tuple ⟨[.int .i64 (t.lasN h0), .int .i64 (t.lasE h0)]⟩) ∧ Below w.heap.size w w' := by
  simp only [ctkV, ctkC]
  refine enterM Try.func23 rfl Try.ntmps23 rfl ?_; simp only [frame, Nat.zero_add, Nat.reduceAdd]
  repeat (first | (refine M0 ?_; first | refine SL ?_ | refine SB fun _ _ => ?_) | (refine M1 ?_; refine SC ?_) | (refine M2 ?_; refine SE ?_))
  rename_i g2 hg2 g4 hg4 g5 hg5
  refine XL.alone5 (v := v) (t := t) h rfl rfl (fun hc w1 hB1 => ?_) (fun hc w1 g gm v' hG1 hB1 hgl => ?_)
  · repeat (first | (refine M0 ?_; first | refine SL ?_ | refine SB fun _ _ => ?_) | (refine M1 ?_; refine SC ?_) | (refine M2 ?_; refine SE ?_))
    rw [show decide (AloE t h0 ≠ 0) = true from decide_eq_true hc]
    repeat (first | (refine M0 ?_; first | refine SL ?_ | refine SB fun _ _ => ?_) | (refine M1 ?_; refine SC ?_) | (refine M2 ?_; refine SE ?_))
    refine XE.retM0 tok Try.results23 rfl (by simp only [and_self, and_true]) (fun w' S => ?_)
    refine ⟨?_, hB1.trans S.toBelow⟩
    by_cases hce : ctE t = 0
    · have hkb : outB h0 0 ((t.m : Int) - 1) = true := by
        cases hk : outB h0 0 ((t.m : Int) - 1) with
        | true => rfl
        | false => unfold AloE at hc; rw [if_neg (by simp [hce]), if_neg (by simp [hk])] at hc; exact absurd rfl hc
      have e0 : AloE t h0 = 4 := by unfold AloE; rw [if_neg (by simp [hce]), if_pos hkb]
      have e1 : t.lasN h0 = 0 := by unfold CTk.lasN; rw [if_neg (by simp [hce]), if_pos hkb]
      have e2 : t.lasE h0 = 4 := by unfold CTk.lasE; rw [if_neg (by simp [hce]), if_pos hkb]
      rw [e0, e1, e2]; rfl
    · have e0 : AloE t h0 = ctE t := by unfold AloE; rw [if_pos hce]
      have e1 : t.lasN h0 = 0 := by unfold CTk.lasN; rw [if_pos hce]
      have e2 : t.lasE h0 = ctE t := by unfold CTk.lasE; rw [if_pos hce]
      rw [e0, e1, e2]; rfl
  obtain ⟨hce, hkb, ho, ho', hkm, hbeg⟩ := AloE_ok hc
  obtain ⟨t', ht'⟩ : ∃ t', t' = t.alone h0.toNat := ⟨_, rfl⟩
  rw [← ht'] at hG1 hbeg ho' ⊢
  simp only [gamO]
  repeat (first | (refine M0 ?_; first | refine SL ?_ | refine SB fun _ _ => ?_) | (refine M1 ?_; refine SC ?_) | (refine M2 ?_; refine SE ?_))
  rename_i g6 hg6
  refine XL.callr (fst := []) (cap := []) (fun w1 x w2 => ∃ gp, x = .func (.func 86) #[] #[.pointer (some ⟨gp, 0, none⟩)] ∧ Sys w1.heap.size w1 [(gp, cel 102 [.pointer (some ⟨g, 0, none⟩)])] w2) (ck rfl) rfl rfl rfl (fun w1 S1 => begs0_any) (fun wX x w2 S1 hR => ?_)
  obtain ⟨gp, rfl, S2⟩ := hR
  refine ⟨_, w2, (S1.join S2 (List.Sublist.refl _)).rebase (List.sublist_cons_self _ _), ?_⟩
  have hz1 := hB1.size
  have hB2 : Below w.heap.size w w2 := hB1.trans (S1.toBelow.trans (S2.toBelow.mono (Nat.le_trans S1.base S1.size)))
  have hgpL : ∀ x, x ∈ [g6, g, g5, g4, g2] → x < gp := fun x hx => Nat.lt_of_lt_of_le (S1.keyLt x hx) (S2.own _ (.head _)).1
  have hgpc : w2.cell? ⟨gp, 0, none⟩ = some (.pointer (some ⟨g, 0, none⟩)) := by
    have := (S2.own _ (.head _)).2
    simp [World.cell?, this]
  have hgpl : gp < w2.heap.size := S2.lt (.head _)
  have hgs1 : g ∈ (g :: [(g5, cel 30 [.int .i64 0]), (g4, cel 3 [.int .i64 0]), (g2, cel 29 (ctkC v t))].map (·.1)) := .head _
  have hG2 : Gam t' v' w.heap.size g gm [g6, g, g5, g4, g2] [] [] w2 := by
    have h1 := (hG1.add S1 (.tail _ (.head _)) ZZHL).made (new := []) S2.toBelow (fun x hx => by cases hx)
    exact h1.less (fun x hx => List.mem_append_left _ hx) (by simp)
  clear S1 S2
  repeat (first | (refine M0 ?_; first | refine SL ?_ | refine SB fun _ _ => ?_) | (refine M1 ?_; refine SC ?_) | (refine M2 ?_; refine SE ?_))
  refine XC.rangeFuncD (cap := [.pointer (some ⟨gp, 0, none⟩)]) rfl (ck rfl) (fun fn a D w3 hD hf S3 => ?_)
  have hfS : Fits 33 [] [(6, .pointer (some ⟨g6, 0, none⟩)), (5, .pointer (some ⟨g5, 0, none⟩)), (4, .pointer (some ⟨g4, 0, none⟩))] { tmps := a.tmps, defers := [] } := by
    have h4 := Sub.fits (G := [(6, .pointer (some ⟨g6, 0, none⟩)), (5, .pointer (some ⟨g5, 0, none⟩)), (4, .pointer (some ⟨g4, 0, none⟩))]) ZZSUB hf
    exact ⟨h4.size, rfl, h4.get⟩
  have hgs2 : g ∈ [g6, g, g5, g4, g2] := by simp
  have hG3 : Gam t' v' w.heap.size g gm [D + 1, D, g6, g, g5, g4, g2] [] [] w3 := by
    have h1 := hG2.add S3 (.tail _ (.tail _ (.tail _ (.head _)))) (fun e he => by
      have h5 : e.1 ∈ [D + 1, D, g6, g, g5, g4, g2] := List.mem_map.2 ⟨e, he, rfl⟩
      rcases List.mem_cons.1 h5 with h5 | h5
      · right; omega
      rcases List.mem_cons.1 h5 with h5 | h5
      · right; omega
      · left; exact h5)
    exact h1.less (fun x hx => List.mem_append_left _ hx) (by simp)
  have hB3 : Below w.heap.size w w3 := hB2.trans S3.toBelow
  have hbg := begs_any (B := w.heap.size) (l := D + 1) (gp := gp) (g := g) (gm := gm) (v := v') (t := t') (σ := World × Option Nat)
    (fun s => [(D + 1, .loop (recO fn a.tmps #[20] _ _ D (match s.2 with | none => .ready | some _ => .done) (match s.2 with | none => none | some _ => some .ret))), (D, .deferred (some [])), (g6, cel 102 [.pointer (some ⟨g, 0, none⟩)]), (g, gamO v' t' gm), (g5, cel 30 [.int .i64 0]), (g4, cel 3 [.int .i64 (match s.2 with | none => 0 | some i => t'.from_ + (i : Nat))]), (g2, cel 29 (ctkC v t))])
    (fun s => s.1)
    (fun i s => s.2 = none ∧ Gam t' v' w.heap.size g gm [D + 1, D, g6, g, g5, g4, g2] [] [] s.1 ∧ Below w.heap.size w s.1 ∧ ∀ j, i ≤ j → j < t'.beg → t'.holds 0 (t'.plan (j : Nat)) = false)
    (fun s => ∃ i, s.2 = some i ∧ Below w.heap.size w s.1 ∧ lastB (fun i => t'.holds 0 (t'.plan (i : Nat))) t'.beg = some i)
    (w3, none) ho' (S3.rebase (List.Sublist.refl _)) ⟨rfl, hG3, hB3, fun j h1 h2 => by omega⟩ ?_ ?_ ?_ ?_ ?_
  rotate_left
  · have h := S3.farCell (a := ⟨gp, 0, none⟩) hgpl (fun e he => by
      have h5 : e.1 ∈ [D + 1, D, g6, g, g5, g4, g2] := List.mem_map.2 ⟨e, he, rfl⟩
      simp only [List.mem_cons, List.not_mem_nil, or_false] at h5
      have h6 := hgpL e.1
      simp only [List.mem_cons, List.not_mem_nil, or_false] at h6
      show e.1 ≠ gp
      rcases h5 with h5 | h5 | h5
      · omega
      · omega
      · have := h6 h5; omega)
    exact h.trans hgpc
  · exact Nat.lt_of_lt_of_le hgpl S3.size
  · intro e he
    have h5 : e.1 ∈ [D + 1, D, g6, g, g5, g4, g2] := List.mem_map.2 ⟨e, he, rfl⟩
    simp only [List.mem_cons, List.not_mem_nil, or_false] at h5
    have h6 := hgpL e.1
    simp only [List.mem_cons, List.not_mem_nil, or_false] at h6
    rcases h5 with h5 | h5 | h5
    · omega
    · omega
    · have := h6 h5; omega
  · exact .tail _ (.tail _ (.tail _ (.head _)))
  · rintro i ⟨W, s⟩ hi ⟨rfl, hGW, hBW, hJ⟩ w1' S1
    simp only at hGW hBW hJ S1
    have hloop := (S1.own _ (.head _)).2
    refine ⟨_, _, _, _, run_yield (args := #[.int .i64 (i : Nat)]) hloop rfl, ?_⟩
    refine round_of (hfS.one5 rfl) S1 ?_
    clear hloop
    simp only [gamO, gamC, ctkC]
    repeat (first | (refine M0 ?_; first | refine SL ?_ | refine SB fun _ _ => ?_) | (refine XI.id ?_; first | refine XI.done ?_ | refine XI.one1 rfl ?_) | (refine XR'.id ?_; first | refine XR'.seq ?_ | refine XR'.region ?_ | refine XR'.block ?_ | refine XR'.skip ?_ | refine XR'.ret ?_ | refine XR'.cond_t rfl ?_ | refine XR'.cond_f rfl ?_ | refine XR'.exit ?_) | (refine M1 ?_; first | refine SC ?_ | refine SD ?_) | (refine M2 ?_; first | refine XE.nextI ?_ | refine XE.nextR ?_ | refine SE ?_))
    refine XE.begin (i := 0) rfl rfl rfl ?_
    repeat (first | (refine M0 ?_; first | refine SL ?_ | refine SB fun _ _ => ?_) | (refine XI.id ?_; first | refine XI.done ?_ | refine XI.one1 rfl ?_) | (refine XR'.id ?_; first | refine XR'.seq ?_ | refine XR'.region ?_ | refine XR'.block ?_ | refine XR'.skip ?_ | refine XR'.ret ?_ | refine XR'.cond_t rfl ?_ | refine XR'.cond_f rfl ?_ | refine XR'.exit ?_) | (refine M1 ?_; first | refine SC ?_ | refine SD ?_) | (refine M2 ?_; first | refine XE.nextI ?_ | refine XE.nextR ?_ | refine SE ?_))
    have hil : (i : Int) ≤ t'.last := by unfold CTk.beg at hi; omega
    have h60 := ho'.n60
    have hdl := ho'.dly
    have hfr := ho'.frm
    have hl1 : -31 ≤ t'.last ∧ t'.last ≤ 60 := by unfold CTk.last; omega
    have hst : t'.strange (t'.plan (i : Nat)) = false := (plan_ok ho' (Int.natCast_nonneg i) hil).1
    have hm1 : 0 < t'.m := ho'.m1
    have hpl := fun {L : Lo} {B : Nat} {W1 : World} (w5 : World) (S5 : Sys B W1 L w5) (hm : (g, gamO v' t' gm) ∈ L) => plan_any (v := v') (t := t') (gm := gm) (i := (i : Nat)) (S5.own _ hm).2 ho' ⟨by omega, by omega⟩
    have hfl := fun (w5 : World) (ks2 : List Nat) (hG5 : Gam t' v' w.heap.size g gm ks2 [] [] w5) => fails_any (p := t'.plan (i : Nat)) hG5 ho' hm1 hst
    simp only [plnV] at hfl
    have hgs3 : g ∈ [D + 1, D, g6, g, g5, g4, g2] := by simp
    refine XR'.drawRS (trunc w w.heap.size) [(g6, cel 102 [.pointer (some ⟨g, 0, none⟩)])] [0, 1, 2] [3, 4, 5] mixed (fun _ h => Sys.anchorT hBW h (fun e he => by rw [List.mem_singleton.1 he]; exact .tail _ (.tail _ (.head _))) (by simp) (Nat.le_refl _)) rfl rfl (by kernel_rfl) ?_
    repeat (first | (refine M0 ?_; first | refine SL ?_ | refine SB fun _ _ => ?_ | refine Y4 (Ev.load_loc tok 0 (g := g6) (o := 0) rfl rfl rfl rfl) ?_) | (refine M2 ?_; refine SE ?_) | (refine M3 ?_; first | refine SG ?_ | refine SF ?_ | refine YF (Ev.load_loc tok 0 (g := g6) (o := 0) rfl rfl rfl rfl) ?_) | (refine M4 ?_; refine SR ?_) | (refine M5 ?_; first | exact M7 | refine YM ?_ | refine YN ?_ ?_))
    repeat (first | (refine M0 ?_; first | refine SL ?_ | refine SB fun _ _ => ?_ | refine Y4 (Ev.call (f := 50) (ck rfl) rfl (fun w5 S5 => hpl w5 S5 (.tail _ (.tail _ (.tail _ (.head _)))))) ?_) | (refine M2 ?_; refine SE ?_) | (refine M3 ?_; first | refine SG ?_ | refine SF ?_ | refine YF (Ev.call (f := 50) (ck rfl) rfl (fun w5 S5 => hpl w5 S5 (.tail _ (.tail _ (.tail _ (.head _)))))) ?_) | (refine M4 ?_; refine SR ?_) | (refine M5 ?_; first | exact M7 | refine YM ?_ | refine YN ?_ ?_))
    have hle : w.heap.size ≤ w.heap.size := Nat.le_refl _
    refine z7 ?_
    repeat (first | (refine M0 ?_; first | refine SL ?_ | refine SB fun _ _ => ?_) | (refine M2 ?_; refine SE ?_) | (refine M3 ?_; first | refine SG ?_ | refine SF ?_) | (refine M4 ?_; refine SR ?_) | (refine M5 ?_; first | exact M7 | refine YM ?_ | refine YN ?_ ?_))
    refine XL.callJ (IntR (idxB (t'.above 0 (t'.plan (i : Nat))) t'.n)) (ck rfl) rfl rfl hGW (.tail _ (.tail _ (.tail _ (.head _)))) (fun w5 ks2 _ _ hG5 => hfl w5 ks2 hG5) (fun w5 x new hR hG5 hB5 => ?_) (fun e he => by
      left
      have h5 : e.1 ∈ [D + 1, D, g6, g, g5, g4, g2] := List.mem_map.2 ⟨e, he, rfl⟩
      exact h5)
    obtain ⟨rfl, rfl⟩ := hR
    have hBW5 : Below w.heap.size w w5 := hBW.trans hB5
    repeat (first | (refine M0 ?_; first | refine SL ?_ | refine SB fun _ _ => ?_) | (refine M2 ?_; refine SE ?_) | (refine M3 ?_; first | refine SG ?_ | refine SF ?_) | (refine M4 ?_; refine SR ?_) | (refine M5 ?_; first | exact M7 | refine YM ?_ | refine YN ?_ ?_))
    refine z7 ?_
    repeat (first | (refine M0 ?_; first | refine SL ?_ | refine SB fun _ _ => ?_) | (refine M2 ?_; refine SE ?_) | (refine M3 ?_; first | refine SG ?_ | refine SF ?_) | (refine M4 ?_; refine SR ?_) | (refine M5 ?_; first | exact M7 | refine YM ?_ | refine YN ?_ ?_))
    refine z7 ?_
    repeat (first | (refine M0 ?_; first | refine SL ?_ | refine SB fun _ _ => ?_) | (refine M2 ?_; refine SE ?_) | (refine M3 ?_; first | refine SG ?_ | refine SF ?_) | (refine M4 ?_; refine SR ?_) | (refine M5 ?_; first | exact M7 | refine YM ?_ | refine YN ?_ ?_))
    refine XE.onlyN ?_
    rw [show decide (idxB (t'.above 0 (t'.plan (i : Nat))) t'.n < 0) = t'.holds 0 (t'.plan (i : Nat)) from idxB_neg]
    repeat (first | (refine M0 ?_; first | refine SL ?_ | refine SB fun _ _ => ?_) | (refine XI.id ?_; first | refine XI.done ?_ | refine XI.one1 rfl ?_) | (refine XR'.id ?_; first | refine XR'.seq ?_ | refine XR'.region ?_ | refine XR'.block ?_ | refine XR'.skip ?_ | refine XR'.ret ?_ | refine XR'.cond_t rfl ?_ | refine XR'.cond_f rfl ?_ | refine XR'.exit ?_) | (refine M1 ?_; first | refine SC ?_ | refine SD ?_) | (refine M2 ?_; first | refine XE.nextI ?_ | refine XE.nextR ?_ | refine SE ?_))
    refine XR'.cond _ rfl (fun h2 => ?_) (fun h2 => ?_)
    · repeat (first | (refine M0 ?_; first | refine SL ?_ | refine SB fun _ _ => ?_ | refine Y4 (Ev.load_loc tok 2 (g := g6) (o := 0) rfl rfl rfl rfl) ?_) | (refine XI.id ?_; first | refine XI.done ?_ | refine XI.one1 rfl ?_) | (refine XR'.id ?_; first | refine XR'.seq ?_ | refine XR'.region ?_ | refine XR'.block ?_ | refine XR'.skip ?_ | refine XR'.ret ?_ | refine XR'.cond_t rfl ?_ | refine XR'.cond_f rfl ?_ | refine XR'.exit ?_) | (refine M1 ?_; first | refine SC ?_ | refine SD ?_) | (refine M2 ?_; first | refine XE.nextI ?_ | refine XE.nextR ?_ | refine SE ?_))
      repeat (first | (refine M0 ?_; first | refine SL ?_ | refine SB fun _ _ => ?_ | refine Y4 (Ev.load_loc tok 3 (g := g) (o := 11) rfl rfl rfl rfl) ?_ | refine XL.store_at tok 5 (g := g4) (o := 0) (j := 0) (cs := [.int .i64 0]) rfl rfl rfl rfl rfl (Nat.le_of_ble_eq_true rfl) rfl ?_ | refine XL.store_at tok 4 (g := g5) (o := 0) (j := 0) (cs := [.int .i64 0]) rfl rfl rfl rfl rfl (Nat.le_of_ble_eq_true rfl) rfl ?_) | (refine XI.id ?_; first | refine XI.done ?_ | refine XI.one1 rfl ?_) | (refine XR'.id ?_; first | refine XR'.seq ?_ | refine XR'.region ?_ | refine XR'.block ?_ | refine XR'.skip ?_ | refine XR'.ret ?_ | refine XR'.cond_t rfl ?_ | refine XR'.cond_f rfl ?_ | refine XR'.exit ?_) | (refine M1 ?_; first | refine SC ?_ | refine SD ?_) | (refine M2 ?_; first | refine XE.nextI ?_ | refine XE.nextR ?_ | refine SE ?_))
      refine XE.endRet (i := 0) rfl rfl (fun w' S => ?_)
      exact ⟨_, rfl, .inr ⟨rfl, (w5, some i), ⟨i, rfl, hBW5, lastB_some.2 ⟨hi, h2, fun j h3 h4 => hJ j h3 h4⟩⟩, S⟩⟩
    · repeat (first | (refine M0 ?_; first | refine SL ?_ | refine SB fun _ _ => ?_) | (refine XI.id ?_; first | refine XI.done ?_ | refine XI.one1 rfl ?_) | (refine XR'.id ?_; first | refine XR'.seq ?_ | refine XR'.region ?_ | refine XR'.block ?_ | refine XR'.skip ?_ | refine XR'.ret ?_ | refine XR'.cond_t rfl ?_ | refine XR'.cond_f rfl ?_ | refine XR'.exit ?_) | (refine M1 ?_; first | refine SC ?_ | refine SD ?_) | (refine M2 ?_; first | refine XE.nextI ?_ | refine XE.nextR ?_ | refine SE ?_))
      refine XE.endR (i := 0) rfl rfl (fun w' S => ?_)
      refine ⟨_, rfl, .inl ⟨rfl, (w5, none), ⟨rfl, hG5.less (fun x hx => List.mem_append_right _ hx) hgs3, hBW5, fun j h3 h4 => ?_⟩, S⟩⟩
      rcases Nat.lt_or_ge i j with h5 | h5
      · exact hJ j h5 h4
      · have : i = j := by omega
        subst this
        exact h2
    any_goals (repeat (first | exact AnyR.nil | refine AnyR.skip rfl ?_))
  have eL : t.lasI h0.toNat = lastB (fun i => t'.holds 0 (t'.plan (i : Nat))) t'.beg := by unfold CTk.lasI; rw [← hbeg, ht']
  refine hbg.mono fun e w4 ⟨v4, e4, hz⟩ => ⟨v4, e4, ?_⟩
  rcases hz with ⟨⟨W, s⟩, ⟨rfl, hGW, hBW, hall⟩, S4⟩ | ⟨⟨W, s⟩, ⟨i, rfl, hBW, hi⟩, S4⟩
  · refine ⟨.ready, none, _, W, by decide, S4, ?_⟩
    dsimp only [RFEnd]
    rw [lastB_none.2 fun j hj => hall j (Nat.zero_le _) hj] at eL
    have e1 : t.lasN h0 = 0 := by unfold CTk.lasN; rw [if_neg (by simp [hce]), if_neg (by simp [hkb]), eL]
    have e2 : t.lasE h0 = 9 := by unfold CTk.lasE; rw [if_neg (by simp [hce]), if_neg (by simp [hkb]), eL]
    repeat (first | (refine M0 ?_; first | refine SL ?_ | refine SB fun _ _ => ?_) | (refine M1 ?_; refine SC ?_) | (refine M2 ?_; refine SE ?_))
    refine XE.retM (i := 1) tok Try.results23 rfl rfl rfl (by simp only [and_self, and_true]) (fun w' S => ?_)
    exact ⟨by rw [e1, e2]; rfl, hBW.trans S.toBelow⟩
  · refine ⟨.done, some .ret, _, W, by decide, S4, ?_⟩
    dsimp only [RFEnd]
    rw [hi] at eL
    have e1 : t.lasN h0 = t'.from_ + (i : Nat) := by unfold CTk.lasN; rw [if_neg (by simp [hce]), if_neg (by simp [hkb]), eL, ht']; exact congrArg (· + (i : Int)) (ho.from_ _ hkm).symm
    have e2 : t.lasE h0 = 0 := by unfold CTk.lasE; rw [if_neg (by simp [hce]), if_neg (by simp [hkb]), eL]
    refine XE.blk_ret (XE.then_ret ?_)
    refine XE.retM (i := 1) tok Try.results23 rfl rfl rfl (by simp only [and_self, and_true]) (fun w' S => ?_)
    exact ⟨by rw [e1, e2]; rfl, hBW.trans S.toBelow⟩
end Go.Proofs.Ytmpaiphakjogjaa.X
/-
  The walks of with, highs, allowed and may (closure).
-/
namespace Go.Proofs.Ytmpaiphakjogjaa.X
open Go Go.RowKit Go.Proofs.Ytmpaiphakjogjaa.Bs
set_option linter.unusedVariables false
def rulC (g : Nat) (r : CRu) : List Value := [.pointer (some ⟨g, 0, none⟩), .int .i64 r.count, .int .i64 r.early]
abbrev rulO (g : Nat) (r : CRu) : Obj := cel 124 (rulC g r)
def ruV (r : CRu) : Value := .agg ⟨[.int .i64 r.count, .int .i64 r.early]⟩
/-- what with answers. -/
def WitR (t : CTk) (v : CTV) (r : CRu) (w : World) (e : Ending) (w' : World) : Prop :=
  Below w.heap.size w w' ∧ ((ruE t r ≠ 0 ∧ e = .returned (.tuple ⟨[.pointer none, .int .i64 (ruE t r)]⟩)) ∨
    (ruE t r = 0 ∧ ∃ gr g gm, e = .returned (.tuple ⟨[.pointer (some ⟨gr, 0, none⟩), .int .i64 0]⟩) ∧ Gam t v w.heap.size g gm [gr, g] [] [] w' ∧ w'.heap[gr]? = some (rulO g r) ∧ w.heap.size ≤ gr))
theorem with_any {v : CTV} {t : CTk} {r : CRu} {w : World} (h : CtAt w w.heap.size v t) :
    Calls Try.prog 53 #[ctkV v t, ruV r] w (WitR t v r w) := by
  simp only [ctkV, ctkC, ruV]
  refine enter Try.func53 rfl Try.ntmps53 rfl ?_; simp only [frame, Nat.zero_add, Nat.reduceAdd]
  repeat (first | (refine M0 ?_; first | refine SL ?_ | refine SB fun _ _ => ?_) | (refine M1 ?_; refine SC ?_) | (refine M2 ?_; refine SE ?_))
  refine XL.begin5 (v := v) (t := t) h rfl rfl (fun hc w1 hB1 => ?_) (fun hc ho w1 g gm hG hB1 hg1 => ?_)
  · repeat (first | (refine M0 ?_; first | refine SL ?_ | refine SB fun _ _ => ?_) | (refine M1 ?_; refine SC ?_) | (refine M2 ?_; refine SE ?_))
    rw [show decide (ctE t ≠ 0) = true from decide_eq_true hc]
    repeat (first | (refine M0 ?_; first | refine SL ?_ | refine SB fun _ _ => ?_) | (refine M1 ?_; refine SC ?_) | (refine M2 ?_; refine SE ?_))
    refine XE.retg tok Try.results53 rfl (by simp only [and_self, and_true]) (fun w' S => ?_)
    have e1 : ruE t r = ctE t := by unfold ruE; rw [if_pos hc]
    exact ⟨hB1.trans S.toBelow, .inl ⟨by rw [e1]; exact hc, by rw [e1]; rfl⟩⟩
  rename_i g2 hg2 g3 hg3
  repeat (first | (refine M0 ?_; first | refine SL ?_ | refine SB fun _ _ => ?_ | refine Y4 (Ev.call (f := 37) (ck rfl) rfl (fun w S => cout_any _ _ _ w)) ?_) | (refine M1 ?_; refine SC ?_) | (refine M2 ?_; refine SE ?_))
  cases hb1 : outB r.count 1 8
  rotate_left
  · repeat (first | (refine M0 ?_; first | refine SL ?_ | refine SB fun _ _ => ?_) | (refine M1 ?_; refine SC ?_) | (refine M2 ?_; refine SE ?_))
    refine XE.retg tok Try.results53 rfl (by simp only [and_self, and_true]) (fun w' S => ?_)
    have e1 : ruE t r = 7 := by unfold ruE; rw [if_neg (by simp [hc]), hb1]; rfl
    exact ⟨hB1.trans S.toBelow, .inl ⟨by rw [e1]; decide, by rw [e1]; rfl⟩⟩
  repeat (first | (refine M0 ?_; first | refine SL ?_ | refine SB fun _ _ => ?_ | refine Y4 (Ev.call (f := 37) (ck rfl) rfl (fun w S => cout_any _ _ _ w)) ?_) | (refine M1 ?_; refine SC ?_) | (refine M2 ?_; refine SE ?_))
  cases hb2 : outB r.early 0 60
  rotate_left
  · repeat (first | (refine M0 ?_; first | refine SL ?_ | refine SB fun _ _ => ?_) | (refine M1 ?_; refine SC ?_) | (refine M2 ?_; refine SE ?_))
    refine XE.retg tok Try.results53 rfl (by simp only [and_self, and_true]) (fun w' S => ?_)
    have e1 : ruE t r = 7 := by unfold ruE; rw [if_neg (by simp [hc]), hb1, hb2]; rfl
    exact ⟨hB1.trans S.toBelow, .inl ⟨by rw [e1]; decide, by rw [e1]; rfl⟩⟩
  repeat (first | (refine M0 ?_; first | refine SL ?_ | refine SB fun _ _ => ?_) | (refine M1 ?_; refine SC ?_) | (refine M2 ?_; refine SE ?_))
  rename_i gr hgr
  refine XE.retg tok Try.results53 rfl (by simp only [and_self, and_true]) (fun w' S => ?_)
  have e1 : ruE t r = 0 := by unfold ruE; rw [if_neg (by simp [hc]), hb1, hb2]; rfl
  have hz1 := hB1.size
  have hgs : g ∈ (g :: [(g3, cel 42 [.int .i64 r.count, .int .i64 r.early]), (g2, cel 29 (ctkC v t))].map (·.1)) := .head _
  have hG3 := (hG.add S (.tail _ (.head _)) ZZHL).less (ks' := [gr, g]) (fun x hx => by simp only [List.mem_cons, List.not_mem_nil, or_false] at hx; simp only [List.map_cons, List.map_nil, List.mem_append, List.mem_cons, List.not_mem_nil, or_false]; omega) (by simp)
  exact ⟨hB1.trans S.toBelow, .inr ⟨e1, gr, g, gm, rfl, hG3, (S.own _ (.head _)).2, by omega⟩⟩
section
variable {t : CTk} {v : CTV} {r : CRu} {g gr gm : Nat} {w : World}
theorem highs1_any {g1 : Nat} {i x : Int} (h1 : w.heap[g1]? = some (cel 113 [.pointer (some ⟨gr, 0, none⟩)])) (hr : w.heap[gr]? = some (rulO g r)) (hg : w.heap[g]? = some (gamO v t gm)) :
    Calls Try.prog 89 #[.int .i64 i, .int .i64 x, .pointer (some ⟨g1, 0, none⟩)] w fun e w' => e = .returned (.bool (decide (t.limit < x))) ∧ Below w.heap.size w w' := by
  have c1 : w.cell? ⟨g1, 0, none⟩ = some (.pointer (some ⟨gr, 0, none⟩)) := by simp [World.cell?, h1]
  have c2 : w.cell? ((⟨gr, 0, none⟩ : Addr).add 0) = some (.pointer (some ⟨g, 0, none⟩)) := by rw [add_off]; simp [World.cell?, hr, rulC]
  have c3 : w.cell? ((⟨g, 0, none⟩ : Addr).add 9) = some (.int .i64 t.limit) := by rw [add_off]; simp [World.cell?, hg, gamC]
  have l1 := (Array.getElem?_eq_some_iff.1 h1).1
  have l2 := (Array.getElem?_eq_some_iff.1 hr).1
  have l3 := (Array.getElem?_eq_some_iff.1 hg).1
  refine enter Try.func89 rfl Try.ntmps89 rfl ?_; simp only [frame, Nat.zero_add, Nat.reduceAdd]
  repeat (first | (refine M0 ?_; first | refine SL ?_ | refine SB fun _ _ => ?_ | refine Y4 (Ev.load_old tok rfl rfl l1 c1) ?_ | refine Y4 (Ev.load_old tok rfl rfl l2 c2) ?_ | refine Y4 (Ev.load_old tok rfl rfl l3 c3) ?_) | (refine M1 ?_; refine SC ?_) | (refine M2 ?_; refine SE ?_))
  refine XE.retg tok Try.results89 rfl (by simp only [and_self, and_true]) (fun w' S => ?_)
  exact ⟨rfl, S.toBelow⟩
theorem fst_idx (t : CTk) (k : Nat) (ho : CtOk t) (hk : k < t.m) : idxB (fun i => decide (t.limit < at0 (t.h k).vals i)) (t.h k).vals.length = match t.fst k with | none => -1 | some i => (i : Int) := by
  unfold idxB CTk.fst
  rw [ho.len k hk, show (fun i => decide (t.limit < at0 (t.h k).vals i)) = fun i => decide (t.limit < t.v k i) from rfl]
  cases firstB (fun i => decide (t.limit < t.v k i)) t.n <;> rfl
theorem lstTo_succ (t : CTk) (k : Nat) : t.lstTo (k + 1) = match t.fst k with | none => t.lstTo k | some i => min (t.lstTo k) i := rfl
theorem fst_lt {k i : Nat} (h : t.fst k = some i) : i < t.n := (firstB_some.1 h).1
set_option maxHeartbeats 8000000 in
theorem highs_any (hT : CtAt w w.heap.size v t) (ho : CtOk t) (hr : w.heap[gr]? = some (rulO g r)) (hg : w.heap[g]? = some (gamO v t gm)) :
    Calls Try.prog 64 #[.pointer (some ⟨gr, 0, none⟩)] w (Made w fun x new => ∃ q : SV, x = .tuple ⟨[svV q, .int .i64 (t.lst : Nat)]⟩ ∧ new = [hList intK5 q (t.fld.map fun k => ((k : Nat) : Int))]) := by
  have hm8 := ho.m8
  have hm1 := ho.m1
  have hn60 := ho.n60
  have hhn := hT.hn
  have hhis := fun k hk => hT.hisAt (k := k) hk
  have l2 := (Array.getElem?_eq_some_iff.1 hr).1
  have l3 := (Array.getElem?_eq_some_iff.1 hg).1
  have c2 : w.cell? ((⟨gr, 0, none⟩ : Addr).add 0) = some (.pointer (some ⟨g, 0, none⟩)) := by rw [add_off]; simp [World.cell?, hr, rulC]
  have cn : w.cell? ((⟨g, 0, none⟩ : Addr).add 12) = some (.int .i64 (t.n : Nat)) := by rw [add_off]; simp [World.cell?, hg, gamC]
  have ch : w.cell? (((⟨g, 0, none⟩ : Addr).add 0).add 6) = some (.slice v.h.A v.h.n v.h.c) := by rw [add_off, add_off]; simp [World.cell?, hg, gamC]
  obtain ⟨vp, vf, ⟨Ah, nh, ch'⟩, vr⟩ := v
  simp only at hhn hhis ch
  subst hhn
  refine enter Try.func64 rfl Try.ntmps64 rfl ?_; simp only [frame, Nat.zero_add, Nat.reduceAdd]
  repeat (first | (refine M0 ?_; first | refine SL ?_ | refine SB fun _ _ => ?_ | refine Y4 (Ev.load_old tok rfl rfl l2 c2) ?_ | refine Y4 (Ev.load_old tok rfl rfl l3 cn) ?_ | refine Y4 (Ev.load_old tok rfl rfl l3 ch) ?_) | (refine M1 ?_; refine SC ?_) | (refine M2 ?_; refine SE ?_))
  rename_i g1 hg1
  obtain ⟨ah, ⟨A0, n0, c0⟩, rfl, hlth, _, _⟩ := hhis 0 (by omega)
  refine XC.rebase (List.Sublist.refl _) (fun W0 S0 => ?_)
  have hR0 : Fam W0 w.heap.size [g1] [⟨Int, intK5, .slice none 0 0, (t.fldTo 0).map fun k => ((k : Nat) : Int)⟩] [] := Fam.nil intK5 (Fam.start S0.size)
  refine XC.loopk [1, 21, 22] rfl (fun z : Nat × World × SV => [(2, svV z.2.2), (3, .int .i64 (t.lstTo z.1 : Nat)), (23, .int .i64 (z.1 : Nat))]) (fun z => [(g1, cel 113 [.pointer (some ⟨gr, 0, none⟩)])]) (fun z => z.2.1)
    (fun z => z.1 ≤ t.m ∧ Below w.heap.size w z.2.1 ∧ Fam z.2.1 w.heap.size [g1] [⟨Int, intK5, svV z.2.2, (t.fldTo z.1).map fun k => ((k : Nat) : Int)⟩] [] ∧ g1 < z.2.1.heap.size) (fun z => t.m - z.1) (0, W0, ⟨none, 0, 0⟩) ⟨Nat.zero_le _, S0.toBelow, hR0, S0.lt (.head _)⟩ ZZSUB (fun _ h => h) ?_
  rintro ⟨k, W, q⟩ ⟨hk, hB, hF, hgl⟩
  simp only at hk hB hF hgl
  simp only [svV]
  dsimp only [List.cons_append, List.nil_append]
  repeat (first | (refine M0 ?_; first | refine SL ?_ | refine SB fun _ _ => ?_) | (refine M1 ?_; refine SC ?_) | (refine M2 ?_; refine SE ?_))
  refine XC.cond _ rfl (fun h1 => ?_) (fun h1 => ?_)
  rotate_left
  · have hkm : k = t.m := by have := of_decide_eq_false h1; omega
    subst hkm
    repeat (first | (refine M0 ?_; first | refine SL ?_ | refine SB fun _ _ => ?_) | (refine M1 ?_; refine SC ?_) | (refine M2 ?_; refine SE ?_))
    refine XE.retg tok Try.results64 rfl (by simp only [and_self, and_true]) (fun w' S => ?_)
    have hF9 := hF.sys S ZZHL
    obtain ⟨qA, qn, qc⟩ := q
    exact ⟨_, _, rfl, ⟨⟨qA, qn, qc⟩, rfl, rfl⟩, fun x hx => by rw [List.mem_singleton.1 hx]; exact hF9.listOf (K := intK5) (.head _), hB.trans S.toBelow⟩
  have hkm : k < t.m := by have := of_decide_eq_true h1; omega
  obtain ⟨ad', ⟨Ak, nk, ck1⟩, e, _, hck, hqk⟩ := hhis k hkm
  cases e
  have hlk := hqk.len
  simp only at hlk
  rw [ho.len k hkm] at hlk
  subst hlk
  have hckW : ∀ j u, (hisC ⟨Ak, t.n, ck1⟩ (t.h k))[j]? = some u → W.cell? ((ah.add (k * 2)).add j) = some u := fun j u hj => (below_cell5 hB (add_lt2 hlth)).trans (hck j u hj)
  have hwh := fun {L : Lo} (w5 : World) (S5 : Sys w.heap.size W L w5) (hm : (g1, cel 113 [.pointer (some ⟨gr, 0, none⟩)]) ∈ L) => where_pure (f := 89) (cap := [.pointer (some ⟨g1, 0, none⟩)]) (P := fun i => decide (t.limit < at0 (t.h k).vals i)) (r := ⟨Ak, t.n, ck1⟩) (ms := (t.h k).vals) (w := w5) (ck rfl)
    ((hqk.below (hB.trans S5.toBelow)).mono fun j hj => Nat.lt_of_lt_of_le hj (Nat.le_trans S5.base S5.size)) (by rw [ho.len k hkm]; omega) (fun i hi w' hb => highs1_any (v := ⟨vp, vf, ⟨some ah, t.m, ch'⟩, vr⟩) (Below.keep hb (S5.own _ hm).2) (by
      have := (hB.trans (S5.toBelow.trans (hb.mono (Nat.le_trans S5.base S5.size)))).block gr l2
      exact this.trans hr) (by
      have := (hB.trans (S5.toBelow.trans (hb.mono (Nat.le_trans S5.base S5.size)))).block g l3
      exact this.trans hg))
  simp only [svV, List.nil_append, List.cons_append] at hwh
  repeat (first | (refine M0 ?_; first | refine SL ?_ | refine SB fun _ _ => ?_ | refine Y4 (Ev.load_old_agg tok (hisC ⟨Ak, t.n, ck1⟩ (t.h k)) rfl rfl rfl (add_lt hlth) hckW) ?_) | (refine M1 ?_; refine SC ?_) | (refine M2 ?_; refine SE ?_))
  rename_i g5 hg5
  refine XL.step _ (Ev.makeFunc rfl rfl) rfl ?_
  repeat (first | (refine M0 ?_; first | refine SL ?_ | refine SB fun _ _ => ?_ | refine Y4 (Ev.call (f := 41) (ck rfl) rfl (fun w5 S5 => hwh w5 S5 (.tail _ (.head _)))) ?_) | (refine M1 ?_; refine SC ?_) | (refine M2 ?_; refine SE ?_))
  rw [fst_idx t k ho hkm]
  have hsu := fldTo_succ t k
  have hll := lstTo_le t k
  have hfl := fldTo_len t k
  cases hfi : t.fst k with
  | none =>
    simp only
    have e1 : t.fldTo (k + 1) = t.fldTo k := by rw [hsu, hfi, if_neg (by simp)]; simp
    have e2 : t.lstTo (k + 1) = t.lstTo k := by rw [lstTo_succ, hfi]
    repeat (first | (refine M0 ?_; first | refine SL ?_ | refine SB fun _ _ => ?_) | (refine M1 ?_; refine SC ?_) | (refine M2 ?_; refine SE ?_))
    refine XE.roundW (s := (k, W, q)) (fun w9 S9 => ⟨(k + 1, w9, q), ⟨hkm, hB.trans S9.toBelow, ?_, Nat.lt_of_lt_of_le hgl S9.size⟩, by simp only; omega, ?_, S9.rebase ZZSM⟩)
    · simp only [e1]
      exact hF.sys S9 ZZHL
    · simp only [e2]
      exact ZZSUB
  | some i =>
    simp only
    have hin := fst_lt hfi
    repeat (first | (refine M0 ?_; first | refine SL ?_ | refine SB fun _ _ => ?_ | refine XL.buildSlice tok rfl rfl rfl rfl rfl rfl rfl rfl rfl (fun _ _ => ?_)) | (refine M1 ?_; refine SC ?_) | (refine M2 ?_; refine SE ?_))
    have e1 : t.fldTo (k + 1) = t.fldTo k ++ [k] := by rw [hsu, hfi]; rfl
    have e2 : t.lstTo (k + 1) = min (t.lstTo k) i := by rw [lstTo_succ, hfi]
    rename_i gn hgn
    refine XL.push (K := intK5) (a := (k : Nat)) (wE := w) 0 int5_el (by decide) rfl rfl rfl hF rfl (fun j hj => by rw [List.mem_singleton.1 hj]; exact hgl) hB (Nat.le_refl _) rfl (by rw [List.length_map]; omega) (by decide) (fun x hx => by cases hx) (fun w2 v2 hF2 hB2 hk2 => ?_)
    have hl : (t.fldTo k).map (fun k => ((k : Nat) : Int)) ++ [((k : Nat) : Int)] = (t.fldTo (k + 1)).map fun k => ((k : Nat) : Int) := by rw [e1, List.map_append]; rfl
    simp only [List.set_cons_zero, hl] at hF2
    obtain ⟨r', rfl, _⟩ := hF2.sv (K := intK5) (l := (t.fldTo (k + 1)).map fun k => ((k : Nat) : Int)) (v := v2) (.head _)
    obtain ⟨rA, rn, rc⟩ := r'
    simp only [svV]
    repeat (first | (refine M0 ?_; first | refine SL ?_ | refine SB fun _ _ => ?_) | (refine M1 ?_; refine SC ?_) | (refine M2 ?_; refine SE ?_))
    have e3 : min (t.lstTo k : Int) (i : Int) = (t.lstTo (k + 1) : Nat) := by rw [e2]; omega
    refine XE.roundW (s := (k, W, q)) (fun w9 S9 => ⟨(k + 1, w9, ⟨rA, rn, rc⟩), ⟨hkm, hB2.trans S9.toBelow, ?_, Nat.lt_of_lt_of_le (hk2 g1 (by simp)) S9.size⟩, by simp only; omega, ?_, S9.rebase ZZSM⟩)
    · exact (hF2.sys S9 ZZHL).add fun x hx => .inl (by rw [List.mem_singleton.1 hx]; simp)
    · simp only [← e3]
      exact ZZSUB
end
end Go.Proofs.Ytmpaiphakjogjaa.X
/-
  The walks of allowed, may and Allowed (closure).
-/
namespace Go.Proofs.Ytmpaiphakjogjaa.Bs
open Go Go.Proofs.Ytmpaiphakjogjaa.X
noncomputable def CTk.alwB (t : CTk) (r : CRu) (i : Int) : Bool := if ruE t r ≠ 0 then false else t.allowed r i
end Go.Proofs.Ytmpaiphakjogjaa.Bs
namespace Go.Proofs.Ytmpaiphakjogjaa.X
open Go Go.RowKit Go.Proofs.Ytmpaiphakjogjaa.Bs
set_option linter.unusedVariables false
section
variable {t : CTk} {v : CTV} {r : CRu} {g gr gm : Nat} {w : World}
theorem allowed_any (hT : CtAt w w.heap.size v t) (ho : CtOk t) (hq : RuOk r) (hr : w.heap[gr]? = some (rulO g r)) (hg : w.heap[g]? = some (gamO v t gm)) :
    Calls Try.prog 54 #[.pointer (some ⟨gr, 0, none⟩)] w fun e w' => e = .returned (.tuple ⟨[.bool (t.called r), .int .i64 (t.frmI r)]⟩) ∧ Below w.heap.size w w' := by
  have h1 := ho.n60
  have h2 := hq.count
  have h3 := hq.early
  have hl : t.lst ≤ t.n := lstTo_le t t.m
  have hf : t.fld.length ≤ t.m := fldTo_len t t.m
  have hm8 := ho.m8
  have l2 := (Array.getElem?_eq_some_iff.1 hr).1
  have l3 := (Array.getElem?_eq_some_iff.1 hg).1
  have c1 : w.cell? ((⟨gr, 0, none⟩ : Addr).add (1 + 0)) = some (.int .i64 r.count) := by rw [add_off]; simp [World.cell?, hr, rulC]
  have c2 : w.cell? ((⟨gr, 0, none⟩ : Addr).add (1 + 1)) = some (.int .i64 r.early) := by rw [add_off]; simp [World.cell?, hr, rulC]
  refine enter Try.func54 rfl Try.ntmps54 rfl ?_; simp only [frame, Nat.zero_add, Nat.reduceAdd]
  repeat (first | (refine M0 ?_; first | refine SL ?_ | refine SB fun _ _ => ?_) | (refine M1 ?_; refine SC ?_) | (refine M2 ?_; refine SE ?_))
  refine XL.callr (fst := []) (cap := []) (fun w1 x w2 => ∃ q : SV, x = .tuple ⟨[svV q, .int .i64 (t.lst : Nat)]⟩ ∧ q.n = t.fld.length ∧ Below w1.heap.size w1 w2) (ck rfl) rfl rfl rfl (fun w1 S1 => ?_) (fun w1 x w2 S1 hR => ?_)
  · simp only [List.nil_append, List.append_nil]
    exact (highs_any (r := r) (hT.sys S1) ho ((S1.toBelow.block gr l2).trans hr) ((S1.toBelow.block g l3).trans hg)).mono fun e w' ⟨x, new, e1, ⟨q, e2, e3⟩, e4, e5⟩ => ⟨x, e1, q, e2, by
      have h5 := e4 (hList intK5 q (t.fld.map fun k => ((k : Nat) : Int))) (by rw [e3]; exact .head _)
      have h6 : q.n = _ := ListAt.len h5 (by decide)
      rw [h6, List.length_map], e5⟩
  obtain ⟨⟨qA, qn, qc⟩, rfl, hqn, hB⟩ := hR
  simp only at hqn
  subst hqn
  have hBw : Below w.heap.size w w2 := S1.toBelow.trans (hB.mono (Nat.le_trans S1.base S1.size))
  refine ⟨[], w2, S1.made hB, ?_⟩
  have d1 := (below_cell5 hBw (ad := (⟨gr, 0, none⟩ : Addr).add (1 + 0)) (by rw [add_block]; exact l2)).trans c1
  have d2 := (below_cell5 hBw (ad := (⟨gr, 0, none⟩ : Addr).add (1 + 1)) (by rw [add_block]; exact l2)).trans c2
  simp only [svV]
  repeat (first | (refine M0 ?_; first | refine SL ?_ | refine SB fun _ _ => ?_ | refine Y4 (Ev.load_old tok rfl rfl l2 d1) ?_ | refine Y4 (Ev.load_old tok rfl rfl l2 d2) ?_) | (refine M1 ?_; first | refine SC ?_ | refine SD ?_) | (refine M2 ?_; refine SE ?_) | (refine M3 ?_; first | refine SG ?_ | refine SF ?_ | refine YF (Ev.load_old tok rfl rfl l2 d1) ?_ | refine YF (Ev.load_old tok rfl rfl l2 d2) ?_) | (refine M4 ?_; refine SR ?_) | (refine M5 ?_; first | exact M7 | refine YM ?_ | refine YN ?_ ?_))
  refine XE.retg tok Try.results54 rfl (by simp only [and_self, and_true]) (fun w' S => ?_)
  exact ⟨rfl, hBw.trans S.toBelow⟩
theorem may_any {i : Int} (hT : CtAt w w.heap.size v t) (ho : CtOk t) (hq : RuOk r) (hr : w.heap[gr]? = some (rulO g r)) (hg : w.heap[g]? = some (gamO v t gm)) :
    Calls Try.prog 59 #[.pointer (some ⟨gr, 0, none⟩), .int .i64 i] w fun e w' => e = .returned (.bool (t.may r i)) ∧ Below w.heap.size w w' := by
  have l2 := (Array.getElem?_eq_some_iff.1 hr).1
  have l3 := (Array.getElem?_eq_some_iff.1 hg).1
  have c1 : w.cell? ((⟨gr, 0, none⟩ : Addr).add 0) = some (.pointer (some ⟨g, 0, none⟩)) := by rw [add_off]; simp [World.cell?, hr, rulC]
  have hal := fun {L : Lo} (w5 : World) (S5 : Sys w.heap.size w L w5) => allowed_any (r := r) (hT.sys S5) ho hq ((S5.toBelow.block gr l2).trans hr) ((S5.toBelow.block g l3).trans hg)
  have hla := fun {L : Lo} (w5 : World) (S5 : Sys w.heap.size w L w5) => last_any (v := v) (t := t) (gm := gm) ((S5.toBelow.block g l3).trans hg) ho
  refine enter Try.func59 rfl Try.ntmps59 rfl ?_; simp only [frame, Nat.zero_add, Nat.reduceAdd]
  repeat (first | (refine M0 ?_; first | refine SL ?_ | refine SB fun _ _ => ?_ | refine Y4 (Ev.call (f := 54) (ck rfl) rfl (fun w5 S5 => hal w5 S5)) ?_) | (refine M1 ?_; refine SC ?_) | (refine M2 ?_; refine SE ?_))
  cases hb : t.called r
  · repeat (first | (refine M0 ?_; first | refine SL ?_ | refine SB fun _ _ => ?_) | (refine M1 ?_; refine SC ?_) | (refine M2 ?_; refine SE ?_))
    refine XE.retg tok Try.results59 rfl (by simp only [and_self, and_true]) (fun w' S => ?_)
    exact ⟨by unfold CTk.may; rw [hb]; rfl, S.toBelow⟩
  · repeat (first | (refine M0 ?_; first | refine SL ?_ | refine SB fun _ _ => ?_ | refine Y4 (Ev.load_old tok rfl rfl l2 c1) ?_ | refine Y4 (Ev.call (f := 49) (ck rfl) rfl (fun w5 S5 => hla w5 S5)) ?_ | refine Y4 (Ev.call (f := 37) (ck rfl) rfl (fun w S => cout_any _ _ _ w)) ?_) | (refine M1 ?_; refine SC ?_) | (refine M2 ?_; refine SE ?_))
    refine XE.retg tok Try.results59 rfl (by simp only [and_self, and_true]) (fun w' S => ?_)
    exact ⟨by unfold CTk.may; rw [hb]; rfl, S.toBelow⟩
end
section
variable {t : CTk} {v : CTV} {r : CRu} {w0 : World} {L : Lo} {B N : Nat} {ds : List Deferred} {Q : Exit → Act → World → Prop} {F : Fr} {ops : Array Oper} {rest : List Oper} {ty : TypeId} {p : String} {af : Array Edge}
/-- a call of with. -/
theorem XL.with5 {d : Nat} {args : Array Operand} {ats : Array TypeId} (hT : CtAt w0 B v t) (ha : evos F args.toList = some [ctkV v t, ruV r]) (hd : Nat.blt d N = true)
    (k1 : ruE t r ≠ 0 → ∀ w', Below B w0 w' → XL Try.prog N B w' ds Q ops rest ((d, .tuple ⟨[.pointer none, .int .i64 (ruE t r)]⟩) :: F) L)
    (k2 : ruE t r = 0 → CtOk t → RuOk r → ∀ w' gr g gm, Gam t v B g gm (gr :: g :: L.map (·.1)) [] [] w' → Below B w0 w' → w0.heap.size ≤ g → w0.heap.size ≤ gr → XL Try.prog N B w' ds Q ops rest ((d, .tuple ⟨[.pointer (some ⟨gr, 0, none⟩), .int .i64 0]⟩) :: F) ((gr, rulO g r) :: (g, gamO v t gm) :: L)) :
    XL Try.prog N B w0 ds Q ops ({ dst := some d, op := .call { callee := .value (.func 53), args := args, argTypes := ats }, type := ty, pos := p, after := af, guard := none } :: rest) F L := by
  refine XL.callr (fst := []) (cap := []) (fun w x w' => WitR t v r w (.returned x) w') (ck rfl) rfl ha hd (fun w S => ?_) (fun w x w' S hR => ?_)
  · simp only [List.nil_append, List.append_nil]
    exact (with_any (r := r) ((hT.below S.toBelow).more (Nat.le_trans S.base S.size))).mono fun e w' hR => by
      obtain ⟨h1, h2 | h2⟩ := hR
      · exact ⟨_, h2.2, h1, .inl ⟨h2.1, rfl⟩⟩
      · obtain ⟨h3, gr, g, gm, h4, h5⟩ := h2
        exact ⟨_, h4, h1, .inr ⟨h3, gr, g, gm, rfl, h5⟩⟩
  · obtain ⟨h1, h2 | h2⟩ := hR
    · obtain ⟨h3, h4⟩ := h2
      cases h4
      exact ⟨L, w', S.made h1, k1 h3 w' (S.toBelow.trans (h1.mono (Nat.le_trans S.base S.size)))⟩
    · obtain ⟨h3, gr, g, gm, h4, h5, h6, h7⟩ := h2
      cases h4
      have hB : Below B w0 w' := S.toBelow.trans (h1.mono (Nat.le_trans S.base S.size))
      have hgl : w.heap.size ≤ g := h5.bg
      have hne : gr ≠ g := fun e => by
        subst e
        rw [h5.game] at h6
        simp [rulO, gamO] at h6
      have hlow : Gam t v B g gm (gr :: g :: L.map (·.1)) [] [] w' := h5.lower (Nat.le_trans S.base S.size) (hT.below hB) (fun k hk => by
        rcases List.mem_cons.1 hk with rfl | hk
        · exact .head _
        · rw [List.mem_singleton.1 hk]; exact .tail _ (.head _)) (fun k hk => by
        rcases List.mem_cons.1 hk with rfl | hk
        · exact .inl (.head _)
        · rcases List.mem_cons.1 hk with rfl | hk
          · exact .inl (.tail _ (.head _))
          · exact .inr (S.keyLt k hk))
      have S' := S.made h1
      refine ⟨(gr, rulO g r) :: (g, gamO v t gm) :: L, w', Sys.start S'.base (fun e he => ?_) ?_, k2 h3 (ruE_0 h3).2.1 (ruE_0 h3).2.2 w' gr g gm hlow hB (Nat.le_trans S.size hgl) (Nat.le_trans S.size h7)⟩
      · rcases List.mem_cons.1 he with rfl | he
        · exact ⟨Nat.le_trans (Nat.le_trans S.base S.size) h7, h6⟩
        · rcases List.mem_cons.1 he with rfl | he
          · exact ⟨hlow.bg, hlow.game⟩
          · exact S'.own e he
      · simp only [List.map_cons, List.nodup_cons]
        refine ⟨fun hm => ?_, fun hm => ?_, S.nd⟩
        · rcases List.mem_cons.1 hm with hm | hm
          · exact hne hm
          · have := S.keyLt gr hm
            omega
        · have := S.keyLt g hm
          omega
end
theorem Allowed_any {v : CTV} {t : CTk} {r : CRu} {i : Int} {w : World} (h : CtAt w w.heap.size v t) :
    Calls Try.prog 21 #[ctkV v t, ruV r, .int .i64 i] w fun e w' => e = .returned (.tuple ⟨[.bool (t.alwB r i), .int .i64 (ruE t r)]⟩) ∧ Below w.heap.size w w' := by
  simp only [ctkV, ctkC, ruV]
  refine enter Try.func21 rfl Try.ntmps21 rfl ?_; simp only [frame, Nat.zero_add, Nat.reduceAdd]
  repeat (first | (refine M0 ?_; first | refine SL ?_ | refine SB fun _ _ => ?_) | (refine M1 ?_; refine SC ?_) | (refine M2 ?_; refine SE ?_))
  refine XL.with5 (v := v) (t := t) (r := r) h rfl rfl (fun hc w1 hB1 => ?_) (fun hc ho hq w1 gr g gm hG hB1 hg1 hgr1 => ?_)
  · repeat (first | (refine M0 ?_; first | refine SL ?_ | refine SB fun _ _ => ?_) | (refine M1 ?_; refine SC ?_) | (refine M2 ?_; refine SE ?_))
    rw [show decide (ruE t r ≠ 0) = true from decide_eq_true hc]
    repeat (first | (refine M0 ?_; first | refine SL ?_ | refine SB fun _ _ => ?_) | (refine M1 ?_; refine SC ?_) | (refine M2 ?_; refine SE ?_))
    refine XE.retg tok Try.results21 rfl (by simp only [and_self, and_true]) (fun w' S => ?_)
    exact ⟨by unfold CTk.alwB; rw [if_pos hc]; rfl, hB1.trans S.toBelow⟩
  have hml := fun {L : Lo} (w5 : World) (S5 : Sys w.heap.size w1 L w5) (m1 : (gr, rulO g r) ∈ L) (m2 : (g, gamO v t gm) ∈ L) => may_any (r := r) (i := i - t.from_) ((hG.task.below S5.toBelow).more (Nat.le_trans S5.base S5.size)) ho hq (S5.own _ m1).2 (S5.own _ m2).2
  have h60 := ho.n60
  have hfr := ho.frm
  simp only [gamO, gamC, rulO, rulC]
  repeat (first | (refine M0 ?_; first | refine SL ?_ | refine SB fun _ _ => ?_) | (refine M1 ?_; refine SC ?_) | (refine M2 ?_; refine SE ?_))
  cases hb : outB i t.from_ (t.from_ + t.n - 1)
  · have hbi := outB_f.1 hb
    repeat (any_goals (first | (refine M0 ?_; first | refine SL ?_ | refine SB fun _ _ => ?_ | (refine XL.split _ _ rfl (fun h => ?_) (fun h => ?_) <;> rw [h]) | refine Y4 (Ev.load_loc tok 0 (g := gr) (o := 0) rfl rfl rfl rfl) ?_ | refine Y4 (Ev.load_loc tok 1 (g := g) (o := 11) rfl rfl rfl rfl) ?_ | refine Y4 (Ev.load_loc tok 1 (g := g) (o := 12) rfl rfl rfl rfl) ?_ | refine Y4 (Ev.call (f := 37) (ck rfl) rfl (fun w S => cout_any _ _ _ w)) ?_ | refine Y4 (Ev.call (f := 59) (ck rfl) rfl (fun w5 S5 => hml w5 S5 (.head _) (.tail _ (.head _)))) ?_) | (refine M1 ?_; first | refine SC ?_ | refine SD ?_ | refine XC.cond _ rfl (fun h => ?_) (fun h => ?_)) | (refine M2 ?_; refine SE ?_) | (refine M3 ?_; first | refine SG ?_ | refine SF ?_ | (refine Fw.split _ _ rfl (fun h => ?_) (fun h => ?_) <;> rw [h]) | refine YF (Ev.load_loc tok 0 (g := gr) (o := 0) rfl rfl rfl rfl) ?_ | refine YF (Ev.load_loc tok 1 (g := g) (o := 11) rfl rfl rfl rfl) ?_ | refine YF (Ev.load_loc tok 1 (g := g) (o := 12) rfl rfl rfl rfl) ?_ | refine YF (Ev.call (f := 37) (ck rfl) rfl (fun w S => cout_any _ _ _ w)) ?_ | refine YF (Ev.call (f := 59) (ck rfl) rfl (fun w5 S5 => hml w5 S5 (.head _) (.tail _ (.head _)))) ?_) | (refine M4 ?_; refine SR ?_) | (refine M5 ?_; first | exact M7 | refine YM ?_ | refine YN ?_ ?_)))
    all_goals first | (rename_i h; rw [hb] at h; cases h; done) | skip
    refine XE.retg tok Try.results21 rfl (by simp only [and_self, and_true]) (fun w' S => ?_)
    exact ⟨by rw [hc]; unfold CTk.alwB; rw [if_neg (by simp [hc])]; unfold CTk.allowed; rw [hb]; rfl, hB1.trans S.toBelow⟩
  · have hnb : (!outB i t.from_ (t.from_ + t.n - 1)) = false := by rw [hb]; rfl
    repeat (any_goals (first | (refine M0 ?_; first | refine SL ?_ | refine SB fun _ _ => ?_ | (refine XL.split _ _ rfl (fun h => ?_) (fun h => ?_) <;> rw [h]) | refine Y4 (Ev.load_loc tok 0 (g := gr) (o := 0) rfl rfl rfl rfl) ?_ | refine Y4 (Ev.load_loc tok 1 (g := g) (o := 11) rfl rfl rfl rfl) ?_ | refine Y4 (Ev.load_loc tok 1 (g := g) (o := 12) rfl rfl rfl rfl) ?_ | refine Y4 (Ev.call (f := 37) (ck rfl) rfl (fun w S => cout_any _ _ _ w)) ?_) | (refine M1 ?_; first | refine SC ?_ | refine SD ?_ | refine XC.cond _ rfl (fun h => ?_) (fun h => ?_)) | (refine M2 ?_; refine SE ?_) | (refine M3 ?_; first | refine SG ?_ | refine SF ?_ | (refine Fw.split _ _ rfl (fun h => ?_) (fun h => ?_) <;> rw [h]) | refine YF (Ev.load_loc tok 0 (g := gr) (o := 0) rfl rfl rfl rfl) ?_ | refine YF (Ev.load_loc tok 1 (g := g) (o := 11) rfl rfl rfl rfl) ?_ | refine YF (Ev.load_loc tok 1 (g := g) (o := 12) rfl rfl rfl rfl) ?_ | refine YF (Ev.call (f := 37) (ck rfl) rfl (fun w S => cout_any _ _ _ w)) ?_) | (refine M4 ?_; refine SR ?_) | (refine M5 ?_; first | exact M7 | refine YM ?_ | refine YN ?_ ?_)))
    all_goals first | (rename_i h; rw [hb] at h; cases h; done) | skip
    refine XE.retg tok Try.results21 rfl (by simp only [and_self, and_true]) (fun w' S => ?_)
    exact ⟨by rw [hc]; unfold CTk.alwB; rw [if_neg (by simp [hc])]; unfold CTk.allowed; rw [hb]; rfl, hB1.trans S.toBelow⟩
end Go.Proofs.Ytmpaiphakjogjaa.X
/-
  Calls that may do runs, from functions with a receiver of their own beside the game.
-/
namespace Go.Proofs.Ytmpaiphakjogjaa.X
open Go Go.RowKit Go.Proofs.Ytmpaiphakjogjaa.Bs
set_option linter.unusedVariables false
theorem own2 {w W : World} {g gr : Nat} {o o' : Obj} {L : Lo} (hg : W.heap[g]? = some o) (hr : W.heap[gr]? = some o') (hL : ∀ e, e ∈ L → e = (g, o) ∨ e = (gr, o') ∨ w.heap.size ≤ e.1) : ∀ e, e ∈ L → e.1 < w.heap.size → W.heap[e.1]? = some e.2 := fun e he hlt => by
  rcases hL e he with rfl | rfl | h
  · exact hg
  · exact hr
  · omega
theorem ZZO3 {p : Prop} (h : p := by (intro e he; repeat (first | (cases he; done) | (rcases List.mem_cons.1 he with rfl | he; · first | (left; rfl) | (right; left; rfl) | (right; right; assumption) | (right; right; simp only; omega)))) <;> fail) : p := h
section
variable {t : CTk} {v : CTV} {b0 g gm : Nat} {kk ks ks' : List Nat} {rs : List RowX} {hs hs' new : List Held} {w W w' wE w0 w1 w2 : World} {L : Lo} {B : Nat} {R : Value → List Held → Prop} {x : Value}
theorem Gam.far (hG : Gam t v b0 g gm ks rs hs W) (hL : ∀ e, e ∈ L → e.1 ∈ ks ∨ W.heap.size ≤ e.1) : ∀ e, e ∈ L → e.1 ≠ gm := fun e he e1 => by
  rcases hL e he with h1 | h1
  · exact hG.nin (e1 ▸ h1)
  · have := hG.lt gm (.head _); omega
theorem Since.end2 (hG : Gam t v b0 g gm ks rs hs W) (hS : Since w gm W) (S : Sys b0 W L w') (hL : ∀ e, e ∈ L → e.1 ∈ ks ∨ W.heap.size ≤ e.1) (hLE : ∀ e, e ∈ L → e.1 < w.heap.size → W.heap[e.1]? = some e.2) : Since w gm w' :=
  hS.sys S fun e he => ⟨hLE e he, hG.far hL e he⟩
theorem GamR.end2 (hG : Gam t v b0 g gm (kk ++ ks) [] hs W) (hS : Since w gm W) (S : Sys b0 W L w') (hg : (g, gamO v t gm) ∈ L) (hR : R x []) (hL : ∀ e, e ∈ L → e.1 ∈ kk ++ ks ∨ W.heap.size ≤ e.1) (hLE : ∀ e, e ∈ L → e.1 < w.heap.size → W.heap[e.1]? = some e.2) : GamR t b0 gm ks R w (.returned x) w' := by
  have h1 := hG.sys S hg hL
  refine ⟨x, [], rfl, hR, Since.end2 hG hS S hL hLE, h1.memo.mono fun j hj => ⟨hj.1, hj.2.1, fun h => hj.2.2.1 ?_, hj.2.2.2⟩, fun y hy => by cases hy⟩
  rcases List.mem_cons.1 h with rfl | h
  · exact .head _
  · exact List.mem_cons_of_mem _ (List.mem_append_right _ h)
variable {P : Program} {N : Nat} {ds : List Deferred} {Q : Exit → Act → World → Prop} {F : Fr} {ops : Array Oper} {rest : List Oper} {ty : TypeId} {p : String} {af : Array Edge}
theorem XL.callI {f : FuncId} {d : Nat} {args : Array Operand} {vs : List Value} {ats : Array TypeId} (R : Value → List Held → Prop) (h : callOk P f = true)
    (ha : evos F args.toList = some vs) (hd : Nat.blt d N = true) (hG : Gam t v b0 g gm ks rs hs w0) (hSn : Since wE gm w0) (hg : (g, gamO v t gm) ∈ L)
    (hc : ∀ w ks2, Sys b0 w0 L w → (∀ e, e ∈ L → e.1 ∈ ks2) → Gam t v b0 g gm ks2 [] [] w → Calls P f vs.toArray w (GamR t b0 gm ks2 R w))
    (k : ∀ w' x new, R x new → Gam t v b0 g gm (L.map (·.1) ++ ks) rs (new ++ hs) w' → Since wE gm w' → XL P N b0 w' ds Q ops rest ((d, x) :: F) L)
    (hL : ∀ e, e ∈ L → e.1 ∈ ks ∨ w0.heap.size ≤ e.1) (hLE : ∀ e, e ∈ L → e.1 < wE.heap.size → w0.heap[e.1]? = some e.2) :
    XL P N b0 w0 ds Q ops ({ dst := some d, op := .call { callee := .value (.func f), args := args, argTypes := ats }, type := ty, pos := p, after := af, guard := none } :: rest) F L := by
  refine XL.callr (fst := []) (cap := []) (fun w x w' => ∃ new, R x new ∧ Gam t v b0 g gm (L.map (·.1) ++ ks) rs (new ++ hs) w' ∧ Since w gm w') h rfl ha hd (fun w S => ?_) (fun w x w' S hR => ?_)
  · have hA := hG.add S hg hL
    have := hc w _ S (fun e he => List.mem_append_right _ (List.mem_append_left _ (List.mem_map.2 ⟨e, he, rfl⟩))) hA.down
    simp only [List.nil_append, List.append_nil]
    exact this.mono fun e w' ⟨x, new, e1, e2, e3, e4, e5⟩ => ⟨x, e1, new, e2, hA.after rfl e3 e4 e5, e3⟩
  · obtain ⟨new, e2, hG', e3⟩ := hR
    have hne := hG.far hL
    have S' : Sys b0 w' L w' := Sys.start hG'.fam.base (fun e he => ⟨(S.own e he).1, by rw [e3.old e.1 (S.lt he) (hne e he)]; exact (S.own e he).2⟩) S.nd
    exact ⟨L, w', S', k w' x new e2 hG' ((hSn.sys S fun e he => ⟨hLE e he, hne e he⟩).trans e3)⟩
end
end Go.Proofs.Ytmpaiphakjogjaa.X
/-
  What closes the ends of walks with a game: which blocks are told of.
-/
namespace Go.Proofs.Ytmpaiphakjogjaa.X
open Go Go.RowKit Go.Proofs.Ytmpaiphakjogjaa.Bs
set_option linter.unusedVariables false
/-- a list's elements are in another list, or in one of two. -/
theorem ZZSB {p : Prop} (h : p := by (intro x hx; (try simp only [List.cons_append, List.nil_append, List.map_cons, List.map_nil] at hx); repeat (first | (cases hx; done) | (rcases List.mem_cons.1 hx with rfl | hx; · (first | simp | (simp [*]; done)))); first | done | (simp [hx]; done) | (simp only [List.mem_append, List.mem_cons] at hx ⊢; simp [hx]; done) | (simp [*]; done)) <;> fail) : p := h
/-- the blocks of L are told of or new. -/
theorem ZZMK {p : Prop} (h : p := by (intro e he; repeat (first | (cases he; done) | (rcases List.mem_cons.1 he with rfl | he; · first | (left; simp; done) | (right; assumption) | (left; simp [*]; done) | (right; simp only; omega)))) <;> fail) : p := h
section
variable {t : CTk} {v : CTV} {b0 g gm : Nat} {ks ks' : List Nat} {rs : List RowX} {hs hs' : List Held} {w W w' : World} {L : Lo}
/-- behind more operations. -/
theorem Gam.on (hG : Gam t v b0 g gm ks' rs hs W) (S : Sys b0 W L w') (hg : (g, gamO v t gm) ∈ L) (hL : ∀ e, e ∈ L → e.1 ∈ ks' ∨ W.heap.size ≤ e.1) (hsub : ∀ x, x ∈ ks → x ∈ L.map (·.1) ++ ks') (hgk : g ∈ ks) (hh : ∀ x, x ∈ hs' → x ∈ hs) : Gam t v b0 g gm ks rs hs' w' :=
  ((hG.add S hg hL).less hsub hgk).forget hh
end
section
variable {P : Program} {N : Nat} {B : Nat} {w0 wS : World} {ds : List Deferred} {Q : Exit → Act → World → Prop} {F : Fr} {L Ls : Lo} {ops : Array Oper} {rem : List (Nat × Oper)} {e : Exit}
theorem atHeld (k : XE N B w0 ds (heldR P B wS Q Ls ops rem) e F L) : XE N B w0 ds (heldR P B wS Q Ls ops rem) e F L := k
end
section
variable {t : CTk} {v : CTV} {b0 b1 g gm : Nat} {ks ks' : List Nat} {rs : List RowX} {hs hs' new : List Held} {w w' wE w0 w1 w2 : World} {L : Lo} {B : Nat}
variable {P : Program} {N : Nat} {ds : List Deferred} {Q : Exit → Act → World → Prop} {F : Fr} {ops : Array Oper} {rest : List Oper} {ty : TypeId} {p : String} {af : Array Edge}
/-- a row grows, beside a game that came in. -/
theorem XL.pushI {α : Type} {K : Kind α} {d tt : Nat} {x y : Operand} {vv : Value} {l : List α} {a : α} {bytes gn : Nat} (i : Nat) (he : elemOk P tt K.ty K.m bytes = true) (h0 : 0 < K.m)
    (hx : evo F x = some vv) (hy : evo F y = some (.slice (some ⟨gn, 0, none⟩) 1 1)) (hd : Nat.blt d N = true) (hG : Gam t v b0 g gm ks rs hs w0) (hg : (g, gamO v t gm) ∈ L) (hi : rs[i]? = some ⟨α, K, vv, l⟩)
    (hSn : Since wE gm w0) (hown : ∀ q, vv.ownBlock = some q → wE.heap.size ≤ q) (hA : (gn, cel K.ty (K.c a)) ∈ L) (ha : K.sl a = []) (h1 : ∀ a : α, (K.c a).all Value.oneCell' = true) (h63 : l.length + 1 ≤ 10000000) (hb : bytes ≤ 10000000)
    (k : ∀ w' r', Gam t v b0 g gm (L.map (·.1) ++ ks) (rs.set i ⟨α, K, svV r', l ++ [a]⟩) hs w' → Since wE gm w' → (∀ q, (svV r').ownBlock = some q → wE.heap.size ≤ q) → XL P N b0 w' ds Q ops rest ((d, svV r') :: F) L)
    (hL : ∀ e, e ∈ L → e.1 ∈ ks ∨ w0.heap.size ≤ e.1) (hLE : ∀ e, e ∈ L → e.1 < wE.heap.size → w0.heap[e.1]? = some e.2) :
    XL P N b0 w0 ds Q ops ({ dst := some d, op := .call { callee := .builtin .append, args := #[x, y], argTypes := #[tt, tt] }, type := ty, pos := p, after := af, guard := none } :: rest) F L := by
  have hgmL : ∀ e, e ∈ L → e.1 ≠ gm := fun e he e1 => by
    rcases hL e he with h1 | h1
    · exact hG.nin (e1 ▸ h1)
    · have := hG.lt gm (.head _); omega
  have hri : (⟨α, K, vv, l⟩ : RowX) ∈ rs := List.mem_of_getElem? hi
  refine XL.append2 (v := vv) (m := 1) (n := l.length) (size := K.m) (bytes := bytes) (base := b0) (A := ⟨gn, 0, none⟩) (xs := l.flatMap K.c) (news := K.c a) (L' := L) he h0 hx hy hd (hG.fam.row _ hri) (fun q hq e he2 e1 => ?_) (by rw [K.len]; omega) (fun w S j u hj => ?_) (h1 a) (by unfold maxLen; omega)
    (Nat.le_trans (Nat.mul_le_mul h63 hb) (by decide)) hG.fam.base (List.Sublist.refl _) (fun w v' w' S ho hgr _ hfr => ?_)
  · rcases hL e he2 with h2 | h2
    · exact hG.fam.sep _ hri q hq (e1 ▸ List.mem_cons_of_mem _ h2)
    · have := (hG.fam.lt hri hq).2; omega
  · rw [add_off, Nat.zero_add, S.cell hA j]; exact hj
  · have hW := hG.add S hg hL
    have hsz := hgr.size
    have hsame : ∀ j, j < w.heap.size → vv.ownBlock ≠ some j → w'.heap[j]? = w.heap[j]? := fun j hj hv => hgr.block j hj fun e2 => hv e2.symm
    have hFF := hW.fam.push hi (fun x hx => by rw [ha] at hx; cases hx) ho hsz (fun j hj _ hv => hsame j hj hv) (fun q hq => by
      rcases hfr q hq with h2 | h2
      · exact .inl h2
      · exact .inr ⟨h2, fun hm => by have := hW.lt q hm; omega⟩)
    have hsep : ∀ q, q ∈ gm :: (L.map (·.1) ++ ks) → w'.heap[q]? = w.heap[q]? := fun q hq => hsame q (hW.lt q hq) fun e => hW.fam.sep _ hri q e hq
    have hBw : Below b0 w w' := ⟨hgr.os, hgr.tape, hgr.output, hsz, fun j hj => hsame j (Nat.lt_of_lt_of_le hj (Nat.le_trans S.base S.size)) fun e => by have := (hG.fam.lt hri e).1; omega⟩
    obtain ⟨r', rfl, _⟩ := hFF.sv (K := K) (l := l ++ [a]) (v := v') (List.mem_iff_getElem?.2 ⟨i, by rw [List.getElem?_set_self (List.getElem?_eq_some_iff.1 hi).1]⟩)
    refine k w' r' ⟨hFF, hW.nin, hW.gin, fun q hq => Nat.lt_of_lt_of_le (hW.lt q hq) hsz, hW.bg, hW.bm, (hsep g (List.mem_cons_of_mem _ hW.gin)).trans hW.game, hW.task.below hBw, ?_⟩ ?_ ?_
    rotate_left
    · have h1 : Since wE gm w := hSn.sys S fun e he => ⟨hLE e he, hgmL e he⟩
      exact ⟨hgr.os.trans h1.os, hgr.tape.trans h1.tape, hgr.output.trans h1.output, Nat.le_trans h1.size hsz, fun j hj hne => (hsame j (Nat.lt_of_lt_of_le hj h1.size) fun e => by have := hown j e; omega).trans (h1.old j hj hne)⟩
    · intro q hq
      rcases hfr q hq with h2 | h2
      · exact hown q h2
      · exact Nat.le_trans (Nat.le_trans hSn.size S.size) h2
    refine (hW.memo.keep (w' := w') fun j hj => ?_).mono fun j hj => ⟨hj.1, Nat.lt_of_lt_of_le hj.2.1 hsz, hj.2.2.1, fun r hr e => ?_⟩
    · rcases hj with hj | rfl
      · exact hsame j hj.2.1 fun e => hj.2.2.2 _ hri e
      · exact hsep _ (.head _)
    · rcases List.mem_or_eq_of_mem_set hr with h2 | h2
      · exact hj.2.2.2 r h2 e
      · subst h2
        rcases hfr j e with h3 | h3
        · exact hj.2.2.2 _ hri h3
        · have := hj.2.1; omega
/-- a row that grows no more. -/
theorem Gam.freeze {α : Type} {K : Kind α} {r : SV} {l : List α} (h : Gam t v b0 g gm ks (⟨α, K, svV r, l⟩ :: rs) hs w) : Gam t v b0 g gm ks rs (hList K r l :: hs) w :=
  ⟨h.fam.freeze, h.nin, h.gin, h.lt, h.bg, h.bm, h.game, h.task, h.memo.mono fun j hj => hj.tail⟩
theorem Gam.nil {α : Type} (K : Kind α) (h : Gam t v b0 g gm ks rs hs w) : Gam t v b0 g gm ks (⟨α, K, .slice none 0 0, []⟩ :: rs) hs w :=
  ⟨h.fam.nil K, h.nin, h.gin, h.lt, h.bg, h.bm, h.game, h.task, h.memo.mono fun j hj => ⟨hj.1, hj.2.1, hj.2.2.1, fun r hr => by
    rcases List.mem_cons.1 hr with rfl | hr
    · simp [Value.ownBlock]
    · exact hj.2.2.2 r hr⟩⟩
theorem GamR.end4 {x : Value} {R : Value → List Held → Prop} (hG : Gam t v b0 g gm ks' [] hs w0) (hS : Since w gm w0) (S : Sys b0 w0 L w') (hg : (g, gamO v t gm) ∈ L) (hR : R x new) (hnew : ∀ y, y ∈ new → y ∈ hs) (hL : ∀ e, e ∈ L → e.1 ∈ ks' ∨ w0.heap.size ≤ e.1) (hLE : ∀ e, e ∈ L → e.1 < w.heap.size → w0.heap[e.1]? = some e.2) (hsub : ∀ x, x ∈ ks → x ∈ ks') : GamR t b0 gm ks R w (.returned x) w' := by
  have h1 := hG.sys S hg hL
  have hf : ∀ j, Free w' b0 (gm :: ks') [] j → Free w' b0 (gm :: ks) [] j := fun j hj => ⟨hj.1, hj.2.1, fun h => hj.2.2.1 (by
    rcases List.mem_cons.1 h with rfl | h
    · exact .head _
    · exact List.mem_cons_of_mem _ (hsub j h)), hj.2.2.2⟩
  exact ⟨x, new, rfl, hR, Since.end2 hG hS S hL hLE, h1.memo.mono hf, fun y hy => y.mono (h1.fam.held y (hnew y hy)) hf⟩
end
end Go.Proofs.Ytmpaiphakjogjaa.X
/-
  A loop inside a round of a range over a function; panics that a caller sees.
-/
namespace Go.Proofs.Ytmpaiphakjogjaa.X
open Go Go.RowKit
set_option linter.unusedVariables false
theorem wpIn_loop_ghost {Fe : Fence} {m : Nat} {P : Program} {Q : Exit → Act → World → Prop} {a : Act} {w : World} {c : Code} (I : Nat → Act → World → Prop) (n₀ : Nat) (h₀ : I n₀ a w)
    (round : ∀ n a w, I n a w → c.wpIn Fe m P (Exit.then (fun a' w' => ∃ n', n' < n ∧ I n' a' w') Q) a w) : (Code.loop c).wpIn Fe m P Q a w := by
  refine wpIn_loop (fun a w => ∃ n, I n a w) (fun a w => leastOf (fun n => I n a w)) ⟨n₀, h₀⟩ ?_
  intro a w hI
  refine wpIn_mono (round _ a w (leastOf_spec hI).1) ?_
  intro e a' w' hq
  cases e with
  | normal =>
    obtain ⟨n', hlt, hI'⟩ := hq
    exact show (∃ n, I n a' w') ∧ leastOf (fun n => I n a' w') < leastOf (fun n => I n a w) from ⟨⟨n', hI'⟩, Nat.lt_of_le_of_lt ((leastOf_spec ⟨n', hI'⟩).2 n' hI') hlt⟩
  | exit id => exact hq
  | goto l => exact hq
  | ret => exact hq
  | panic ch => exact hq
  | outgrown => exact hq
section
variable {P : Program} {N : Nat} {B : Nat} {w0 : World} {ds : List Deferred} {Q : Exit → Act → World → Prop} {F : Fr} {L : Lo} {r : Option Nat} {n : Nat}
theorem XR'.loopk {c : Code} {σ : Type} (ts : List Nat) {G0 : Fr} (hk : keepO F ts = some G0) (G : σ → Fr) (M : σ → Lo) (W : σ → World) (pre : σ → Prop) (μ : σ → Nat) (s0 : σ)
    (h0 : pre s0) (hG : Sub (G s0) F) (hM : ∀ w, Sys B w0 L w → Sys B (W s0) (M s0) w)
    (round : ∀ s, pre s → XR' P N B (W s) ds (Exit.then (fun a w => ∃ s', pre s' ∧ μ s' < μ s ∧ Fits N ds (G s' ++ G0) a ∧ Sys B (W s') (M s') w) Q) r n c (G s ++ G0) (M s)) :
    XR' P N B w0 ds Q r n (.loop c) F L := by
  refine ⟨fun a w hf hs => ?_⟩
  refine wpIn_loop_ghost (fun n a w => ∃ s, μ s = n ∧ pre s ∧ Fits N ds (G s ++ G0) a ∧ Sys B (W s) (M s) w) (μ s0) ⟨s0, rfl, h0, (hG.append (keepO_sub ts G0 hk)).fits hf, hM w hs⟩ ?_
  rintro n a w ⟨s, rfl, hp, hf, hs⟩
  refine wpIn_mono ((round s hp).run a w hf hs) fun e a' w' q => ?_
  cases e with
  | normal =>
    obtain ⟨s', hp', hlt, hf', hs'⟩ := q
    exact ⟨μ s', hlt, s', rfl, hp', hf', hs'⟩
  | exit id => exact q
  | goto l => exact q
  | ret => exact q
  | panic ch => exact q
  | outgrown => exact q
end
end Go.Proofs.Ytmpaiphakjogjaa.X
/-
  The walk of witness (closure).
-/
namespace Go.Proofs.Ytmpaiphakjogjaa.X
open Go Go.RowKit Go.Proofs.Ytmpaiphakjogjaa.Bs
set_option linter.unusedVariables false
def iiV (w : II) : Value := .agg ⟨[.int .i64 w.1, .int .i64 w.2]⟩
noncomputable def WitX (t : CTk) (i : Int) (x : Value) (new : List Held) : Prop := x = .tuple ⟨[iiV (t.witC i), .bool (t.wit i).isSome]⟩ ∧ new = []
theorem wit_first {t : CTk} {i : Int} {k a : Nat} (hk : k < t.m) (h : ∀ j, j < k → t.fails j (t.plan i) = none) (ha : t.fails k (t.plan i) = some a) : t.wit i = some (k, a) := by
  unfold CTk.wit
  rw [firstB_some.2 ⟨hk, by simp [ha], fun j hj => by simp [h j hj]⟩]
  simp [ha]
theorem wit_no {t : CTk} {i : Int} (h : ∀ j, j < t.m → t.fails j (t.plan i) = none) : t.wit i = none := by
  unfold CTk.wit
  rw [firstB_none.2 fun j hj => by simp [h j hj]]
set_option maxHeartbeats 16000000 in
theorem witness_any {t : CTk} {v : CTV} {r : CRu} {b0 g gr gm i : Nat} {ks : List Nat} {w : World} (hG : Gam t v b0 g gm ks [] [] w) (ho : CtOk t) (hr : w.heap[gr]? = some (rulO g r)) (hgr : gr ∈ ks) (hbr : b0 ≤ gr) (hi : (i : Int) ≤ t.last) :
    Calls Try.prog 58 #[.pointer (some ⟨gr, 0, none⟩), .int .i64 (i : Nat)] w (GamR t b0 gm ks (WitX t (i : Nat)) w) := by
  have hgs := hG.gin
  have hgm : w.heap[g]? = some (gamO v t gm) := hG.game
  have hne : gr ≠ g := fun e => by
    subst e
    rw [hgm] at hr
    simp [rulO, gamO] at hr
  have S0 := Sys.start2 hbr hG.bg hr hgm hne
  have h60 := ho.n60
  have hdl := ho.dly
  have hfr := ho.frm
  have hm8 := ho.m8
  have hb0 : b0 ≤ w.heap.size := hG.fam.base
  have hst : t.strange (t.plan (i : Nat)) = false := (plan_ok ho (Int.natCast_nonneg i) hi).1
  have hl1 : -31 ≤ t.last ∧ t.last ≤ 60 := by unfold CTk.last; omega
  have hpl := fun {L : Lo} {B : Nat} {W1 : World} (w5 : World) (S5 : Sys B W1 L w5) (hm : (g, gamO v t gm) ∈ L) => plan_any (v := v) (t := t) (gm := gm) (i := (i : Nat)) (S5.own _ hm).2 ho ⟨by omega, by omega⟩
  have hfl := fun (k : Nat) (hk : k < t.m) (w5 : World) (ks2 : List Nat) (hG5 : Gam t v b0 g gm ks2 [] [] w5) => fails_any (p := t.plan (i : Nat)) hG5 ho hk hst
  have hhn := hG.task.hn
  have hrm : gr ≠ gm := fun e => hG.nin (e ▸ hgr)
  obtain ⟨vp, vf, ⟨Ah, nh, ch'⟩, vr⟩ := v
  simp only at hhn
  subst hhn
  simp only [plnV] at hfl
  simp only [rulO, rulC, gamO, gamC] at S0
  refine enterL Try.func58 rfl Try.ntmps58 rfl (S0) ?_; simp only [frame, Nat.zero_add, Nat.reduceAdd]
  repeat (first | (refine M0 ?_; first | refine SL ?_ | refine SB fun _ _ => ?_ | refine Y4 (Ev.load_loc tok 1 (g := gr) (o := 0) rfl rfl rfl rfl) ?_ | refine Y4 (Ev.load_loc tok 2 (g := g) (o := 6) rfl rfl rfl rfl) ?_) | (refine M1 ?_; refine SC ?_) | (refine M2 ?_; refine SE ?_))
  rename_i g4 hg4
  have mg : g ∈ g4 :: ks := .tail _ hgs
  have mr : gr ∈ g4 :: ks := .tail _ hgr
  have m4 : g4 ∈ g4 :: ks := .head _
  refine XC.rebase (List.Sublist.refl _) (fun W0 S0 => ?_)
  have hG0 : Gam t ⟨vp, vf, ⟨Ah, t.m, ch'⟩, vr⟩ b0 g gm (g4 :: ks) [] [] W0 := (hG.add S0 (.tail _ (.tail _ (.head _))) ZZHM).less (fun x hx => by
    rcases List.mem_cons.1 hx with rfl | hx
    · simp
    · exact List.mem_append_right _ hx) mg
  have hS0 : Since w gm W0 := Since.end2 hG Since.refl S0 ZZHM (own2 hgm hr ZZO3)
  refine XC.loopk [0, 1, 4, 16] rfl (fun z : Nat × World => [(17, .int .i64 (z.1 : Nat))]) (fun z => [(g4, cel 88 [.int .i64 0, .int .i64 0]), (gr, rulO g r), (g, gamO ⟨vp, vf, ⟨Ah, t.m, ch'⟩, vr⟩ t gm)]) (fun z => z.2)
    (fun z => z.1 ≤ t.m ∧ Gam t ⟨vp, vf, ⟨Ah, t.m, ch'⟩, vr⟩ b0 g gm (g4 :: ks) [] [] z.2 ∧ Since w gm z.2 ∧ ∀ j, j < z.1 → t.fails j (t.plan (i : Nat)) = none) (fun z => t.m - z.1) (0, W0) ⟨Nat.zero_le _, hG0, hS0, fun j hj => absurd hj (by simp)⟩ ZZSUB (fun _ h => h) ?_
  rintro ⟨k, W⟩ ⟨hk, hGW, hSW, hno⟩
  simp only at hk hGW hSW hno
  have hrW : W.heap[gr]? = some (rulO g r) := hSW.keep hr hrm
  have hgW := hGW.game
  have hzW := hSW.size
  simp only [rulO, rulC, gamO, gamC]
  dsimp only [List.cons_append, List.nil_append]
  repeat (first | (refine M0 ?_; first | refine SL ?_ | refine SB fun _ _ => ?_) | (refine M1 ?_; refine SC ?_) | (refine M2 ?_; refine SE ?_))
  refine XC.cond _ rfl (fun h1 => ?_) (fun h1 => ?_)
  rotate_left
  · have hkm : k = t.m := by have := of_decide_eq_false h1; omega
    subst hkm
    repeat (first | (refine M0 ?_; first | refine SL ?_ | refine SB fun _ _ => ?_) | (refine M1 ?_; refine SC ?_) | (refine M2 ?_; refine SE ?_))
    refine XE.retg tok Try.results58 rfl (by simp only [and_self, and_true]) (fun w' S => ?_)
    have e1 := wit_no hno
    exact GamR.end2 (kk := [g4]) hGW hSW S (.tail _ (.tail _ (.head _))) ⟨by unfold CTk.witC; rw [e1]; rfl, rfl⟩ ZZHM (own2 hgW hrW ZZO3)
  have hkm : k < t.m := by have := of_decide_eq_true h1; omega
  repeat (first | (refine M0 ?_; first | refine SL ?_ | refine SB fun _ _ => ?_) | (refine M1 ?_; refine SC ?_) | (refine M2 ?_; refine SE ?_))
  have hBW : Below b0 w W := hSW.below hG.bm hb0
  refine XC.drawRS (trunc w b0) [(gr, rulO g r)] [0, 1, 2, 3, 4, 5, 6, 7, 8, 9] [10, 11, 12] mixed (fun _ h => Sys.anchorT hBW h (fun e he => by rw [List.mem_singleton.1 he]; exact .tail _ (.head _)) (by simp) hb0) rfl (by kernel_rfl) ?_
  repeat (first | (refine M0 ?_; first | refine SL ?_ | refine SB fun _ _ => ?_ | refine Y4 (Ev.load_loc tok 0 (g := gr) (o := 0) rfl rfl rfl rfl) ?_) | (refine M2 ?_; refine SE ?_) | (refine M3 ?_; first | refine SG ?_ | refine SF ?_ | refine YF (Ev.load_loc tok 0 (g := gr) (o := 0) rfl rfl rfl rfl) ?_) | (refine M4 ?_; refine SR ?_) | (refine M5 ?_; first | exact M7 | refine YM ?_ | refine YN ?_ ?_))
  repeat (first | (refine M0 ?_; first | refine SL ?_ | refine SB fun _ _ => ?_ | refine Y4 (Ev.call (f := 50) (ck rfl) rfl (fun w5 S5 => hpl w5 S5 (.tail _ (.tail _ (.head _))))) ?_) | (refine M2 ?_; refine SE ?_) | (refine M3 ?_; first | refine SG ?_ | refine SF ?_ | refine YF (Ev.call (f := 50) (ck rfl) rfl (fun w5 S5 => hpl w5 S5 (.tail _ (.tail _ (.head _))))) ?_) | (refine M4 ?_; refine SR ?_) | (refine M5 ?_; first | exact M7 | refine YM ?_ | refine YN ?_ ?_))
  refine z7 ?_
  repeat (first | (refine M0 ?_; first | refine SL ?_ | refine SB fun _ _ => ?_) | (refine M2 ?_; refine SE ?_) | (refine M3 ?_; first | refine SG ?_ | refine SF ?_) | (refine M4 ?_; refine SR ?_) | (refine M5 ?_; first | exact M7 | refine YM ?_ | refine YN ?_ ?_))
  refine XL.callI (IntR (idxB (t.above k (t.plan (i : Nat))) t.n)) (ck rfl) rfl rfl hGW hSW (.tail _ (.tail _ (.head _))) (fun w5 ks2 _ _ hG5 => hfl k hkm w5 ks2 hG5) (fun w5 x new hR hG5 hS5 => ?_) ZZHM (own2 hgW hrW ZZO3)
  obtain ⟨rfl, rfl⟩ := hR
  have hBW5 : Below b0 w w5 := hS5.below hG.bm hb0
  repeat (first | (refine M0 ?_; first | refine SL ?_ | refine SB fun _ _ => ?_) | (refine M2 ?_; refine SE ?_) | (refine M3 ?_; first | refine SG ?_ | refine SF ?_) | (refine M4 ?_; refine SR ?_) | (refine M5 ?_; first | exact M7 | refine YM ?_ | refine YN ?_ ?_))
  refine z7 ?_
  repeat (first | (refine M0 ?_; first | refine SL ?_ | refine SB fun _ _ => ?_) | (refine M2 ?_; refine SE ?_) | (refine M3 ?_; first | refine SG ?_ | refine SF ?_) | (refine M4 ?_; refine SR ?_) | (refine M5 ?_; first | exact M7 | refine YM ?_ | refine YN ?_ ?_))
  have eI : idxB (t.above k (t.plan (i : Nat))) t.n = match t.fails k (t.plan (i : Nat)) with | none => -1 | some a => (a : Int) := by
    unfold idxB CTk.fails
    cases firstB (t.above k (t.plan (i : Nat))) t.n <;> rfl
  rw [eI]
  have hz5 := hS5.size
  have hg5 := hG5.game
  have hr5 : w5.heap[gr]? = some (rulO g r) := hS5.keep hr hrm
  cases hf : t.fails k (t.plan (i : Nat)) with
  | none =>
    simp only
    repeat (first | (refine M0 ?_; first | refine SL ?_ | refine SB fun _ _ => ?_) | (refine M1 ?_; refine SC ?_) | (refine M2 ?_; refine SE ?_))
    refine XE.roundW (s := (k, W)) (fun w9 S9 => ⟨(k + 1, w9), ⟨hkm, ?_, ?_, fun j hj => ?_⟩, by simp only; omega, ZZSUB, S9.rebase ZZSM⟩)
    · exact (hG5.sys S9 (.tail _ (.tail _ (.head _))) (fun e he => .inl (List.mem_append_left _ (List.mem_map.2 ⟨e, he, rfl⟩)))).less (fun x hx => List.mem_append_right _ hx) mg
    · exact Since.end2 hG5 hS5 S9 (fun e he => .inl (List.mem_append_left _ (List.mem_map.2 ⟨e, he, rfl⟩))) (own2 hg5 hr5 ZZO3)
    · rcases Nat.lt_or_ge j k with h2 | h2
      · exact hno j h2
      · have : j = k := by omega
        subst this
        exact hf
  | some a =>
    simp only
    have hai : a < t.n := (firstB_some.1 hf).1
    have e1 := wit_first hkm hno hf
    repeat (first | (refine M0 ?_; first | refine SL ?_ | refine SB fun _ _ => ?_ | refine Y4 (Ev.load_loc tok 1 (g := gr) (o := 0) rfl rfl rfl rfl) ?_ | refine Y4 (Ev.load_loc tok 2 (g := g) (o := 11) rfl rfl rfl rfl) ?_) | (refine M1 ?_; refine SC ?_) | (refine M2 ?_; refine SE ?_))
    refine XE.retg tok Try.results58 rfl (by simp only [and_self, and_true]) (fun w' S => ?_)
    refine GamR.end2 (kk := g4 :: gr :: g :: [g4]) hG5 hS5 S (.tail _ (.tail _ (.head _))) ⟨by unfold CTk.witC; rw [e1]; rfl, rfl⟩ (fun e he => .inl ?_) (own2 hg5 hr5 ZZO3)
    simp only [List.mem_cons, List.not_mem_nil, or_false] at he
    rcases he with rfl | rfl | rfl <;> simp
  any_goals (repeat (first | exact AnyR.nil | refine AnyR.skip rfl ?_))
end Go.Proofs.Ytmpaiphakjogjaa.X
/-
  The walk of peak's closure: whether the gates are open (closure).
-/
namespace Go.Proofs.Ytmpaiphakjogjaa.X
open Go Go.RowKit Go.Proofs.Ytmpaiphakjogjaa.Bs
set_option linter.unusedVariables false
set_option maxHeartbeats 8000000 in
theorem open_any {t : CTk} {v : CTV} {r : CRu} {g gr gm g3 g5 g9 i : Nat} {p : CPl} {w : World} (ho : CtOk t) (hp : t.strange p = false) (hg : w.heap[g]? = some (gamO v t gm)) (hr : w.heap[gr]? = some (rulO g r))
    (h3 : w.heap[g3]? = some (cel 113 [.pointer (some ⟨gr, 0, none⟩)])) (h5 : w.heap[g5]? = some (cel 36 [.int .i64 p.close, .int .i64 p.open_])) (h9 : w.heap[g9]? = some (cel 3 [.int .i64 (t.shutI p)])) :
    Calls Try.prog 97 #[.int .i64 (i : Nat), .pointer (some ⟨g5, 0, none⟩), .pointer (some ⟨g9, 0, none⟩), .pointer (some ⟨g3, 0, none⟩)] w fun e w' => e = .returned (.bool (t.isOpen p i)) ∧ Below w.heap.size w w' := by
  obtain ⟨hb1, hb2, hb3⟩ := plan_bd ho hp
  have hn60 := ho.n60
  have hfr := ho.frm
  have l3 := (Array.getElem?_eq_some_iff.1 h3).1
  have l5 := (Array.getElem?_eq_some_iff.1 h5).1
  have l9 := (Array.getElem?_eq_some_iff.1 h9).1
  have lr := (Array.getElem?_eq_some_iff.1 hr).1
  have lg := (Array.getElem?_eq_some_iff.1 hg).1
  have c3 : w.cell? ⟨g3, 0, none⟩ = some (.pointer (some ⟨gr, 0, none⟩)) := by simp [World.cell?, h3]
  have c9 : w.cell? ⟨g9, 0, none⟩ = some (.int .i64 (t.shutI p)) := by simp [World.cell?, h9]
  have c5 : ∀ (j : Nat) u, ([.int .i64 p.close, .int .i64 p.open_] : List Value)[j]? = some u → w.cell? ((⟨g5, 0, none⟩ : Addr).add j) = some u := fun j u hj => by
    rw [add_off]; simpa [World.cell?, h5] using hj
  have c51 := c5 1 _ rfl
  have cr : w.cell? ((⟨gr, 0, none⟩ : Addr).add 0) = some (.pointer (some ⟨g, 0, none⟩)) := by rw [add_off]; simp [World.cell?, hr, rulC]
  have cf : w.cell? ((⟨g, 0, none⟩ : Addr).add 11) = some (.int .i64 t.from_) := by rw [add_off]; simp [World.cell?, hg, gamC]
  obtain ⟨c, o⟩ := p
  have hop : t.isOpen ⟨c, o⟩ i = (decide (c = -1) && decide (o = -1) || (decide ((i : Int) ≤ t.shutI ⟨c, o⟩) || decide (o - t.from_ ≤ (i : Int)))) := by
    unfold CTk.isOpen; rw [nev_b]
  simp only at hb1 hb2 c5 c51
  rw [hop]
  refine enter Try.func97 rfl Try.ntmps97 rfl ?_; simp only [frame, Nat.zero_add, Nat.reduceAdd]
  repeat (any_goals (first | (refine M0 ?_; first | refine SL ?_ | refine SB fun _ _ => ?_ | (refine XL.split _ _ rfl (fun h => ?_) (fun h => ?_) <;> rw [h]) | refine Y4 (Ev.load_old_agg tok [.int .i64 c, .int .i64 o] rfl rfl rfl l5 c5) ?_ | refine Y4 (Ev.call (f := 55) (ck rfl) rfl (fun w S => nev_any w)) ?_ | refine Y4 (Ev.plnEql rfl rfl) ?_ | refine Y4 (Ev.load_old tok rfl rfl l9 c9) ?_ | refine Y4 (Ev.load_old tok rfl rfl l5 c51) ?_ | refine Y4 (Ev.load_old tok rfl rfl l3 c3) ?_ | refine Y4 (Ev.load_old tok rfl rfl lr cr) ?_ | refine Y4 (Ev.load_old tok rfl rfl lg cf) ?_) | (refine M1 ?_; first | refine SC ?_ | refine SD ?_ | refine XC.cond _ rfl (fun h => ?_) (fun h => ?_)) | (refine M2 ?_; refine SE ?_) | (refine M3 ?_; first | refine SG ?_ | refine SF ?_ | (refine Fw.split _ _ rfl (fun h => ?_) (fun h => ?_) <;> rw [h]) | refine YF (Ev.load_old_agg tok [.int .i64 c, .int .i64 o] rfl rfl rfl l5 c5) ?_ | refine YF (Ev.call (f := 55) (ck rfl) rfl (fun w S => nev_any w)) ?_ | refine YF (Ev.plnEql rfl rfl) ?_ | refine YF (Ev.load_old tok rfl rfl l9 c9) ?_ | refine YF (Ev.load_old tok rfl rfl l5 c51) ?_ | refine YF (Ev.load_old tok rfl rfl l3 c3) ?_ | refine YF (Ev.load_old tok rfl rfl lr cr) ?_ | refine YF (Ev.load_old tok rfl rfl lg cf) ?_) | (refine M4 ?_; refine SR ?_) | (refine M5 ?_; first | exact M7 | refine YM ?_ | refine YN ?_ ?_)))
  all_goals
    refine XE.retg tok Try.results97 rfl (by simp only [and_self, and_true]) (fun w' S => ?_)
    exact ⟨rfl, S.toBelow⟩
end Go.Proofs.Ytmpaiphakjogjaa.X
/-
  The walk of peak (closure).
-/
namespace Go.Proofs.Ytmpaiphakjogjaa.X
open Go Go.RowKit Go.Proofs.Ytmpaiphakjogjaa.Bs
set_option linter.unusedVariables false
noncomputable def PekX (t : CTk) (k : Nat) (p : CPl) (x : Value) (new : List Held) : Prop := x = iiV (t.peak p k) ∧ new = []
set_option maxHeartbeats 16000000 in
theorem peak_any {t : CTk} {v : CTV} {r : CRu} {b0 g gr gm k : Nat} {p : CPl} {ks : List Nat} {w : World} (hG : Gam t v b0 g gm ks [] [] w) (ho : CtOk t) (hr : w.heap[gr]? = some (rulO g r)) (hgr : gr ∈ ks) (hbr : b0 ≤ gr) (hk : k < t.m) (hp : t.strange p = false) (hall : ∀ i, i < t.n → (t.ins k p i).isSome = true) :
    Calls Try.prog 85 #[.pointer (some ⟨gr, 0, none⟩), .int .i64 (k : Nat), plnV p] w (GamR t b0 gm ks (PekX t k p) w) := by
  have hgs := hG.gin
  have hgm : w.heap[g]? = some (gamO v t gm) := hG.game
  have hne : gr ≠ g := fun e => by
    subst e
    rw [hgm] at hr
    simp [rulO, gamO] at hr
  have S0 := Sys.start2 hbr hG.bg hr hgm hne
  have h60 := ho.n60
  have hdl := ho.dly
  have hfr := ho.frm
  have hm8 := ho.m8
  obtain ⟨hb1, hb2, hb3⟩ := plan_bd ho hp
  have hb0 : b0 ≤ w.heap.size := hG.fam.base
  have hrm : gr ≠ gm := fun e => hG.nin (e ▸ hgr)
  have lgr := hG.lt gr (.tail _ hgr)
  have lg := hG.lt g (.tail _ hgs)
  have hin := fun (i : Nat) (hi : i < t.n) (w5 : World) (ks2 : List Nat) (hG5 : Gam t v b0 g gm ks2 [] [] w5) => inside_any hG5 ho hk hi hp
  have hrun := fun (s : Nat) (hs : s < t.n) (w5 : World) (ks2 : List Nat) (hG5 : Gam t v b0 g gm ks2 [] [] w5) => crun_any hG5 ho hk hs
  have hop := fun (g3 g5 g9 i : Nat) (w5 : World) => open_any (v := v) (r := r) (g := g) (gr := gr) (gm := gm) (g3 := g3) (g5 := g5) (g9 := g9) (i := i) (w := w5) ho hp
  obtain ⟨sh, hsh⟩ : ∃ sh, sh = t.shutI p := ⟨_, rfl⟩
  have hsh2 : sh = p.close - t.from_ + t.delay := hsh
  rw [← hsh] at hb3 hop
  obtain ⟨c, o⟩ := p
  simp only at hb1 hb2 hsh2 hop
  simp only [rulO, rulC, gamO, gamC] at S0
  simp only [plnV] at hin ⊢
  refine enterL Try.func85 rfl Try.ntmps85 rfl (S0) ?_; simp only [frame, Nat.zero_add, Nat.reduceAdd]
  refine XC.hint 0 1 ?_
  repeat (first | (refine M0 ?_; first | refine SL ?_ | refine SB fun _ _ => ?_) | (refine M1 ?_; refine SC ?_) | (refine M2 ?_; refine SE ?_))
  rename_i g3 hg3 g5 hg5 g6 hg6 g8 hg8
  refine XC.drawR _ [0, 1, 2, 3, 4, 5, 6, 7, 8, 9, 10, 11, 12, 13, 14, 15, 16, 17, 18] [19, 20] mixed (fun _ h => h) rfl (by kernel_rfl) ?_
  repeat (any_goals (first | (refine M0 ?_; first | refine SL ?_ | refine SB fun _ _ => ?_ | refine Y4 (Ev.load_loc tok 4 (g := gr) (o := 0) rfl rfl rfl rfl) ?_ | refine Y4 (Ev.load_loc tok 5 (g := g) (o := 11) rfl rfl rfl rfl) ?_ | refine Y4 (Ev.load_loc tok 5 (g := g) (o := 6) rfl rfl rfl rfl) ?_ | refine Y4 (Ev.load_loc tok 5 (g := g) (o := 10) rfl rfl rfl rfl) ?_) | (refine M1 ?_; refine SC ?_) | (refine M2 ?_; refine SE ?_) | (refine M3 ?_; first | refine SG ?_ | refine SF ?_ | refine YF (Ev.load_loc tok 4 (g := gr) (o := 0) rfl rfl rfl rfl) ?_ | refine YF (Ev.load_loc tok 5 (g := g) (o := 11) rfl rfl rfl rfl) ?_ | refine YF (Ev.load_loc tok 5 (g := g) (o := 6) rfl rfl rfl rfl) ?_ | refine YF (Ev.load_loc tok 5 (g := g) (o := 10) rfl rfl rfl rfl) ?_) | (refine M4 ?_; refine SRJ ?_) | (refine M5 ?_; first | exact M7 | refine YM ?_ | refine YN ?_ ?_)))
  any_goals (repeat (first | exact AnyR.nil | refine AnyR.skip rfl ?_))
  rename_i g9 hg9
  rw [← hsh2]
  refine XL.step _ (Ev.makeFunc rfl rfl) rfl ?_
  repeat (first | (refine M0 ?_; first | refine SL ?_ | refine SB fun _ _ => ?_ | refine Y4 (Ev.load_loc tok 5 (g := gr) (o := 0) rfl rfl rfl rfl) ?_ | refine Y4 (Ev.load_loc tok 6 (g := g) (o := 12) rfl rfl rfl rfl) ?_) | (refine M1 ?_; refine SC ?_) | (refine M2 ?_; refine SE ?_))
  have mg : g ∈ g9 :: g8 :: g6 :: g5 :: g3 :: ks := by simp [hgs]
  have mr : gr ∈ g9 :: g8 :: g6 :: g5 :: g3 :: ks := by simp [hgr]
  have m3 : g3 ∈ g9 :: g8 :: g6 :: g5 :: g3 :: ks := by simp
  have m5 : g5 ∈ g9 :: g8 :: g6 :: g5 :: g3 :: ks := by simp
  have m6 : g6 ∈ g9 :: g8 :: g6 :: g5 :: g3 :: ks := by simp
  have m8 : g8 ∈ g9 :: g8 :: g6 :: g5 :: g3 :: ks := by simp
  have m9 : g9 ∈ g9 :: g8 :: g6 :: g5 :: g3 :: ks := by simp
  refine XC.rebase (List.Sublist.refl _) (fun W0 S0 => ?_)
  have hG0 : Gam t v b0 g gm (g9 :: g8 :: g6 :: g5 :: g3 :: ks) [] [] W0 := (hG.add S0 (.tail _ (.tail _ (.tail _ (.tail _ (.tail _ (.tail _ (.head _))))))) ZZHM).less (fun x hx => by
    simp only [List.mem_cons] at hx
    simp only [List.map_cons, List.map_nil, List.mem_append, List.mem_cons]
    rcases hx with h | h | h | h | h | h <;> simp [h]) mg
  have hnd : g5 ≠ g3 ∧ g9 ≠ g3 ∧ g8 ≠ g3 := by
    have := S0.nd
    simp only [List.map_cons, List.map_nil, List.nodup_cons, List.mem_cons, List.not_mem_nil, or_false] at this
    omega
  have hS0 : Since w gm W0 := Since.end2 hG Since.refl S0 ZZHM (own2 hgm hr ZZO3)
  refine XC.loopk [1, 3, 5, 6, 8, 9, 10, 43] rfl (fun z : Nat × World => [(7, .int .i64 (t.pkTo k ⟨c, o⟩ z.1 : Nat)), (44, .int .i64 (z.1 : Nat))])
    (fun z => [(g9, cel 3 [.int .i64 sh]), (g8, cel 85 [.int .i64 (t.tl k ⟨c, o⟩ z.1), .int .i64 (t.th k ⟨c, o⟩ z.1)]), (g6, cel 76 [.int .i64 0, .int .i64 0]), (g5, cel 36 [.int .i64 c, .int .i64 o]), (g3, cel 113 [.pointer (some ⟨gr, 0, none⟩)]), (gr, rulO g r), (g, gamO v t gm)])
    (fun z => z.2) (fun z => z.1 ≤ t.n ∧ Gam t v b0 g gm (g9 :: g8 :: g6 :: g5 :: g3 :: ks) [] [] z.2 ∧ Since w gm z.2) (fun z => t.n - z.1) (0, W0) ⟨Nat.zero_le _, hG0, hS0⟩ ZZSUB (fun _ h => h) ?_
  rintro ⟨i, W⟩ ⟨hi, hGW, hSW⟩
  simp only at hi hGW hSW
  have hrW : W.heap[gr]? = some (rulO g r) := hSW.keep hr hrm
  have hgW := hGW.game
  have hzW := hSW.size
  simp only [rulO, rulC, gamO, gamC]
  dsimp only [List.cons_append, List.nil_append]
  repeat (first | (refine M0 ?_; first | refine SL ?_ | refine SB fun _ _ => ?_) | (refine M1 ?_; refine SC ?_) | (refine M2 ?_; refine SE ?_))
  refine XC.cond _ rfl (fun h1 => ?_) (fun h1 => ?_)
  rotate_left
  · have him : i = t.n := by have := of_decide_eq_false h1; omega
    subst him
    have e1 : t.pkLv k ⟨c, o⟩ = t.th k ⟨c, o⟩ t.n := by
      obtain ⟨j, e⟩ : ∃ j, t.n = j + 1 := ⟨t.n - 1, by have := ho.n1; omega⟩
      unfold CTk.pkLv
      rw [e]; rfl
    have hpn := pkTo_lt t k ⟨c, o⟩ t.n (by have := ho.n1; omega)
    repeat (first | (refine M0 ?_; first | refine SL ?_ | refine SB fun _ _ => ?_) | (refine M1 ?_; refine SC ?_) | (refine M2 ?_; refine SE ?_))
    have hBW : Below b0 w W := hSW.below hG.bm hb0
    refine XC.drawRS (trunc w b0) [(g8, cel 85 [.int .i64 (t.tl k ⟨c, o⟩ t.n), .int .i64 (t.th k ⟨c, o⟩ t.n)]), (g3, cel 113 [.pointer (some ⟨gr, 0, none⟩)]), (gr, rulO g r), (g, gamO v t gm)] [0, 1, 2, 3, 4, 5, 6, 7, 8, 9, 10, 11] [12] mixed
      (fun _ h => Sys.anchorT hBW h (by intro e he; repeat (first | (cases he; done) | (rcases List.mem_cons.1 he with rfl | he; · repeat (first | exact List.mem_cons_self | apply List.mem_cons_of_mem)))) (by simp; omega) hb0) rfl (by kernel_rfl) ?_
    repeat (any_goals (first | (refine M0 ?_; first | refine SL ?_ | refine SB fun _ _ => ?_ | refine Y4 (Ev.load_loc tok 2 (g := gr) (o := 0) rfl rfl rfl rfl) ?_ | refine Y4 (Ev.load_loc tok 3 (g := g) (o := 11) rfl rfl rfl rfl) ?_ | refine Y4 (Ev.load_loc tok 0 (g := g8) (o := 1) rfl rfl rfl rfl) ?_) | (refine M1 ?_; refine SC ?_) | (refine M2 ?_; first | refine SE ?_ | ((with_reducible refine atHeld ?_); refine z7 ?_)) | (refine M3 ?_; first | refine SG ?_ | refine SF ?_ | refine YF (Ev.load_loc tok 2 (g := gr) (o := 0) rfl rfl rfl rfl) ?_ | refine YF (Ev.load_loc tok 3 (g := g) (o := 11) rfl rfl rfl rfl) ?_ | refine YF (Ev.load_loc tok 0 (g := g8) (o := 1) rfl rfl rfl rfl) ?_) | (refine M4 ?_; refine SRJ ?_) | (refine M5 ?_; first | exact M7 | refine YM ?_ | refine YN ?_ ?_)))
    any_goals (repeat (first | exact AnyR.nil | refine AnyR.skip rfl ?_))
    all_goals
      refine XE.retc (i := 2) tok Try.results85 rfl rfl rfl rfl (fun w' S => ?_)
      exact GamR.end2 (kk := [g9, g8, g6, g5, g3]) hGW hSW S (by repeat (first | exact List.mem_cons_self | apply List.mem_cons_of_mem)) ⟨by unfold CTk.peak CTk.pkAt; rw [e1]; rfl, rfl⟩ ZZMK (own2 hgW hrW ZZO3)
  have hit : i < t.n := by have := of_decide_eq_true h1; omega
  obtain ⟨y, hy⟩ := Option.isSome_iff_exists.1 (hall i hit)
  have hiy := fun (w5 : World) (ks2 : List Nat) (hG5 : Gam t v b0 g gm ks2 [] [] w5) => (hin i hit w5 ks2 hG5).mono (R' := GamR t b0 gm ks2 (fun x new => x = .tuple ⟨[.agg ⟨[.int .i64 (t.lo y), .int .i64 (t.hi y)]⟩, .bool true]⟩ ∧ new = []) w5) fun e w' ⟨x, new, e1, e2, e3⟩ => ⟨x, new, e1, ⟨by rw [e2.1, hy]; rfl, e2.2⟩, e3⟩
  have hBW : Below b0 w W := hSW.below hG.bm hb0
  repeat (first | (refine M0 ?_; first | refine SL ?_ | refine SB fun _ _ => ?_) | (refine M1 ?_; refine SC ?_) | (refine M2 ?_; refine SE ?_))
  refine XC.cutn [1, 3, 5, 6, 7, 8, 9, 10, 11, 43, 44] rfl (fun z : World × Nat => [(12, .pointer (some ⟨z.2, 0, none⟩))]) (fun z => [(z.2, cel 85 [.int .i64 (t.lo y), .int .i64 (t.hi y)]), (g9, cel 3 [.int .i64 sh]), (g8, cel 85 [.int .i64 (t.tl k ⟨c, o⟩ i), .int .i64 (t.th k ⟨c, o⟩ i)]), (g6, cel 76 [.int .i64 0, .int .i64 0]), (g5, cel 36 [.int .i64 c, .int .i64 o]), (g3, cel 113 [.pointer (some ⟨gr, 0, none⟩)]), (gr, rulO g r), (g, gamO v t gm)])
    (fun z => z.1) (fun z => Gam t v b0 g gm (z.2 :: g9 :: g8 :: g6 :: g5 :: g3 :: ks) [] [] z.1 ∧ Since w gm z.1 ∧ w.heap.size ≤ z.2) ?_ ?_
  · refine XC.drawRS (trunc w b0) [(g5, cel 36 [.int .i64 c, .int .i64 o]), (g3, cel 113 [.pointer (some ⟨gr, 0, none⟩)]), (gr, rulO g r), (g, gamO v t gm)] [0, 1, 2, 3, 4, 5, 6] [7, 8, 9, 10, 11, 12, 13] mixed
      (fun _ h => Sys.anchorT hBW h (by intro e he; repeat (first | (cases he; done) | (rcases List.mem_cons.1 he with rfl | he; · repeat (first | exact List.mem_cons_self | apply List.mem_cons_of_mem)))) (by simp; omega) hb0) rfl (by kernel_rfl) ?_
    repeat (any_goals (first | (refine M0 ?_; first | refine SL ?_ | refine SB fun _ _ => ?_ | refine Y4 (Ev.load_loc tok 2 (g := gr) (o := 0) rfl rfl rfl rfl) ?_ | (refine XL.at_call 72 ?_; refine XL.callI (fun x new => x = .tuple ⟨[.agg ⟨[.int .i64 (t.lo y), .int .i64 (t.hi y)]⟩, .bool true]⟩ ∧ new = []) (ck rfl) rfl rfl hGW hSW (by repeat (first | exact List.mem_cons_self | apply List.mem_cons_of_mem)) (fun w5 ks2 _ _ hG5 => hiy w5 ks2 hG5) (fun w5 x new hR hG5 hS5 => ?_) ZZMK (own2 hgW hrW ZZO3); obtain ⟨rfl, rfl⟩ := hR; have hBW5 : Below b0 w w5 := hS5.below hG.bm hb0; have hz5 := hS5.size)) | (refine M1 ?_; refine SC ?_) | (refine M2 ?_; first | refine SE ?_ | ((with_reducible refine atHeld ?_); refine z7 ?_)) | (refine M3 ?_; first | refine SG ?_ | refine SF ?_ | refine YF (Ev.load_loc tok 2 (g := gr) (o := 0) rfl rfl rfl rfl) ?_) | (refine M4 ?_; refine SRJ ?_) | (refine M5 ?_; first | exact M7 | refine YM ?_ | refine YN ?_ ?_)))
    all_goals
      refine XE.leafW (fun w9 S9 => ?_)
      apply Exists.intro (w9, _)
      refine ⟨?pre, ?sub, ?sys⟩
      case sub => repeat (first | exact Sub.nil | refine Sub.cons rfl ?_)
      case sys => exact S9.rebase (List.Sublist.refl _)
      case pre => exact ⟨hG5.on S9 (by repeat (first | exact List.mem_cons_self | apply List.mem_cons_of_mem)) ZZMK ZZSB (by simp [hgs]) (fun x hx => hx), Since.end2 hG5 hS5 S9 ZZMK (own2 hG5.game (hS5.keep hr hrm) ZZO3), by simp only; omega⟩
  rintro ⟨W2, g12⟩ ⟨hG2, hS2, hg12⟩
  simp only at hG2 hS2 hg12
  dsimp only [List.cons_append, List.nil_append]
  have hg2 := hG2.game
  have hr2 : W2.heap[gr]? = some (rulO g r) := hS2.keep hr hrm
  have hB2 : Below b0 w W2 := hS2.below hG.bm hb0
  have hz2 := hS2.size
  obtain ⟨m, hm⟩ : ∃ m, m = t.pkTo k ⟨c, o⟩ i := ⟨_, rfl⟩
  obtain ⟨tl, htl⟩ : ∃ x, x = t.tl k ⟨c, o⟩ i := ⟨_, rfl⟩
  obtain ⟨th, hth⟩ : ∃ x, x = t.th k ⟨c, o⟩ i := ⟨_, rfl⟩
  rw [← hm, ← htl, ← hth]
  have hmn : m < t.n := by
    rcases Nat.eq_zero_or_pos i with h | h
    · subst h; rw [hm]; exact hit
    · have := pkTo_lt t k ⟨c, o⟩ i h; omega
  obtain ⟨z, hz⟩ := Option.isSome_iff_exists.1 (hall m hmn)
  obtain ⟨G, hGd⟩ : ∃ G, G = (decide (th < t.hi y) || (decide (t.hi y = th) && decide (tl < t.lo y))) := ⟨_, rfl⟩
  have hpz : 0 < i → th = t.hi z ∧ tl = t.lo z := fun h0 => by
    obtain ⟨j, e⟩ : ∃ j, i = j + 1 := ⟨i - 1, by omega⟩
    have e1 : t.th k ⟨c, o⟩ i = t.hi (lvD (t.ins k ⟨c, o⟩ (t.pkTo k ⟨c, o⟩ i))) := by rw [e]; rfl
    have e2 : t.tl k ⟨c, o⟩ i = t.lo (lvD (t.ins k ⟨c, o⟩ (t.pkTo k ⟨c, o⟩ i))) := by rw [e]; rfl
    rw [hth, htl, e1, e2, ← hm, hz]
    exact ⟨rfl, rfl⟩
  have hgG : 0 < i → ¬(y.shut = true ∧ z.shut = true) → G = t.gt y (lvD (t.ins k ⟨c, o⟩ m)) := fun h0 hn => by
    obtain ⟨e1, e2⟩ := hpz h0
    rw [hz, show lvD (some z) = z from rfl, gt_span (lo_hi_in ho hk hp hit hy) (lo_hi_in ho hk hp hmn hz) hn, hGd, e1, e2]
  refine XC.hint 12 7 ?_
  refine XC.seq ?_
  refine XC.cutn [1, 3, 5, 6, 7, 8, 9, 10, 11, 12, 43, 44] rfl (fun _ : Unit => [(14, .bool G)]) (fun _ => [(g12, cel 85 [.int .i64 (t.lo y), .int .i64 (t.hi y)]), (g9, cel 3 [.int .i64 sh]), (g8, cel 85 [.int .i64 tl, .int .i64 th]), (g6, cel 76 [.int .i64 0, .int .i64 0]), (g5, cel 36 [.int .i64 c, .int .i64 o]), (g3, cel 113 [.pointer (some ⟨gr, 0, none⟩)]), (gr, rulO g r), (g, gamO v t gm)])
    (fun _ => W2) (fun _ => True) ?_ (fun _ _ => ?_)
  · repeat (any_goals (first | (refine M0 ?_; first | refine SL ?_ | refine SB fun _ _ => ?_ | (refine XL.split _ _ rfl (fun h => ?_) (fun h => ?_) <;> rw [h])) | (refine M1 ?_; first | refine SC ?_ | refine SD ?_ | refine XC.cond _ rfl (fun h => ?_) (fun h => ?_)) | (refine M2 ?_; refine SE ?_) | (refine M3 ?_; first | refine SG ?_ | refine SF ?_ | (refine Fw.split _ _ rfl (fun h => ?_) (fun h => ?_) <;> rw [h])) | (refine M4 ?_; refine SRJ ?_) | (refine M5 ?_; first | exact M7 | refine YM ?_ | refine YN ?_ ?_)))
    all_goals
      refine XE.leaf () (Sub.cons ?_ (by repeat (first | exact Sub.nil | refine Sub.cons rfl ?_))) (fun _ h => h) trivial
      show some _ = some (Value.bool G)
      rw [hGd]
      clear hm htl hth
      simp [*]
  dsimp only [List.cons_append, List.nil_append]
  refine XC.seq ?_
  refine XC.cutn [1, 3, 5, 6, 7, 8, 9, 10, 11, 12, 43, 44] rfl (fun z : World × Bool => [(14, .bool z.2)]) (fun _ => [(g12, cel 85 [.int .i64 (t.lo y), .int .i64 (t.hi y)]), (g9, cel 3 [.int .i64 sh]), (g8, cel 85 [.int .i64 tl, .int .i64 th]), (g6, cel 76 [.int .i64 0, .int .i64 0]), (g5, cel 36 [.int .i64 c, .int .i64 o]), (g3, cel 113 [.pointer (some ⟨gr, 0, none⟩)]), (gr, rulO g r), (g, gamO v t gm)])
    (fun z => z.1) (fun z => Gam t v b0 g gm (g12 :: g9 :: g8 :: g6 :: g5 :: g3 :: ks) [] [] z.1 ∧ Since w gm z.1 ∧ (0 < i → z.2 = t.gt y (lvD (t.ins k ⟨c, o⟩ m)))) ?_ ?_
  · refine SC ?_
    refine SC ?_
    repeat (first | (refine M0 ?_; first | refine SL ?_ | refine SB fun _ _ => ?_) | (refine M2 ?_; refine SE ?_) | (refine M3 ?_; first | refine SG ?_ | refine SF ?_) | (refine M4 ?_; refine SRJ ?_) | (refine M5 ?_; first | exact M7 | refine YM ?_ | refine YN ?_ ?_))
    (first | refine XL.split _ _ rfl (fun h => ?_) (fun h => ?_) | refine Fw.split _ _ rfl (fun h => ?_) (fun h => ?_)) <;> rw [h]
    rotate_left
    · repeat (first | (refine M0 ?_; first | refine SL ?_ | refine SB fun _ _ => ?_) | (refine M1 ?_; refine SC ?_) | (refine M2 ?_; refine SE ?_))
      exact XE.leaf (W2, G) ZZSUB (fun _ h => h) ⟨hG2, hS2, fun h2 => absurd h2 (by have := of_decide_eq_false h; omega)⟩
    have h0i : 0 < i := by have := of_decide_eq_true h; omega
    repeat (first | (refine M0 ?_; first | refine SL ?_ | refine SB fun _ _ => ?_) | (refine M2 ?_; refine SE ?_) | (refine M3 ?_; first | refine SG ?_ | refine SF ?_) | (refine M4 ?_; refine SRJ ?_) | (refine M5 ?_; first | exact M7 | refine YM ?_ | refine YN ?_ ?_))
    refine XL.step _ (Ev.callv (f := 97) (fst := []) (cap := [.pointer (some ⟨g5, 0, none⟩), .pointer (some ⟨g9, 0, none⟩), .pointer (some ⟨g3, 0, none⟩)]) (vs := [.int .i64 (i : Nat)]) (ck rfl) rfl rfl (fun w5 S5 => hop g3 g5 g9 i w5 (S5.own (g, gamO v t gm) (by repeat (first | exact List.mem_cons_self | apply List.mem_cons_of_mem))).2 (S5.own (gr, rulO g r) (by repeat (first | exact List.mem_cons_self | apply List.mem_cons_of_mem))).2 (S5.own (g3, _) (by repeat (first | exact List.mem_cons_self | apply List.mem_cons_of_mem))).2 (S5.own (g5, _) (by repeat (first | exact List.mem_cons_self | apply List.mem_cons_of_mem))).2 (S5.own (g9, _) (by repeat (first | exact List.mem_cons_self | apply List.mem_cons_of_mem))).2)) rfl ?_
    repeat (first | (refine M0 ?_; first | refine SL ?_ | refine SB fun _ _ => ?_) | (refine M2 ?_; refine SE ?_) | (refine M3 ?_; first | refine SG ?_ | refine SF ?_) | (refine M4 ?_; refine SRJ ?_) | (refine M5 ?_; first | exact M7 | refine YM ?_ | refine YN ?_ ?_))
    cases hoi : t.isOpen ⟨c, o⟩ i with
    | true =>
      repeat (first | (refine M0 ?_; first | refine SL ?_ | refine SB fun _ _ => ?_) | (refine M1 ?_; refine SC ?_) | (refine M2 ?_; refine SE ?_))
      exact XE.leaf (W2, G) ZZSUB (fun _ h => h) ⟨hG2, hS2, fun h0 => hgG h0 (fun h2 => by rw [ins_shut hy, hoi] at h2; exact absurd h2.1 (by simp))⟩
    | false =>
      repeat (first | (refine M0 ?_; first | refine SL ?_ | refine SB fun _ _ => ?_) | (refine M2 ?_; refine SE ?_) | (refine M3 ?_; first | refine SG ?_ | refine SF ?_) | (refine M4 ?_; refine SRJ ?_) | (refine M5 ?_; first | exact M7 | refine YM ?_ | refine YN ?_ ?_))
      refine XL.step _ (Ev.callv (f := 97) (fst := []) (cap := [.pointer (some ⟨g5, 0, none⟩), .pointer (some ⟨g9, 0, none⟩), .pointer (some ⟨g3, 0, none⟩)]) (vs := [.int .i64 (m : Nat)]) (ck rfl) rfl rfl (fun w5 S5 => hop g3 g5 g9 m w5 (S5.own (g, gamO v t gm) (by repeat (first | exact List.mem_cons_self | apply List.mem_cons_of_mem))).2 (S5.own (gr, rulO g r) (by repeat (first | exact List.mem_cons_self | apply List.mem_cons_of_mem))).2 (S5.own (g3, _) (by repeat (first | exact List.mem_cons_self | apply List.mem_cons_of_mem))).2 (S5.own (g5, _) (by repeat (first | exact List.mem_cons_self | apply List.mem_cons_of_mem))).2 (S5.own (g9, _) (by repeat (first | exact List.mem_cons_self | apply List.mem_cons_of_mem))).2)) rfl ?_
      repeat (first | (refine M0 ?_; first | refine SL ?_ | refine SB fun _ _ => ?_) | (refine M2 ?_; refine SE ?_) | (refine M3 ?_; first | refine SG ?_ | refine SF ?_) | (refine M4 ?_; refine SRJ ?_) | (refine M5 ?_; first | exact M7 | refine YM ?_ | refine YN ?_ ?_))
      cases hom : t.isOpen ⟨c, o⟩ m with
      | true =>
        repeat (first | (refine M0 ?_; first | refine SL ?_ | refine SB fun _ _ => ?_) | (refine M1 ?_; refine SC ?_) | (refine M2 ?_; refine SE ?_))
        exact XE.leaf (W2, G) ZZSUB (fun _ h => h) ⟨hG2, hS2, fun h0 => hgG h0 (fun h2 => by rw [ins_shut hz, hom] at h2; exact absurd h2.2 (by simp))⟩
      | false =>
        repeat (first | (refine M0 ?_; first | refine SL ?_ | refine SB fun _ _ => ?_) | (refine M1 ?_; refine SC ?_) | (refine M2 ?_; refine SE ?_))
        obtain ⟨s, hs, hsi⟩ := open_f ho hp hoi
        obtain ⟨s', hs', hsm⟩ := open_f ho hp hom
        have e0 : s' = s := by omega
        subst e0
        have hsN : sh = (s' : Int) := hsh.trans hs
        subst hsN
        obtain ⟨v1, v2, _⟩ := ins_vol ho hp hit hy hoi hs
        obtain ⟨v3, v4, _⟩ := ins_vol ho hp hmn hz hom hs
        refine XC.drawRS (trunc w b0) [(g9, cel 3 [.int .i64 (s' : Nat)]), (g3, cel 113 [.pointer (some ⟨gr, 0, none⟩)]), (gr, rulO g r), (g, gamO v t gm)] [0, 1, 2, 3, 4, 5, 6] [7, 8] mixed
          (fun _ h => Sys.anchorT hB2 h (by intro e he; repeat (first | (cases he; done) | (rcases List.mem_cons.1 he with rfl | he; · repeat (first | exact List.mem_cons_self | apply List.mem_cons_of_mem)))) (by simp; omega) hb0) rfl (by kernel_rfl) ?_
        repeat (any_goals (first | (refine M0 ?_; first | refine SL ?_ | refine SB fun _ _ => ?_ | refine Y4 (Ev.load_loc tok 2 (g := gr) (o := 0) rfl rfl rfl rfl) ?_ | (refine XL.at_call 93 ?_; refine XL.callI (RunR5 t k s') (ck rfl) rfl rfl hG2 hS2 (by repeat (first | exact List.mem_cons_self | apply List.mem_cons_of_mem)) (fun w5 ks2 _ _ hG5 => hrun s' (by omega) w5 ks2 hG5) (fun w5 x new hR hG5 hS5 => ?_) ZZMK (own2 hg2 hr2 ZZO3); obtain ⟨q, rfl, rfl⟩ := hR; have hBW5 : Below b0 w w5 := hS5.below hG.bm hb0; have hz5 := hS5.size)) | (refine M1 ?_; refine SC ?_) | (refine M2 ?_; first | refine SE ?_ | ((with_reducible refine atHeld ?_); refine z7 ?_)) | (refine M3 ?_; first | refine SG ?_ | refine SF ?_ | refine YF (Ev.load_loc tok 2 (g := gr) (o := 0) rfl rfl rfl rfl) ?_) | (refine M4 ?_; refine SRJ ?_) | (refine M5 ?_; first | exact M7 | refine YM ?_ | refine YN ?_ ?_)))
        any_goals (repeat (first | exact AnyR.nil | refine AnyR.skip rfl ?_))
        all_goals
          have hv : IntsAt w5 (Free w5 b0 _ []) q (t.vols k s' (t.n - s')) := hG5.fam.held (hInts q (t.vols k s' (t.n - s'))) (.head _)
          have hvl := hv.len
          obtain ⟨qA, qn, qc⟩ := q
          simp only at hvl
          subst hvl
          have l1 := (List.getElem?_eq_some_iff.1 v2).1
          have l2 := (List.getElem?_eq_some_iff.1 v4).1
          obtain ⟨ad, rfl, hfr, hcl⟩ := hv.at_ (by omega)
          have c1 := hcl (i - s') l1
          have c2 := hcl (m - s') l2
          have a1 : at0 (t.vols k s' (t.n - s')) (i - s') = y.n := by unfold at0; rw [v2]; rfl
          have a2 : at0 (t.vols k s' (t.n - s')) (m - s') = z.n := by unfold at0; rw [v4]; rfl
          rw [a1, show i - s' = ((i : Int) - (s' : Int)).toNat from by omega] at c1
          rw [a2, show m - s' = ((m : Int) - (s' : Int)).toNat from by omega] at c2
          have hlen := @vols_le t k s' (t.n - s')
          have hfar : ∀ j, ∀ e, e ∈ [(g12, cel 85 [.int .i64 (t.lo y), .int .i64 (t.hi y)]), (g9, cel 3 [.int .i64 (s' : Nat)]), (g8, cel 85 [.int .i64 tl, .int .i64 th]), (g6, cel 76 [.int .i64 0, .int .i64 0]), (g5, cel 36 [.int .i64 c, .int .i64 o]), (g3, cel 113 [.pointer (some ⟨gr, 0, none⟩)]), (gr, rulO g r), (g, gamO v t gm)] → e.1 ≠ (ad.add j).block := fun j => hfr.far (fun e he => .inl (.tail _ (List.mem_append_left _ (List.mem_map.2 ⟨e, he, rfl⟩))))
          have hlt5 : ∀ j, (ad.add j).block < w5.heap.size := fun j => by rw [add_block]; exact hfr.2.1
          simp only [svV]
          repeat (first | (refine M0 ?_; first | refine SL ?_ | refine SB fun _ _ => ?_ | refine Y4 (Ev.load_far tok rfl rfl (hlt5 _) (hfar _) c1) ?_ | refine Y4 (Ev.load_far tok rfl rfl (hlt5 _) (hfar _) c2) ?_) | (refine M1 ?_; first | refine SC ?_ | refine SD ?_) | (refine M2 ?_; refine SE ?_) | (refine M3 ?_; first | refine SG ?_ | refine SF ?_ | refine YF (Ev.load_far tok rfl rfl (hlt5 _) (hfar _) c1) ?_ | refine YF (Ev.load_far tok rfl rfl (hlt5 _) (hfar _) c2) ?_) | (refine M4 ?_; refine SRJ ?_) | (refine M5 ?_; first | exact M7 | refine YM ?_ | refine YN ?_ ?_))
          refine XE.leafW (fun w9 S9 => ⟨(w9, decide (z.n < y.n)), ⟨hG5.on S9 (by repeat (first | exact List.mem_cons_self | apply List.mem_cons_of_mem)) ZZMK ZZSB (by simp [hgs]) (fun x hx => by cases hx), Since.end2 hG5 hS5 S9 ZZMK (own2 hG5.game (hS5.keep hr hrm) ZZO3), fun _ => ?_⟩, ZZSUB, S9.rebase (List.Sublist.refl _)⟩)
          rw [hz]
          unfold CTk.gt
          rw [show (lvD (some z)) = z from rfl, v1, v3, if_pos rfl]
  rintro ⟨W3, b⟩ ⟨hG3, hS3, hb⟩
  simp only at hG3 hS3 hb
  have hz3 := hS3.size
  rw [hm] at hb
  have hpk := pk_step (b := b) hy hb
  have hg3 := hG3.game
  have hr3 : W3.heap[gr]? = some (rulO g r) := hS3.keep hr hrm
  clear hgG hpz hG2 hS2 hz2 hBW hGW hSW hg2 hr2
  dsimp only [List.cons_append, List.nil_append]
  repeat (first | (refine M0 ?_; first | refine SL ?_ | refine SB fun _ _ => ?_) | (refine M1 ?_; refine SC ?_) | (refine M2 ?_; refine SE ?_))
  by_cases h0 : i = 0
  · rw [show decide ((i : Int) = 0) = true from decide_eq_true (by omega)]
    repeat (first | (refine M0 ?_; first | refine SL ?_ | refine SB fun _ _ => ?_) | (refine M1 ?_; refine SC ?_) | (refine M2 ?_; refine SE ?_))
    obtain ⟨p1, p2, p3⟩ := hpk.1 (by rw [decide_eq_true h0]; rfl)
    refine XC.drawRS (trunc w b0) [(g12, cel 85 [.int .i64 (t.lo y), .int .i64 (t.hi y)])] [0, 1] [2, 3] mixed (fun _ h => Sys.anchorT (hS3.below hG.bm hb0) h (fun e he => by rw [List.mem_singleton.1 he]; exact .head _) (by simp) hb0) rfl (by kernel_rfl) ?_
    have hB3 : Below b0 w W3 := hS3.below hG.bm hb0
    repeat (any_goals (first | (refine M0 ?_; first | refine SL ?_ | refine SB fun _ _ => ?_ | refine Y4 (Ev.load_loc_agg tok 0 (g := g12) (o := 0) rfl rfl rfl rfl) ?_) | (refine M1 ?_; refine SC ?_) | (refine M2 ?_; first | refine SE ?_ | ((with_reducible refine atHeld ?_); refine z7 ?_)) | (refine M3 ?_; first | refine SG ?_ | refine SF ?_ | refine YF (Ev.load_loc_agg tok 0 (g := g12) (o := 0) rfl rfl rfl rfl) ?_) | (refine M4 ?_; refine SRJ ?_) | (refine M5 ?_; first | exact M7 | refine YM ?_ | refine YN ?_ ?_)))
    any_goals (repeat (first | exact AnyR.nil | refine AnyR.skip rfl ?_))
    refine XE.roundW (s := (i, W)) (fun w9 S9 => ⟨(i + 1, w9), ⟨hit, ?_, ?_⟩, by simp only; omega, Sub.cons (by simp only [p1]; rfl) ZZSUB, by simp only [p2, p3]; exact S9.rebase ZZSM⟩)
    · exact hG3.on S9 (by repeat (first | exact List.mem_cons_self | apply List.mem_cons_of_mem)) ZZMK ZZSB (by simp [hgs]) (fun x hx => hx)
    · exact Since.end2 hG3 hS3 S9 ZZMK (own2 hg3 hr3 ZZO3)
  rw [show decide ((i : Int) = 0) = false from decide_eq_false (by omega)]
  repeat (first | (refine M0 ?_; first | refine SL ?_ | refine SB fun _ _ => ?_) | (refine M1 ?_; refine SC ?_) | (refine M2 ?_; refine SE ?_))
  refine XC.cond _ rfl (fun hbb => ?_) (fun hbb => ?_)
  · obtain ⟨p1, p2, p3⟩ := hpk.1 (by rw [hbb, Bool.or_true])
    repeat (first | (refine M0 ?_; first | refine SL ?_ | refine SB fun _ _ => ?_) | (refine M1 ?_; refine SC ?_) | (refine M2 ?_; refine SE ?_))
    refine XC.drawRS (trunc w b0) [(g12, cel 85 [.int .i64 (t.lo y), .int .i64 (t.hi y)])] [0, 1] [2, 3] mixed (fun _ h => Sys.anchorT (hS3.below hG.bm hb0) h (fun e he => by rw [List.mem_singleton.1 he]; exact .head _) (by simp) hb0) rfl (by kernel_rfl) ?_
    have hB3 : Below b0 w W3 := hS3.below hG.bm hb0
    repeat (any_goals (first | (refine M0 ?_; first | refine SL ?_ | refine SB fun _ _ => ?_ | refine Y4 (Ev.load_loc_agg tok 0 (g := g12) (o := 0) rfl rfl rfl rfl) ?_) | (refine M1 ?_; refine SC ?_) | (refine M2 ?_; first | refine SE ?_ | ((with_reducible refine atHeld ?_); refine z7 ?_)) | (refine M3 ?_; first | refine SG ?_ | refine SF ?_ | refine YF (Ev.load_loc_agg tok 0 (g := g12) (o := 0) rfl rfl rfl rfl) ?_) | (refine M4 ?_; refine SRJ ?_) | (refine M5 ?_; first | exact M7 | refine YM ?_ | refine YN ?_ ?_)))
    any_goals (repeat (first | exact AnyR.nil | refine AnyR.skip rfl ?_))
    refine XE.roundW (s := (i, W)) (fun w9 S9 => ⟨(i + 1, w9), ⟨hit, ?_, ?_⟩, by simp only; omega, Sub.cons (by simp only [p1]; rfl) ZZSUB, by simp only [p2, p3]; exact S9.rebase ZZSM⟩)
    · exact hG3.on S9 (by repeat (first | exact List.mem_cons_self | apply List.mem_cons_of_mem)) ZZMK ZZSB (by simp [hgs]) (fun x hx => hx)
    · exact Since.end2 hG3 hS3 S9 ZZMK (own2 hg3 hr3 ZZO3)
  · obtain ⟨p1, p2, p3⟩ := hpk.2 (by rw [hbb, decide_eq_false h0]; rfl)
    repeat (first | (refine M0 ?_; first | refine SL ?_ | refine SB fun _ _ => ?_) | (refine M1 ?_; refine SC ?_) | (refine M2 ?_; refine SE ?_))
    refine XE.roundW (s := (i, W)) (fun w9 S9 => ⟨(i + 1, w9), ⟨hit, ?_, ?_⟩, by simp only; omega, Sub.cons (by simp only [p1, ← hm]; rfl) ZZSUB, by simp only [p2, p3, ← htl, ← hth]; exact S9.rebase ZZSM⟩)
    · exact hG3.on S9 (by repeat (first | exact List.mem_cons_self | apply List.mem_cons_of_mem)) ZZMK ZZSB (by simp [hgs]) (fun x hx => hx)
    · exact Since.end2 hG3 hS3 S9 ZZMK (own2 hg3 hr3 ZZO3)
end Go.Proofs.Ytmpaiphakjogjaa.X
/-
  The walk of peaks (closure).
-/
namespace Go.Proofs.Ytmpaiphakjogjaa.Bs
open Go Go.Proofs.Ytmpaiphakjogjaa.X
theorem peaks_succ (t : CTk) (p : CPl) (k : Nat) : (List.range (k + 1)).map (t.peak p) = (List.range k).map (t.peak p) ++ [t.peak p k] := by rw [List.range_succ, List.map_append]; rfl
end Go.Proofs.Ytmpaiphakjogjaa.Bs
namespace Go.Proofs.Ytmpaiphakjogjaa.X
open Go Go.RowKit Go.Proofs.Ytmpaiphakjogjaa.Bs
set_option linter.unusedVariables false
def pekK5 : Kind II := ⟨76, 2, fun x => [.int .i64 x.1, .int .i64 x.2], fun _ => [], fun _ => rfl⟩
theorem pek5_el : elemOk Try.prog 46 pekK5.ty pekK5.m 16 = true := by kernel_rfl
def PksX (t : CTk) (p : CPl) (x : Value) (new : List Held) : Prop := ∃ q : SV, x = svV q ∧ new = [hList pekK5 q (t.peaks p)]
set_option maxHeartbeats 16000000 in
theorem peaks_any {t : CTk} {v : CTV} {r : CRu} {b0 g gr gm : Nat} {p : CPl} {ks : List Nat} {w : World} (hG : Gam t v b0 g gm ks [] [] w) (ho : CtOk t) (hr : w.heap[gr]? = some (rulO g r)) (hgr : gr ∈ ks) (hbr : b0 ≤ gr) (hp : t.strange p = false) (hall : ∀ k i, k < t.m → i < t.n → (t.ins k p i).isSome = true) :
    Calls Try.prog 56 #[.pointer (some ⟨gr, 0, none⟩), plnV p] w (GamR t b0 gm ks (PksX t p) w) := by
  have hgs := hG.gin
  have hgm : w.heap[g]? = some (gamO v t gm) := hG.game
  have hne : gr ≠ g := fun e => by
    subst e
    rw [hgm] at hr
    simp [rulO, gamO] at hr
  have S0 := Sys.start2 hbr hG.bg hr hgm hne
  have hm8 := ho.m8
  have hb0 : b0 ≤ w.heap.size := hG.fam.base
  have hrm : gr ≠ gm := fun e => hG.nin (e ▸ hgr)
  have lgr := hG.lt gr (.tail _ hgr)
  have lg := hG.lt g (.tail _ hgs)
  have hhn := hG.task.hn
  have hpk := fun (k : Nat) (hk : k < t.m) (w5 : World) (ks2 : List Nat) (hG5 : Gam t v b0 g gm ks2 [] [] w5) (hr5 : w5.heap[gr]? = some (rulO g r)) (h5 : gr ∈ ks2) => peak_any hG5 ho hr5 h5 hbr hk hp (hall k · hk)
  obtain ⟨vp, vf, ⟨Ah, nh, ch'⟩, vr⟩ := v
  simp only at hhn
  subst hhn
  simp only [rulO, rulC, gamO, gamC] at S0
  simp only [plnV] at hpk ⊢
  refine enterL Try.func56 rfl Try.ntmps56 rfl (S0) ?_; simp only [frame, Nat.zero_add, Nat.reduceAdd]
  repeat (first | (refine M0 ?_; first | refine SL ?_ | refine SB fun _ _ => ?_ | refine Y4 (Ev.load_loc tok 1 (g := gr) (o := 0) rfl rfl rfl rfl) ?_ | refine Y4 (Ev.load_loc tok 2 (g := g) (o := 6) rfl rfl rfl rfl) ?_) | (refine M1 ?_; refine SC ?_) | (refine M2 ?_; refine SE ?_))
  rename_i g3 hg3
  have mg : g ∈ g3 :: ks := by simp [hgs]
  have mr : gr ∈ g3 :: ks := by simp [hgr]
  refine XC.rebase (List.Sublist.refl _) (fun W0 S0 => ?_)
  have hG0 : Gam t ⟨vp, vf, ⟨Ah, t.m, ch'⟩, vr⟩ b0 g gm (g3 :: ks) [⟨II, pekK5, .slice none 0 0, []⟩] [] W0 := (hG.on S0 (by repeat (first | exact List.mem_cons_self | apply List.mem_cons_of_mem)) ZZMK ZZSB mg (fun x hx => hx)).nil pekK5
  have hS0 : Since w gm W0 := Since.end2 hG Since.refl S0 ZZMK (own2 hgm hr ZZO3)
  refine XC.loopk [0, 3, 14] rfl (fun z : Nat × World × SV => [(4, svV z.2.2), (15, .int .i64 (z.1 : Nat))])
    (fun z => [(g3, cel 36 [.int .i64 p.close, .int .i64 p.open_]), (gr, rulO g r), (g, gamO ⟨vp, vf, ⟨Ah, t.m, ch'⟩, vr⟩ t gm)])
    (fun z => z.2.1) (fun z => z.1 ≤ t.m ∧ Gam t ⟨vp, vf, ⟨Ah, t.m, ch'⟩, vr⟩ b0 g gm (g3 :: ks) [⟨II, pekK5, svV z.2.2, (List.range z.1).map (t.peak p)⟩] [] z.2.1 ∧ Since w gm z.2.1 ∧ ∀ q, (svV z.2.2).ownBlock = some q → w.heap.size ≤ q) (fun z => t.m - z.1) (0, W0, ⟨none, 0, 0⟩) ⟨Nat.zero_le _, hG0, hS0, fun q h => by cases h⟩ ZZSUB (fun _ h => h) ?_
  rintro ⟨k, W, rq⟩ ⟨hk, hGW, hSW, hown⟩
  simp only at hk hGW hSW hown
  have hrW : W.heap[gr]? = some (rulO g r) := hSW.keep hr hrm
  have hgW := hGW.game
  have hzW := hSW.size
  simp only [rulO, rulC, gamO, gamC, svV]
  dsimp only [List.cons_append, List.nil_append]
  repeat (first | (refine M0 ?_; first | refine SL ?_ | refine SB fun _ _ => ?_) | (refine M1 ?_; refine SC ?_) | (refine M2 ?_; refine SE ?_))
  refine XC.cond _ rfl (fun h1 => ?_) (fun h1 => ?_)
  rotate_left
  · have hkm : k = t.m := by have := of_decide_eq_false h1; omega
    subst hkm
    repeat (first | (refine M0 ?_; first | refine SL ?_ | refine SB fun _ _ => ?_) | (refine M1 ?_; refine SC ?_) | (refine M2 ?_; refine SE ?_))
    refine XE.retg tok Try.results56 rfl (by simp only [and_self, and_true]) (fun w' S => ?_)
    exact GamR.end4 hGW.freeze hSW S (by repeat (first | exact List.mem_cons_self | apply List.mem_cons_of_mem)) ⟨rq, rfl, rfl⟩ (fun y hy => hy) ZZMK (own2 hgW hrW ZZO3) (fun x hx => .tail _ hx)
  have hkm : k < t.m := by have := of_decide_eq_true h1; omega
  repeat (first | (refine M0 ?_; first | refine SL ?_ | refine SB fun _ _ => ?_) | (refine M1 ?_; refine SC ?_) | (refine M2 ?_; refine SE ?_))
  refine XL.callI (PekX t k p) (ck rfl) rfl rfl hGW hSW (by repeat (first | exact List.mem_cons_self | apply List.mem_cons_of_mem)) (fun w5 ks2 S5 hL5 hG5 => hpk k hkm w5 ks2 hG5 (S5.own (gr, rulO g r) (by repeat (first | exact List.mem_cons_self | apply List.mem_cons_of_mem))).2 (hL5 (gr, rulO g r) (by repeat (first | exact List.mem_cons_self | apply List.mem_cons_of_mem)))) (fun w5 x new hR hG5 hS5 => ?_) ZZMK (own2 hgW hrW ZZO3)
  obtain ⟨rfl, rfl⟩ := hR
  have hz5 := hS5.size
  have hr5 : w5.heap[gr]? = some (rulO g r) := hS5.keep hr hrm
  have hg5 := hG5.game
  simp only [iiV]
  repeat (first | (refine M0 ?_; first | refine SL ?_ | refine SB fun _ _ => ?_ | refine XL.buildSlice tok rfl rfl rfl rfl rfl rfl rfl rfl rfl (fun _ _ => ?_)) | (refine M1 ?_; refine SC ?_) | (refine M2 ?_; refine SE ?_))
  rename_i g9 hg9
  refine XL.pushI (K := pekK5) (a := t.peak p k) 0 pek5_el (by decide) rfl rfl rfl hG5 (by repeat (first | exact List.mem_cons_self | apply List.mem_cons_of_mem)) rfl hS5 hown (.head _) rfl (fun _ => rfl) (by simp; omega) (by decide) (fun w6 r6 hG6 hS6 hown6 => ?_) ZZMK (own2 hg5 hr5 ZZO3)
  have hz6 := hS6.size
  have hg6 := hG6.game
  have hr6 : w6.heap[gr]? = some (rulO g r) := hS6.keep hr hrm
  simp only [svV]
  repeat (first | (refine M0 ?_; first | refine SL ?_ | refine SB fun _ _ => ?_) | (refine M1 ?_; refine SC ?_) | (refine M2 ?_; refine SE ?_))
  refine XE.roundW (s := (k, W, rq)) (fun w9 S9 => ⟨(k + 1, w9, r6), ⟨hkm, ?_, ?_, hown6⟩, by simp only; omega, ZZSUB, S9.rebase ZZSM⟩)
  · rw [peaks_succ]
    exact hG6.on S9 (by repeat (first | exact List.mem_cons_self | apply List.mem_cons_of_mem)) ZZMK ZZSB mg (fun x hx => by cases hx)
  · exact Since.end2 hG6 hS6 S9 ZZMK (own2 hg6 hr6 ZZO3)
end Go.Proofs.Ytmpaiphakjogjaa.X
/-
  The walk of slices.Reverse: a row is turned round in place (closure).
-/
namespace Go.Proofs.Ytmpaiphakjogjaa.Bs
open Go Go.Proofs.Ytmpaiphakjogjaa.X
set_option linter.unusedVariables false
def rvI (n k x : Nat) : Nat := if x < k ∨ n - k ≤ x then n - 1 - x else x
def rv (l : List II) (k : Nat) : List II := (List.range l.length).map fun x => l[rvI l.length k x]?.getD (0, 0)
theorem rv_len (l : List II) (k : Nat) : (rv l k).length = l.length := by simp [rv]
theorem rv_at {l : List II} {k x : Nat} (hx : x < l.length) : (rv l k)[x]? = some (l[rvI l.length k x]?.getD (0, 0)) := by
  unfold rv
  rw [List.getElem?_map, List.getElem?_range hx]; rfl
theorem rv_none {l : List II} {k x : Nat} (hx : l.length ≤ x) : (rv l k)[x]? = none := List.getElem?_eq_none (by rw [rv_len]; exact hx)
theorem rv_0 (l : List II) : rv l 0 = l := by
  refine List.ext_getElem? fun x => ?_
  by_cases hx : x < l.length
  · rw [rv_at hx, show rvI l.length 0 x = x from if_neg (by omega), List.getElem?_eq_getElem hx]; rfl
  · rw [rv_none (by omega), List.getElem?_eq_none (by omega)]
theorem rv_all {l : List II} {k : Nat} (h : ¬ k < l.length - 1 - k) : rv l k = l.reverse := by
  refine List.ext_getElem? fun x => ?_
  by_cases hx : x < l.length
  · rw [rv_at hx, List.getElem?_reverse hx]
    have e : rvI l.length k x = l.length - 1 - x := by
      unfold rvI
      split
      · rfl
      · omega
    rw [e, List.getElem?_eq_getElem (by omega)]; rfl
  · rw [rv_none (by omega), List.getElem?_eq_none (by simp; omega)]
theorem rv_step {l : List II} {k : Nat} {a b : II} (h : k < l.length - 1 - k) (ha : (rv l k)[k]? = some a) (hb : (rv l k)[l.length - 1 - k]? = some b) : ((rv l k).set k b).set (l.length - 1 - k) a = rv l (k + 1) := by
  have h1 : rvI l.length k k = k := if_neg (by omega)
  have h2 : rvI l.length k (l.length - 1 - k) = l.length - 1 - k := if_neg (by omega)
  rw [rv_at (by omega), h1] at ha
  rw [rv_at (by omega), h2] at hb
  refine List.ext_getElem? fun x => ?_
  by_cases hx : x < l.length
  · rw [rv_at hx]
    by_cases h3 : x = l.length - 1 - k
    · subst h3
      rw [List.getElem?_set_self (by simp [rv_len]; omega), ← ha]
      have : rvI l.length (k + 1) (l.length - 1 - k) = k := by unfold rvI; rw [if_pos (by omega)]; omega
      rw [this]
    · rw [List.getElem?_set_ne (Ne.symm h3)]
      by_cases h4 : x = k
      · subst h4
        rw [List.getElem?_set_self (by simp [rv_len]; omega), ← hb]
        have : rvI l.length (x + 1) x = l.length - 1 - x := by unfold rvI; rw [if_pos (by omega)]
        rw [this]
      · rw [List.getElem?_set_ne (Ne.symm h4), rv_at hx]
        have : rvI l.length (k + 1) x = rvI l.length k x := by
          unfold rvI
          by_cases h5 : x < k ∨ l.length - k ≤ x
          · rw [if_pos h5, if_pos (by omega)]
          · rw [if_neg h5, if_neg (by omega)]
        rw [this]
  · rw [rv_none (by omega), List.getElem?_eq_none (by simp [rv_len]; omega)]
end Go.Proofs.Ytmpaiphakjogjaa.Bs
namespace Go.Proofs.Ytmpaiphakjogjaa.X
open Go Go.RowKit Go.Proofs.Ytmpaiphakjogjaa.Bs
set_option linter.unusedVariables false
def wtnK5 : Kind II := ⟨88, 2, fun x => [.int .i64 x.1, .int .i64 x.2], fun _ => [], fun _ => rfl⟩
theorem wtn5_el : elemOk Try.prog 47 wtnK5.ty wtnK5.m 16 = true := by kernel_rfl
section
variable {P : Program} {T : TT} {N : Nat} {B : Nat} {w0 : World} {ds : List Deferred} {Q : Exit → Act → World → Prop} {F : Fr} {L L' : Lo} {ops : Array Oper} {rest : List Oper} {ty : TypeId} {p : String} {af : Array Edge}
/-- an element of two cells is stored. -/
theorem XL.store_row2 {α : Type} (K : Kind α) (hT : TOK P T) (i : Nat) {l : List α} {sp : List Value} {a : α} {t : TypeId} {x y : Operand} {g j : Nat} {tg : TypeId}
    (hx : evo F x = some (.pointer (some ((⟨g, 0, none⟩ : Addr).add (j * K.m))))) (hy : evo F y = some (.agg (K.c a).toArray)) (hL : L[i]? = some (g, cel tg (l.flatMap K.c ++ sp))) (ht : lkG T.agg t = some 2) (hm : K.m = 2) (h1 : ∀ a, (K.c a).all one1 = true)
    (hj : j < l.length) (hL' : setN L i (g, cel tg ((l.set j a).flatMap K.c ++ sp)) = some L') (k : XL P N B w0 ds Q ops rest F L') :
    XL P N B w0 ds Q ops ({ dst := none, op := .store t x y, type := ty, pos := p, after := af, guard := none } :: rest) F L := by
  rw [add_off, Nat.zero_add] at hx
  have hp : putN (l.flatMap K.c ++ sp) (j * K.m) (K.c a) = some ((l.set j a).flatMap K.c ++ sp) := by
    have hK := K.len
    have key : ∀ (l : List α) (j : Nat), j < l.length → putN (l.flatMap K.c ++ sp) (j * K.m) (K.c a) = some ((l.set j a).flatMap K.c ++ sp) := by
      intro l
      induction l with
      | nil => intro j h; simp at h
      | cons b l ih =>
        intro j h
        have hb := hK b
        have ha := hK a
        rw [hm] at hb ha ih ⊢
        obtain ⟨b1, b2, eb⟩ : ∃ x y, K.c b = [x, y] := by
          match hc : K.c b, hb with
          | [x, y], _ => exact ⟨x, y, rfl⟩
        obtain ⟨a1, a2, ea⟩ : ∃ x y, K.c a = [x, y] := by
          match hc : K.c a, ha with
          | [x, y], _ => exact ⟨x, y, rfl⟩
        cases j with
        | zero =>
          rw [List.flatMap_cons, eb, List.set_cons_zero, List.flatMap_cons, ea]
          rfl
        | succ j =>
          have hi := ih j (by simpa using h)
          rw [List.flatMap_cons, eb, List.set_cons_succ, List.flatMap_cons, eb, ea]
          rw [ea] at hi
          have e2 : (j + 1) * 2 = j * 2 + 1 + 1 := by omega
          rw [e2]
          simp only [putN, setN, List.cons_append, List.nil_append] at hi ⊢
          cases h3 : setN (List.flatMap K.c l ++ sp) (j * 2) a1 with
          | none => rw [h3] at hi; cases hi
          | some l3 =>
            rw [h3] at hi
            simp only at hi ⊢
            rw [show j * 2 + 1 + 1 + 1 = (j * 2 + 1) + 1 + 1 from rfl]
            simp only [setN]
            cases h4 : setN l3 (j * 2 + 1) a2 with
            | none => rw [h4] at hi; cases hi
            | some l4 => rw [h4] at hi; simp only [Option.some.injEq] at hi ⊢; rw [hi]
    exact key l j hj
  exact XL.store hT i hx hy hL rfl (.inr (by rw [K.len, hm]; exact ht)) (h1 a) hp hL' k
end
set_option maxHeartbeats 8000000 in
theorem rev_any {gq cap : Nat} {l : List II} {sp : List Value} {w : World} (hq : w.heap[gq]? = some (cel 88 (l.flatMap wtnK5.c ++ sp))) (hl : l.length ≤ 1000) :
    Calls Try.prog 60 #[.slice (some ⟨gq, 0, none⟩) l.length cap] w fun e w' => e = .returned (.tuple #[]) ∧ Sys gq w [(gq, cel 88 (l.reverse.flatMap wtnK5.c ++ sp))] w' := by
  have S0 := Sys.start1 (Nat.le_refl gq) hq
  have hlt := (Array.getElem?_eq_some_iff.1 hq).1
  have hBw : Below gq w w := Below.refl _ _
  have hle : gq ≤ w.heap.size := by omega
  refine enterL Try.func60 rfl Try.ntmps60 rfl (S0) ?_; simp only [frame, Nat.zero_add, Nat.reduceAdd]
  repeat (first | (refine M0 ?_; first | refine SL ?_ | refine SB fun _ _ => ?_) | (refine M1 ?_; refine SC ?_) | (refine M2 ?_; refine SE ?_))
  refine XC.loopk [0] rfl (fun k : Nat => [(2, .int .i64 (k : Nat)), (3, .int .i64 ((l.length : Int) - 1 - (k : Nat)))]) (fun k => [(gq, cel 88 ((rv l k).flatMap wtnK5.c ++ sp))]) (fun _ => w) (fun k => k ≤ l.length) (fun k => l.length - k) 0 (Nat.zero_le _) (Sub.cons rfl (Sub.cons (by show some _ = some _; congr 2; omega) Sub.nil)) (fun w' h => by rw [rv_0]; exact h) ?_
  intro k hk
  dsimp only [List.cons_append, List.nil_append]
  repeat (first | (refine M0 ?_; first | refine SL ?_ | refine SB fun _ _ => ?_) | (refine M1 ?_; refine SC ?_) | (refine M2 ?_; refine SE ?_))
  refine XC.cond _ rfl (fun h2 => ?_) (fun h2 => ?_)
  rotate_left
  · have hn : ¬ k < l.length - 1 - k := by have := of_decide_eq_false h2; omega
    repeat (first | (refine M0 ?_; first | refine SL ?_ | refine SB fun _ _ => ?_) | (refine M1 ?_; refine SC ?_) | (refine M2 ?_; refine SE ?_))
    refine XE.end0 Try.results60 (fun w' S => ?_)
    rw [rv_all hn] at S
    exact ⟨rfl, S⟩
  have hkn : k < l.length - 1 - k := by have := of_decide_eq_true h2; omega
  obtain ⟨m, hm⟩ : ∃ m, m = l.length - 1 - k := ⟨_, rfl⟩
  have em : (l.length : Int) - 1 - (k : Nat) = (m : Nat) := by omega
  rw [em]
  obtain ⟨a, ha⟩ : ∃ a, (rv l k)[k]? = some a := ⟨_, rv_at (by omega)⟩
  obtain ⟨b, hb⟩ : ∃ b, (rv l k)[m]? = some b := ⟨_, rv_at (by omega)⟩
  have hstep := rv_step hkn ha (by rw [← hm]; exact hb)
  rw [← hm] at hstep
  have hge : ∀ (j : Nat) (y : II), (rv l k)[j]? = some y → ∀ i u, (wtnK5.c y)[i]? = some u → ((rv l k).flatMap wtnK5.c ++ sp)[0 + j * 2 + i]? = some u := fun j y hj i u hu => by
    have hi : i < 2 := (List.getElem?_eq_some_iff.1 hu).1
    rw [Nat.zero_add, fget (C := wtnK5.c) (m := 2) (fun _ => rfl) sp hj hi]
    exact hu
  have hlr := rv_len l k
  repeat (first | (refine M0 ?_; first | refine SL ?_ | refine SB fun _ _ => ?_) | (refine M1 ?_; refine SC ?_) | (refine M2 ?_; refine SE ?_))
  refine XC.drawRS (trunc w gq) [] [0, 1, 2, 3, 4, 5, 6, 8, 9, 10] [7, 11, 12, 13, 14, 15] mixed (fun _ h => Sys.anchorT hBw h (fun e he => by cases he) (by simp) hle) rfl (by kernel_rfl) ?_
  repeat (any_goals (first | (refine M0 ?_; first | refine SL ?_ | refine SB fun _ _ => ?_ | refine Y4 (Ev.load_at_agg tok 0 (g := gq) (o := 0) (j := m * 2) (vs := wtnK5.c b) rfl rfl rfl rfl (hge m b hb)) ?_ | refine Y4 (Ev.load_at_agg tok 0 (g := gq) (o := 0) (j := k * 2) (vs := wtnK5.c a) rfl rfl rfl rfl (hge k a ha)) ?_ | refine XL.store_row2 wtnK5 tok 0 (j := k) (a := b) (l := rv l k) (sp := sp) rfl rfl rfl rfl rfl (fun _ => rfl) (by omega) rfl ?_ | refine XL.store_row2 wtnK5 tok 0 (j := m) (a := a) (l := (rv l k).set k b) (sp := sp) rfl rfl rfl rfl rfl (fun _ => rfl) (by simp; omega) rfl ?_) | (refine M1 ?_; refine SC ?_) | (refine M2 ?_; first | refine SE ?_ | ((with_reducible refine atHeld ?_); refine z7 ?_)) | (refine M3 ?_; first | refine SG ?_ | refine SF ?_ | refine YF (Ev.load_at_agg tok 0 (g := gq) (o := 0) (j := m * 2) (vs := wtnK5.c b) rfl rfl rfl rfl (hge m b hb)) ?_ | refine YF (Ev.load_at_agg tok 0 (g := gq) (o := 0) (j := k * 2) (vs := wtnK5.c a) rfl rfl rfl rfl (hge k a ha)) ?_) | (refine M4 ?_; refine SR ?_) | (refine M5 ?_; first | exact M7 | refine YM ?_ | refine YN ?_ ?_)))
  any_goals (repeat (first | exact AnyR.nil | refine AnyR.skip rfl ?_))
  all_goals
    rw [hstep]
    exact XE.round (s := k) (k + 1) (by omega) (by omega) (Sub.cons rfl (Sub.cons (by show some _ = some _; congr 2; omega) ZZSUB)) (fun _ h => h)
/-- the same of a row that grows no more: nil, or a block of its own. -/
theorem rev_row {w : World} {b0 : Nat} {q : SV} {l : List II} (h : w.ownsRow b0 88 2 (svV q) l.length (l.flatMap wtnK5.c)) (hl : l.length ≤ 1000) :
    Calls Try.prog 60 #[svV q] w fun e w' => e = .returned (.tuple #[]) ∧ w'.ownsRow b0 88 2 (svV q) l.length (l.reverse.flatMap wtnK5.c) ∧ w'.os = w.os ∧ w'.tape = w.tape ∧ w'.output = w.output ∧ w.heap.size ≤ w'.heap.size ∧ ∀ j, j < w.heap.size → (svV q).ownBlock ≠ some j → w'.heap[j]? = w.heap[j]? := by
  obtain ⟨A, n, c⟩ := q
  obtain ⟨h1, h2 | ⟨g, cap, cur, e, hb, hg, hn, hc, hs, ht⟩⟩ := h
  · obtain ⟨e, h3⟩ := h2
    have hl0 : l = [] := List.length_eq_zero_iff.1 h3
    subst hl0
    simp only [svV, Value.slice.injEq] at e
    obtain ⟨rfl, rfl, rfl⟩ := e
    simp only [svV]
    have S0 : Sys w.heap.size w [] w := Sys.enter w
    refine enter Try.func60 rfl Try.ntmps60 rfl ?_; simp only [frame, Nat.zero_add, Nat.reduceAdd]
    repeat (first | (refine M0 ?_; first | refine SL ?_ | refine SB fun _ _ => ?_) | (refine M1 ?_; refine SC ?_) | (refine M2 ?_; refine SE ?_))
    refine XC.loopk [0] rfl (fun k : Unit => [(2, .int .i64 0), (3, .int .i64 (-1))]) (fun k => []) (fun _ => w) (fun k => True) (fun k => 1) () trivial ZZSUB (fun w' h => h) ?_
    intro k hk
    dsimp only [List.cons_append, List.nil_append]
    repeat (first | (refine M0 ?_; first | refine SL ?_ | refine SB fun _ _ => ?_) | (refine M1 ?_; refine SC ?_) | (refine M2 ?_; refine SE ?_))
    refine XE.end0 Try.results60 (fun w' S => ?_)
    exact ⟨rfl, ⟨rfl, .inl ⟨rfl, rfl⟩⟩, S.os, S.tape, S.output, S.size, fun j hj _ => S.old j hj (fun e he => by cases he)⟩
  · simp only [svV, Value.slice.injEq] at e
    obtain ⟨rfl, rfl, rfl⟩ := e
    have hcur : cur.toList = l.flatMap wtnK5.c ++ cur.toList.drop (l.length * 2) := by rw [← ht, List.take_append_drop]
    have hg' : w.heap[g]? = some (cel 88 (l.flatMap wtnK5.c ++ cur.toList.drop (l.length * 2))) := by rw [← hcur]; exact hg
    have hlen : (l.reverse.flatMap wtnK5.c).length = l.length * 2 := by rw [flat_len wtnK5.c 2 (fun _ => rfl), List.length_reverse]
    refine (rev_any hg' hl).mono fun e w' ⟨e1, S⟩ => ⟨e1, ⟨hlen, .inr ⟨g, _, _, rfl, hb, (S.own _ (.head _)).2, hn, hc, ?_, ?_⟩⟩, S.os, S.tape, S.output, S.size, fun j hj hne => S.old j hj (fun e he e2 => ?_)⟩
    · have : cur.toList.length = cur.size := by simp
      simp only [List.size_toArray, List.length_append, hlen, List.length_drop, this]
      omega
    · rw [List.take_left' hlen]
    · rw [List.mem_singleton.1 he] at e2
      exact hne (by rw [← e2]; rfl)
end Go.Proofs.Ytmpaiphakjogjaa.X
/-
  A call of Reverse beside a game; the plain words of Decide's search (closure).
-/
namespace Go.Proofs.Ytmpaiphakjogjaa.Bs
open Go Go.Proofs.Ytmpaiphakjogjaa.X
set_option linter.unusedVariables false
/-- the witnesses, the last tick first, down to tick i. -/
noncomputable def CTk.downL (t : CTk) (i : Nat) : List II := (List.range (t.beg - i)).map fun x => t.witC ((t.beg - 1 - x : Nat) : Int)
theorem downL_len (t : CTk) (i : Nat) : (t.downL i).length = t.beg - i := by simp [CTk.downL]
theorem downL_0 (t : CTk) : t.downL t.beg = [] := by unfold CTk.downL; rw [Nat.sub_self]; rfl
theorem downL_push {t : CTk} {i : Nat} (hi : i < t.beg) : t.downL i = t.downL (i + 1) ++ [t.witC (i : Nat)] := by
  unfold CTk.downL
  rw [show t.beg - i = (t.beg - (i + 1)) + 1 by omega, List.range_succ, List.map_append]
  congr 1
  rw [List.map_singleton, show t.beg - 1 - (t.beg - (i + 1)) = i by omega]
theorem downL_rev {t : CTk} {i : Nat} (hi : i < t.beg) : (t.downL (i + 1)).reverse = t.laterL i := by
  refine List.ext_getElem? fun x => ?_
  have hl := downL_len t (i + 1)
  have hl2 : (t.laterL i).length = t.beg - (i + 1) := by simp [CTk.laterL]
  by_cases hx : x < t.beg - (i + 1)
  · rw [List.getElem?_reverse (by omega), hl]
    unfold CTk.downL CTk.laterL
    rw [List.getElem?_map, List.getElem?_map, List.getElem?_range (by omega), List.getElem?_range hx]
    simp only [Option.map_some]
    congr 3
    omega
  · rw [List.getElem?_eq_none (by simp [hl]; omega), List.getElem?_eq_none (by omega)]
theorem beg_le {t : CTk} (ho : CtOk t) : t.beg ≤ 60 := by have := ho.n60; have := ho.dly; unfold CTk.beg CTk.last; omega
/-- a plan that holds for all has all levels. -/
theorem all_ins {t : CTk} {p : CPl} (h : ∀ k, k < t.m → t.holds k p = true) : ∀ k i, k < t.m → i < t.n → (t.ins k p i).isSome = true := fun k i hk hi => by
  obtain ⟨x, hx, _⟩ := above_f.1 (holds_iff.1 (h k hk) i hi)
  rw [hx]; rfl
theorem nev_ins (t : CTk) : ∀ k i, k < t.m → i < t.n → (t.ins k nev i).isSome = true := fun k i _ _ => by
  unfold CTk.ins CTk.isOpen
  simp
theorem dec_0 {t : CTk} {r : CRu} (h : ruE t r = 0) (hc : t.called r = false) : t.decE r = 0 ∧ t.decD r = ⟨nev, t.peaks nev, []⟩ := by
  constructor
  · simp [CTk.decE, h, hc]
  · simp [CTk.decD, h, hc]
theorem dec_ru {t : CTk} {r : CRu} (h : ruE t r ≠ 0) : t.decE r = ruE t r ∧ t.decD r = CDe.zero := by
  unfold CTk.decE CTk.decD
  rw [if_pos h, if_pos h]
  exact ⟨rfl, rfl⟩
theorem dec_none {t : CTk} {r : CRu} (h : ruE t r = 0) (hc : t.called r = true) (hl : t.lastOk = none) : t.decE r = 9 ∧ t.decD r = CDe.zero := by
  constructor
  · simp [CTk.decE, h, hc, hl]
  · simp [CTk.decD, h, hc, hl]
theorem dec_some {t : CTk} {r : CRu} (h : ruE t r = 0) (hc : t.called r = true) {i : Nat} (hl : t.lastOk = some i) :
    t.decE r = (if t.may r (i : Nat) = true then 0 else 9) ∧ t.decD r = (if t.may r (i : Nat) = true then ⟨t.plan (i : Nat), t.peaks (t.plan (i : Nat)), t.laterL i⟩ else CDe.zero) := by
  constructor
  · simp [CTk.decE, h, hc, hl]
  · simp [CTk.decD, h, hc, hl]
end Go.Proofs.Ytmpaiphakjogjaa.Bs
namespace Go.Proofs.Ytmpaiphakjogjaa.X
open Go Go.RowKit Go.Proofs.Ytmpaiphakjogjaa.Bs
set_option linter.unusedVariables false
def decC (q1 q2 : SV) (d : CDe) : List Value := [.int .i64 d.plan.close, .int .i64 d.plan.open_, svV q1, svV q2]
def decV (q1 q2 : SV) (d : CDe) : Value := .agg ⟨decC q1 q2 d⟩
def DecR (t : CTk) (r : CRu) (x : Value) (new : List Held) : Prop := ∃ q1 q2 : SV, x = .tuple ⟨[decV q1 q2 (t.decD r), .int .i64 (t.decE r)]⟩ ∧ new = [hList pekK5 q1 (t.decD r).peaks, hList wtnK5 q2 (t.decD r).later]
/-- a row of plain elements is another list now. -/
theorem Fam.turn1 {α : Type} {K : Kind α} {W W' : World} {b0 : Nat} {ks : List Nat} {v : Value} {l l' : List α} {hs : List Held} (h : Fam W b0 ks [⟨α, K, v, l⟩] hs) (hsl : ∀ a, K.sl a = []) (hrow : W'.ownsRow b0 K.ty K.m v l'.length (l'.flatMap K.c)) (hsz : W.heap.size ≤ W'.heap.size)
    (ho : ∀ j, j < W.heap.size → v.ownBlock ≠ some j → W'.heap[j]? = W.heap[j]?) : Fam W' b0 ks [⟨α, K, v, l'⟩] hs := by
  have hm : (⟨α, K, v, l⟩ : RowX) ∈ [(⟨α, K, v, l⟩ : RowX)] := .head _
  have hf : ∀ j, Free W b0 ks [⟨α, K, v, l⟩] j → Free W' b0 ks [⟨α, K, v, l'⟩] j := fun j hj => ⟨hj.1, Nat.lt_of_lt_of_le hj.2.1 hsz, hj.2.2.1, fun r hr => by rw [List.mem_singleton.1 hr]; exact fun e => hj.2.2.2 _ hm e⟩
  refine ⟨Nat.le_trans h.base hsz, fun r hr => by rw [List.mem_singleton.1 hr]; exact hrow, fun r hr k hk => by rw [List.mem_singleton.1 hr] at hk; exact h.sep _ hm k hk, List.pairwise_singleton _ _, fun r hr a ha x hx => ?_, fun x hx => (x.keep (h.held x hx) fun j hj => ho j hj.2.1 fun e => hj.2.2.2 _ hm e) |> fun y => x.mono y hf⟩
  cases List.mem_singleton.1 hr
  have : x ∈ K.sl a := hx
  rw [hsl] at this
  cases this
section
variable {t : CTk} {v : CTV} {b0 g gm : Nat} {ks : List Nat} {hs : List Held} {w w' w0 : World} {L : Lo} {B : Nat}
variable {N : Nat} {ds : List Deferred} {Q : Exit → Act → World → Prop} {F : Fr} {ops : Array Oper} {rest : List Oper} {ty : TypeId} {p : String} {af : Array Edge}
/-- a call of Reverse: the row is turned round. -/
theorem XL.callRev {d : Nat} {args : Array Operand} {ats : Array TypeId} {q : SV} {l : List II} (ha : evos F args.toList = some [svV q]) (hd : Nat.blt d N = true) (hG : Gam t v b0 g gm ks [⟨II, wtnK5, svV q, l⟩] hs w0) (hg : (g, gamO v t gm) ∈ L) (hl : l.length ≤ 1000)
    (k : ∀ w', Gam t v b0 g gm (L.map (·.1) ++ ks) [⟨II, wtnK5, svV q, l.reverse⟩] hs w' → Below b0 w0 w' → XL Try.prog N b0 w' ds Q ops rest ((d, .tuple #[]) :: F) L)
    (hL : ∀ e, e ∈ L → e.1 ∈ ks ∨ w0.heap.size ≤ e.1) :
    XL Try.prog N b0 w0 ds Q ops ({ dst := some d, op := .call { callee := .value (.func 60), args := args, argTypes := ats }, type := ty, pos := p, after := af, guard := none } :: rest) F L := by
  refine XL.callr (fst := []) (cap := []) (fun w x w' => x = .tuple #[] ∧ Gam t v b0 g gm (L.map (·.1) ++ ks) [⟨II, wtnK5, svV q, l.reverse⟩] hs w' ∧ Below b0 w w' ∧ ∀ e, e ∈ L → w'.heap[e.1]? = w.heap[e.1]?) (ck rfl) rfl ha hd (fun w S => ?_) (fun w x w' S hR => ?_)
  · have hA := hG.add S hg hL
    have hm : (⟨II, wtnK5, svV q, l⟩ : RowX) ∈ [(⟨II, wtnK5, svV q, l⟩ : RowX)] := .head _
    have hrow := hA.fam.row _ hm
    simp only [List.nil_append, List.append_nil]
    refine (rev_row hrow hl).mono fun e w' ⟨e1, e2, e3, e4, e5, e6, e7⟩ => ⟨_, e1, rfl, ?_, ?_, ?_⟩
    · have hb0 : b0 ≤ w.heap.size := hA.fam.base
      have hB : Below b0 w w' := ⟨e3, e4, e5, e6, fun j hj => e7 j (by omega) fun e => by have := (hA.fam.lt hm e).1; omega⟩
      have hsep : ∀ q', q' ∈ gm :: (L.map (·.1) ++ ks) → w'.heap[q']? = w.heap[q']? := fun q' hq' => e7 q' (hA.lt q' hq') fun e => hA.fam.sep _ hm q' e hq'
      refine ⟨hA.fam.turn1 (fun _ => rfl) (by rw [List.length_reverse]; exact e2) e6 e7, hA.nin, hA.gin, fun k hk => Nat.lt_of_lt_of_le (hA.lt k hk) e6, hA.bg, hA.bm, (hsep g (.tail _ hA.gin)).trans hA.game, hA.task.below hB, ?_⟩
      refine (hA.memo.keep (w' := w') fun j hj => ?_).mono fun j hj => ⟨hj.1, Nat.lt_of_lt_of_le hj.2.1 e6, hj.2.2.1, fun r hr => by rw [List.mem_singleton.1 hr]; exact fun e => hj.2.2.2 _ hm e⟩
      rcases hj with hj | rfl
      · exact e7 j hj.2.1 fun e => hj.2.2.2 _ hm e
      · exact hsep _ (.head _)
    · exact ⟨e3, e4, e5, e6, fun j hj => e7 j (Nat.lt_of_lt_of_le hj hA.fam.base) fun e => by have := (hA.fam.lt hm e).1; omega⟩
    · intro e he
      have hmem : e.1 ∈ gm :: (L.map (·.1) ++ ks) := .tail _ (List.mem_append_left _ (List.mem_map.2 ⟨e, he, rfl⟩))
      exact e7 e.1 (hA.lt e.1 hmem) fun e1 => hA.fam.sep _ hm e.1 e1 hmem
  · obtain ⟨rfl, hG', hB, hsame⟩ := hR
    have S' : Sys b0 w' L w' := Sys.start hG'.fam.base (fun e he => ⟨(S.own e he).1, by rw [hsame e he]; exact (S.own e he).2⟩) S.nd
    exact ⟨L, w', S', k w' hG' (S.toBelow.trans hB)⟩
end
end Go.Proofs.Ytmpaiphakjogjaa.X
/-
  The walk of Decide (closure).
-/
namespace Go.Proofs.Ytmpaiphakjogjaa.X
open Go Go.RowKit Go.Proofs.Ytmpaiphakjogjaa.Bs
set_option linter.unusedVariables false
theorem decZ {t : CTk} {r : CRu} {e : Int} (h1 : t.decE r = e) (h2 : t.decD r = CDe.zero) {w w' : World} (hB : Below w.heap.size w w') :
    Made w (DecR t r) (.returned (.tuple ⟨[.agg ⟨[.int .i64 0, .int .i64 0, .slice none 0 0, .slice none 0 0]⟩, .int .i64 e]⟩)) w' := by
  refine ⟨_, _, rfl, ⟨⟨none, 0, 0⟩, ⟨none, 0, 0⟩, by rw [h1, h2]; rfl, rfl⟩, fun x hx => ?_, hB⟩
  rw [h2] at hx
  simp only [List.mem_cons, List.not_mem_nil, or_false] at hx
  rcases hx with rfl | rfl
  · exact ListAt.nil
  · exact ListAt.nil
set_option maxHeartbeats 16000000 in
theorem Decide_made {v : CTV} {t : CTk} {r : CRu} {w : World} (h : CtAt w w.heap.size v t) :
    Calls Try.prog 20 #[ctkV v t, ruV r] w (Made w (DecR t r)) := by
  simp only [ctkV, ctkC, ruV]
  refine enterM Try.func20 rfl Try.ntmps20 rfl ?_; simp only [frame, Nat.zero_add, Nat.reduceAdd]
  repeat (first | (refine M0 ?_; first | refine SL ?_ | refine SB fun _ _ => ?_) | (refine M1 ?_; refine SC ?_) | (refine M2 ?_; refine SE ?_))
  rename_i g2 hg2 g3 hg3 g4 hg4 g5 hg5
  refine XL.with5 (v := v) (t := t) (r := r) h rfl rfl (fun hc w1 hB1 => ?_) (fun hc ho hq w1 gr g gm hG1 hB1 hgl hgrl => ?_)
  · obtain ⟨d1, d2⟩ := dec_ru hc
    repeat (first | (refine M0 ?_; first | refine SL ?_ | refine SB fun _ _ => ?_) | (refine M1 ?_; refine SC ?_) | (refine M2 ?_; refine SE ?_))
    rw [show decide (ruE t r ≠ 0) = true from decide_eq_true hc]
    repeat (first | (refine M0 ?_; first | refine SL ?_ | refine SB fun _ _ => ?_) | (refine M1 ?_; refine SC ?_) | (refine M2 ?_; refine SE ?_))
    refine XE.retM0 tok Try.results20 rfl (by simp only [and_self, and_true]) (fun w' S => ?_)
    exact decZ d1 d2 (hB1.trans S.toBelow)
  have hal := fun {L : Lo} {W : World} (hGW : CtAt W w.heap.size v t) (w5 : World) (S5 : Sys w.heap.size W L w5) (m1 : (gr, rulO g r) ∈ L) (m2 : (g, gamO v t gm) ∈ L) => allowed_any (r := r) ((hGW.below S5.toBelow).more (Nat.le_trans S5.base S5.size)) ho hq (S5.own _ m1).2 (S5.own _ m2).2
  have hgs1 : g ∈ gr :: g :: [(g5, cel 30 [.int .i64 0]), (g4, cel 49 [.int .i64 0, .int .i64 0, .slice none 0 0, .slice none 0 0]), (g3, cel 42 [.int .i64 r.count, .int .i64 r.early]), (g2, cel 29 (ctkC v t))].map (·.1) := .tail _ (.head _)
  have h60 := ho.n60
  have hdl := ho.dly
  have hfr := ho.frm
  have hm8 := ho.m8
  simp only [gamO, gamC, rulO, rulC]
  repeat (first | (refine M0 ?_; first | refine SL ?_ | refine SB fun _ _ => ?_) | (refine M1 ?_; refine SC ?_) | (refine M2 ?_; refine SE ?_))
  rename_i g6 hg6
  have hle : w.heap.size ≤ w.heap.size := Nat.le_refl _
  have hz1 := hB1.size
  repeat (first | (refine M0 ?_; first | refine SL ?_ | refine SB fun _ _ => ?_ | refine Y4 (Ev.call (f := 54) (ck rfl) rfl (fun w5 S5 => hal hG1.task w5 S5 (.tail _ (.head _)) (.tail _ (.tail _ (.head _))))) ?_) | (refine M1 ?_; refine SC ?_) | (refine M2 ?_; refine SE ?_))
  cases hcl : t.called r with
  | false =>
    obtain ⟨d1, d2⟩ := dec_0 hc hcl
    repeat (first | (refine M0 ?_; first | refine SL ?_ | refine SB fun _ _ => ?_) | (refine M1 ?_; refine SC ?_) | (refine M2 ?_; refine SE ?_))
    refine XC.drawRS (trunc w w.heap.size) [(g6, cel 113 [.pointer (some ⟨gr, 0, none⟩)])] [1] [0, 2, 3, 4, 5, 6] mixed (fun _ h => Sys.anchorT hB1 h (fun e he => by rw [List.mem_singleton.1 he]; exact .head _) (by simp) hle) rfl (by kernel_rfl) ?_
    repeat (any_goals (first | (refine M0 ?_; first | refine SL ?_ | refine SB fun _ _ => ?_ | refine Y4 (Ev.load_loc tok 0 (g := g6) (o := 0) rfl rfl rfl rfl) ?_ | refine Y4 (Ev.call (f := 55) (ck rfl) rfl (fun w S => nev_any w)) ?_ | (refine XL.at_call 56 ?_; refine XL.callJ (PksX t nev) (ck rfl) rfl rfl hG1 (by repeat (first | exact List.mem_cons_self | apply List.mem_cons_of_mem)) (fun w5 ks2 S5 hL5 hG5 => peaks_any hG5 ho (S5.own (gr, rulO g r) (by repeat (first | exact List.mem_cons_self | apply List.mem_cons_of_mem))).2 (hL5 (gr, rulO g r) (by repeat (first | exact List.mem_cons_self | apply List.mem_cons_of_mem))) hgrl (nev_ok t) (nev_ins t)) (fun w5 x new hR hG5 hB5 => ?_) ZZMK; obtain ⟨q, rfl, rfl⟩ := hR; simp only [svV]; have hB15 : Below w.heap.size w w5 := hB1.trans hB5)) | (refine M1 ?_; refine SC ?_) | (refine M2 ?_; first | refine SE ?_ | ((with_reducible refine atHeld ?_); refine z7 ?_)) | (refine M3 ?_; first | refine SG ?_ | refine SF ?_ | refine YF (Ev.load_loc tok 0 (g := g6) (o := 0) rfl rfl rfl rfl) ?_ | refine YF (Ev.call (f := 55) (ck rfl) rfl (fun w S => nev_any w)) ?_) | (refine M4 ?_; refine SR ?_) | (refine M5 ?_; first | exact M7 | refine YM ?_ | refine YN ?_ ?_)))
    any_goals (repeat (first | exact AnyR.nil | refine AnyR.skip rfl ?_))
    all_goals
      refine XE.retM0 tok Try.results20 rfl (by simp only [and_self, and_true]) (fun w' S => ?_)
      refine ⟨_, _, rfl, ⟨q, ⟨none, 0, 0⟩, by rw [d1, d2]; rfl, rfl⟩, fun x hx => ?_, hB15.trans S.toBelow⟩
      rw [d2] at hx
      simp only [List.mem_cons, List.not_mem_nil, or_false] at hx
      rcases hx with rfl | rfl
      · exact (hG5.sys S (by repeat (first | exact List.mem_cons_self | apply List.mem_cons_of_mem)) ZZMK).fam.get (.head _)
      · exact ListAt.nil
  | true =>
  repeat (first | (refine M0 ?_; first | refine SL ?_ | refine SB fun _ _ => ?_ | refine Y4 (Ev.load_loc tok 2 (g := gr) (o := 0) rfl rfl rfl rfl) ?_) | (refine M1 ?_; refine SC ?_) | (refine M2 ?_; refine SE ?_))
  rename_i g10 hg10
  refine XL.callr (fst := []) (cap := []) (fun w1 x w2 => ∃ gp, x = .func (.func 86) #[] #[.pointer (some ⟨gp, 0, none⟩)] ∧ Sys w1.heap.size w1 [(gp, cel 102 [.pointer (some ⟨g, 0, none⟩)])] w2) (ck rfl) rfl rfl rfl (fun w1 S1 => begs0_any) (fun wX x w2 S1 hR => ?_)
  obtain ⟨gp, rfl, S2⟩ := hR
  refine ⟨_, w2, (S1.join S2 (List.Sublist.refl _)).rebase (List.sublist_cons_self _ _), ?_⟩
  have hB2 : Below w.heap.size w w2 := hB1.trans (S1.toBelow.trans (S2.toBelow.mono (Nat.le_trans S1.base S1.size)))
  have hgpL : ∀ x, x ∈ [g10, g6, gr, g, g5, g4, g3, g2] → x < gp := fun x hx => Nat.lt_of_lt_of_le (S1.keyLt x hx) (S2.own _ (.head _)).1
  have hn106 : g10 ≠ g6 := by
    have := S1.nd
    simp only [List.map_cons, List.nodup_cons, List.mem_cons, not_or] at this
    exact this.1.1
  have hgpc : w2.cell? ⟨gp, 0, none⟩ = some (.pointer (some ⟨g, 0, none⟩)) := by
    have := (S2.own _ (.head _)).2
    simp [World.cell?, this]
  have hgpl : gp < w2.heap.size := S2.lt (.head _)
  have hG2 : Gam t v w.heap.size g gm [g10, g6, gr, g, g5, g4, g3, g2] [⟨II, wtnK5, .slice none 0 0, []⟩] [] w2 := by
    have h1 := (hG1.add S1 (by repeat (first | exact List.mem_cons_self | apply List.mem_cons_of_mem)) ZZMK).made (new := []) S2.toBelow (fun x hx => by cases hx)
    exact (h1.less (fun x hx => List.mem_append_left _ hx) (by simp)).nil wtnK5
  clear S1 S2
  repeat (first | (refine M0 ?_; first | refine SL ?_ | refine SB fun _ _ => ?_) | (refine M1 ?_; refine SC ?_) | (refine M2 ?_; refine SE ?_))
  refine XC.rangeFuncD (cap := [.pointer (some ⟨gp, 0, none⟩)]) rfl (ck rfl) (fun fn a D w3 hD hf S3 => ?_)
  have hfS : Fits 76 [] [(10, .pointer (some ⟨g10, 0, none⟩)), (6, .pointer (some ⟨g6, 0, none⟩)), (5, .pointer (some ⟨g5, 0, none⟩)), (4, .pointer (some ⟨g4, 0, none⟩))] { tmps := a.tmps, defers := [] } := by
    have h4 := Sub.fits (G := [(10, .pointer (some ⟨g10, 0, none⟩)), (6, .pointer (some ⟨g6, 0, none⟩)), (5, .pointer (some ⟨g5, 0, none⟩)), (4, .pointer (some ⟨g4, 0, none⟩))]) ZZSUB hf
    exact ⟨h4.size, rfl, h4.get⟩
  have hG3 : Gam t v w.heap.size g gm [D + 1, D, g10, g6, gr, g, g5, g4, g3, g2] [⟨II, wtnK5, .slice none 0 0, []⟩] [] w3 := by
    have h1 := hG2.add S3 (by repeat (first | exact List.mem_cons_self | apply List.mem_cons_of_mem)) (fun e he => by
      have h5 : e.1 ∈ [D + 1, D, g10, g6, gr, g, g5, g4, g3, g2] := List.mem_map.2 ⟨e, he, rfl⟩
      rcases List.mem_cons.1 h5 with h5 | h5
      · right; omega
      rcases List.mem_cons.1 h5 with h5 | h5
      · right; omega
      · left; exact h5)
    exact h1.less (fun x hx => List.mem_append_left _ hx) (by simp)
  have hB3 : Below w.heap.size w w3 := hB2.trans S3.toBelow
  have hbg := begs_any (B := w.heap.size) (l := D + 1) (gp := gp) (g := g) (gm := gm) (v := v) (t := t) (σ := World × SV × Option (List Value × Int))
    (fun s => [(D + 1, .loop (recO fn a.tmps #[42] _ _ D (match s.2.2 with | none => .ready | some _ => .done) (match s.2.2 with | none => none | some _ => some .ret))), (D, .deferred (some [])), (g10, cel 47 [svV s.2.1]), (g6, cel 113 [.pointer (some ⟨gr, 0, none⟩)]), (gr, rulO g r), (g, gamO v t gm), (g5, cel 30 [.int .i64 (match s.2.2 with | none => 0 | some x => x.2)]), (g4, cel 49 (match s.2.2 with | none => [.int .i64 0, .int .i64 0, .slice none 0 0, .slice none 0 0] | some x => x.1)), (g3, cel 42 [.int .i64 r.count, .int .i64 r.early]), (g2, cel 29 (ctkC v t))])
    (fun s => s.1)
    (fun i s => s.2.2 = none ∧ Gam t v w.heap.size g gm [D + 1, D, g10, g6, gr, g, g5, g4, g3, g2] [⟨II, wtnK5, svV s.2.1, t.downL i⟩] [] s.1 ∧ Below w.heap.size w s.1 ∧ ∀ j, i ≤ j → j < t.beg → t.wit (j : Nat) ≠ none)
    (fun s => ∃ cs e q1 q2, s.2.2 = some (cs, e) ∧ Below w.heap.size w s.1 ∧ cs = decC q1 q2 (t.decD r) ∧ e = t.decE r ∧ Fam s.1 w.heap.size [D + 1, D, g10, g6, gr, g, g5, g4, g3, g2] [] [hList pekK5 q1 (t.decD r).peaks, hList wtnK5 q2 (t.decD r).later])
    (w3, ⟨none, 0, 0⟩, none) ho (S3.rebase (List.Sublist.refl _)) ⟨rfl, by rw [downL_0]; exact hG3, hB3, fun j h1 h2 => by omega⟩ ?_ ?_ ?_ ?_ ?_
  rotate_left
  · have h := S3.farCell (a := ⟨gp, 0, none⟩) hgpl (fun e he => by
      have h5 : e.1 ∈ [D + 1, D, g10, g6, gr, g, g5, g4, g3, g2] := List.mem_map.2 ⟨e, he, rfl⟩
      show e.1 ≠ gp
      rcases List.mem_cons.1 h5 with h5 | h5
      · omega
      rcases List.mem_cons.1 h5 with h5 | h5
      · omega
      · have := hgpL e.1 h5; omega)
    exact h.trans hgpc
  · exact Nat.lt_of_lt_of_le hgpl S3.size
  · intro e he
    have h5 : e.1 ∈ [D + 1, D, g10, g6, gr, g, g5, g4, g3, g2] := List.mem_map.2 ⟨e, he, rfl⟩
    rcases List.mem_cons.1 h5 with h5 | h5
    · omega
    rcases List.mem_cons.1 h5 with h5 | h5
    · omega
    · have := hgpL e.1 h5; omega
  · repeat (first | exact List.mem_cons_self | apply List.mem_cons_of_mem)
  · rintro i ⟨W, q, s⟩ hi ⟨rfl, hGW, hBW, hJ⟩ w1' S1
    simp only at hGW hBW hJ S1
    have hloop := (S1.own _ (.head _)).2
    refine ⟨_, _, _, _, run_yield (args := #[.int .i64 (i : Nat)]) hloop rfl, ?_⟩
    refine round_of (hfS.one5 rfl) S1 ?_
    clear hloop
    have hil : (i : Int) ≤ t.last := by unfold CTk.beg at hi; omega
    have hl1 : -31 ≤ t.last ∧ t.last ≤ 60 := by unfold CTk.last; omega
    simp only [gamO, gamC, ctkC, rulO, rulC, svV]
    repeat (first | (refine M0 ?_; first | refine SL ?_ | refine SB fun _ _ => ?_) | (refine XI.id ?_; first | refine XI.done ?_ | refine XI.one1 rfl ?_) | (refine XR'.id ?_; first | refine XR'.seq ?_ | refine XR'.region ?_ | refine XR'.block ?_ | refine XR'.skip ?_ | refine XR'.ret ?_ | refine XR'.cond_t rfl ?_ | refine XR'.cond_f rfl ?_ | refine XR'.exit ?_) | (refine M1 ?_; first | refine SC ?_ | refine SD ?_) | (refine M2 ?_; first | refine XE.nextI ?_ | refine XE.nextR ?_ | refine SE ?_))
    refine XE.begin (i := 0) rfl rfl rfl ?_
    repeat (first | (refine M0 ?_; first | refine SL ?_ | refine SB fun _ _ => ?_) | (refine XI.id ?_; first | refine XI.done ?_ | refine XI.one1 rfl ?_) | (refine XR'.id ?_; first | refine XR'.seq ?_ | refine XR'.region ?_ | refine XR'.block ?_ | refine XR'.skip ?_ | refine XR'.ret ?_ | refine XR'.cond_t rfl ?_ | refine XR'.cond_f rfl ?_ | refine XR'.exit ?_) | (refine M1 ?_; first | refine SC ?_ | refine SD ?_) | (refine M2 ?_; first | refine XE.nextI ?_ | refine XE.nextR ?_ | refine SE ?_))
    repeat (first | (refine M0 ?_; first | refine SL ?_ | refine SB fun _ _ => ?_ | refine Y4 (Ev.load_loc tok 3 (g := g6) (o := 0) rfl rfl rfl rfl) ?_) | (refine XI.id ?_; first | refine XI.done ?_ | refine XI.one1 rfl ?_) | (refine XR'.id ?_; first | refine XR'.seq ?_ | refine XR'.region ?_ | refine XR'.block ?_ | refine XR'.skip ?_ | refine XR'.ret ?_ | refine XR'.cond_t rfl ?_ | refine XR'.cond_f rfl ?_ | refine XR'.exit ?_) | (refine M1 ?_; first | refine SC ?_ | refine SD ?_) | (refine M2 ?_; first | refine XE.nextI ?_ | refine XE.nextR ?_ | refine SE ?_))
    refine XL.callJ (WitX t (i : Nat)) (ck rfl) rfl rfl hGW (by repeat (first | exact List.mem_cons_self | apply List.mem_cons_of_mem)) (fun w5 ks2 S5 hL5 hG5 => witness_any hG5 ho (S5.own (gr, rulO g r) (by repeat (first | exact List.mem_cons_self | apply List.mem_cons_of_mem))).2 (hL5 (gr, rulO g r) (by repeat (first | exact List.mem_cons_self | apply List.mem_cons_of_mem))) hgrl hil) (fun w5 x new hR hG5 hB5 => ?_) ZZMK
    obtain ⟨rfl, rfl⟩ := hR
    have hBW5 : Below w.heap.size w w5 := hBW.trans hB5
    simp only [iiV]
    have hbl := beg_le ho
    cases hwt : t.wit (i : Nat) with
    | some y =>
      repeat (first | (refine M0 ?_; first | refine SL ?_ | refine SB fun _ _ => ?_) | (refine XI.id ?_; first | refine XI.done ?_ | refine XI.one1 rfl ?_) | (refine XR'.id ?_; first | refine XR'.seq ?_ | refine XR'.region ?_ | refine XR'.block ?_ | refine XR'.skip ?_ | refine XR'.ret ?_ | refine XR'.cond_t rfl ?_ | refine XR'.cond_f rfl ?_ | refine XR'.exit ?_) | (refine M1 ?_; first | refine SC ?_ | refine SD ?_) | (refine M2 ?_; first | refine XE.nextI ?_ | refine XE.nextR ?_ | refine SE ?_))
      rename_i g12 hg12
      repeat (first | (refine M0 ?_; first | refine SL ?_ | refine SB fun _ _ => ?_ | refine Y4 (Ev.load_loc tok 3 (g := g10) (o := 0) rfl rfl rfl rfl) ?_ | refine XL.buildSlice tok rfl rfl rfl rfl rfl rfl rfl rfl rfl (fun _ _ => ?_)) | (refine XI.id ?_; first | refine XI.done ?_ | refine XI.one1 rfl ?_) | (refine XR'.id ?_; first | refine XR'.seq ?_ | refine XR'.region ?_ | refine XR'.block ?_ | refine XR'.skip ?_ | refine XR'.ret ?_ | refine XR'.cond_t rfl ?_ | refine XR'.cond_f rfl ?_ | refine XR'.exit ?_) | (refine M1 ?_; first | refine SC ?_ | refine SD ?_) | (refine M2 ?_; first | refine XE.nextI ?_ | refine XE.nextR ?_ | refine SE ?_))
      rename_i g53 hg53
      refine XL.pushG (K := wtnK5) (a := t.witC (i : Nat)) 0 wtn5_el (by decide) rfl rfl rfl hG5 (by repeat (first | exact List.mem_cons_self | apply List.mem_cons_of_mem)) rfl (.head _) rfl (fun _ => rfl) (by rw [downL_len]; omega) (by decide) (fun w6 r6 hG6 hB6 => ?_) ZZMK
      rw [← downL_push hi] at hG6
      simp only [svV]
      repeat (first | (refine M0 ?_; first | refine SL ?_ | refine SB fun _ _ => ?_ | refine XL.store_at tok 4 (g := g10) (o := 0) (j := 0) (cs := [.slice q.A q.n q.c]) rfl rfl rfl rfl rfl (Nat.le_of_ble_eq_true rfl) rfl ?_) | (refine XI.id ?_; first | refine XI.done ?_ | refine XI.one1 rfl ?_) | (refine XR'.id ?_; first | refine XR'.seq ?_ | refine XR'.region ?_ | refine XR'.block ?_ | refine XR'.skip ?_ | refine XR'.ret ?_ | refine XR'.cond_t rfl ?_ | refine XR'.cond_f rfl ?_ | refine XR'.exit ?_) | (refine M1 ?_; first | refine SC ?_ | refine SD ?_) | (refine M2 ?_; first | refine XE.nextI ?_ | refine XE.nextR ?_ | refine SE ?_))
      refine XE.endR (i := 2) rfl rfl (fun w' S => ?_)
      refine ⟨_, rfl, .inl ⟨rfl, (w', r6, none), ⟨rfl, ?_, (hBW5.trans hB6).trans S.toBelow, fun j h3 h4 => ?_⟩, S.rebase ZZSM⟩⟩
      · exact hG6.on S (by repeat (first | exact List.mem_cons_self | apply List.mem_cons_of_mem)) ZZMK ZZSB (by simp) (fun x hx => by cases hx)
      · rcases Nat.lt_or_ge i j with h5 | h5
        · exact hJ j h5 h4
        · have : i = j := by omega
          subst this
          rw [hwt]; simp
    | none =>
      have hlo : t.lastOk = some i := lastOk_some.2 ⟨hil, hwt, fun j h3 h4 => hJ j (by omega) (beg_lt.2 h4)⟩
      obtain ⟨d1, d2⟩ := dec_some hc hcl hlo
      have hml := fun {L : Lo} (w9 : World) (S9 : Sys w.heap.size w5 L w9) (m1 : (gr, rulO g r) ∈ L) (m2 : (g, gamO v t gm) ∈ L) => may_any (r := r) (i := (i : Nat)) ((hG5.task.below S9.toBelow).more (Nat.le_trans S9.base S9.size)) ho hq (S9.own _ m1).2 (S9.own _ m2).2
      repeat (first | (refine M0 ?_; first | refine SL ?_ | refine SB fun _ _ => ?_) | (refine XI.id ?_; first | refine XI.done ?_ | refine XI.one1 rfl ?_) | (refine XR'.id ?_; first | refine XR'.seq ?_ | refine XR'.region ?_ | refine XR'.block ?_ | refine XR'.skip ?_ | refine XR'.ret ?_ | refine XR'.cond_t rfl ?_ | refine XR'.cond_f rfl ?_ | refine XR'.exit ?_) | (refine M1 ?_; first | refine SC ?_ | refine SD ?_) | (refine M2 ?_; first | refine XE.nextI ?_ | refine XE.nextR ?_ | refine SE ?_))
      rename_i g12 hg12
      repeat (first | (refine M0 ?_; first | refine SL ?_ | refine SB fun _ _ => ?_ | refine Y4 (Ev.load_loc tok 4 (g := g6) (o := 0) rfl rfl rfl rfl) ?_ | refine Y4 (Ev.call (f := 59) (ck rfl) rfl (fun w9 S9 => hml w9 S9 (by repeat (first | exact List.mem_cons_self | apply List.mem_cons_of_mem)) (by repeat (first | exact List.mem_cons_self | apply List.mem_cons_of_mem)))) ?_) | (refine XI.id ?_; first | refine XI.done ?_ | refine XI.one1 rfl ?_) | (refine XR'.id ?_; first | refine XR'.seq ?_ | refine XR'.region ?_ | refine XR'.block ?_ | refine XR'.skip ?_ | refine XR'.ret ?_ | refine XR'.cond_t rfl ?_ | refine XR'.cond_f rfl ?_ | refine XR'.exit ?_) | (refine M1 ?_; first | refine SC ?_ | refine SD ?_) | (refine M2 ?_; first | refine XE.nextI ?_ | refine XE.nextR ?_ | refine SE ?_))
      cases hmy : t.may r (i : Nat) with
      | false =>
        rw [hmy] at d1 d2
        repeat (first | (refine M0 ?_; first | refine SL ?_ | refine SB fun _ _ => ?_ | refine XL.store tok 8 (g := g4) (o := 0) (cs := [.int .i64 0, .int .i64 0, .slice none 0 0, .slice none 0 0]) rfl rfl rfl rfl (.inr rfl) rfl rfl rfl ?_ | refine XL.store_at tok 7 (g := g5) (o := 0) (j := 0) (cs := [.int .i64 0]) rfl rfl rfl rfl rfl (Nat.le_of_ble_eq_true rfl) rfl ?_) | (refine XI.id ?_; first | refine XI.done ?_ | refine XI.one1 rfl ?_) | (refine XR'.id ?_; first | refine XR'.seq ?_ | refine XR'.region ?_ | refine XR'.block ?_ | refine XR'.skip ?_ | refine XR'.ret ?_ | refine XR'.cond_t rfl ?_ | refine XR'.cond_f rfl ?_ | refine XR'.exit ?_) | (refine M1 ?_; first | refine SC ?_ | refine SD ?_) | (refine M2 ?_; first | refine XE.nextI ?_ | refine XE.nextR ?_ | refine SE ?_))
        refine XE.endRet (i := 1) rfl rfl (fun w' S => ?_)
        refine ⟨_, rfl, .inr ⟨rfl, (w', q, some ([.int .i64 0, .int .i64 0, .slice none 0 0, .slice none 0 0], 9)), ⟨_, _, ⟨none, 0, 0⟩, ⟨none, 0, 0⟩, rfl, hBW5.trans S.toBelow, by rw [d2]; rfl, by rw [d1]; rfl, ?_⟩, S.rebase ZZSM⟩⟩
        rw [d2]
        exact ((Fam.start (hBW5.trans S.toBelow).size).hold (ok := fun _ => False) (x := hList wtnK5 ⟨none, 0, 0⟩ []) ListAt.nil (fun _ h => h.elim)).hold (ok := fun _ => False) (x := hList pekK5 ⟨none, 0, 0⟩ []) ListAt.nil (fun _ h => h.elim)
      | true =>
        rw [hmy] at d1 d2
        repeat (first | (refine M0 ?_; first | refine SL ?_ | refine SB fun _ _ => ?_ | refine Y4 (Ev.load_loc tok 3 (g := g10) (o := 0) rfl rfl rfl rfl) ?_) | (refine XI.id ?_; first | refine XI.done ?_ | refine XI.one1 rfl ?_) | (refine XR'.id ?_; first | refine XR'.seq ?_ | refine XR'.region ?_ | refine XR'.block ?_ | refine XR'.skip ?_ | refine XR'.ret ?_ | refine XR'.cond_t rfl ?_ | refine XR'.cond_f rfl ?_ | refine XR'.exit ?_) | (refine M1 ?_; first | refine SC ?_ | refine SD ?_) | (refine M2 ?_; first | refine XE.nextI ?_ | refine XE.nextR ?_ | refine SE ?_))
        have hst : t.strange (t.plan (i : Nat)) = false := (plan_ok ho (Int.natCast_nonneg i) hil).1
        have hal2 := all_ins (wit_none.1 hwt)
        refine XL.callRev rfl rfl hG5 (by repeat (first | exact List.mem_cons_self | apply List.mem_cons_of_mem)) (by rw [downL_len]; omega) (fun w6 hG6 hB6 => ?_) ZZMK
        rw [downL_rev hi] at hG6
        have hG6 := hG6.freeze
        have hBW6 : Below w.heap.size w w6 := hBW5.trans hB6
        have hpl := fun {L : Lo} {B : Nat} {W1 : World} (w9 : World) (S9 : Sys B W1 L w9) (hm : (g, gamO v t gm) ∈ L) => plan_any (v := v) (t := t) (gm := gm) (i := (i : Nat)) (S9.own _ hm).2 ho ⟨by omega, by omega⟩
        repeat (first | (refine M0 ?_; first | refine SL ?_ | refine SB fun _ _ => ?_ | refine Y4 (Ev.load_loc tok 4 (g := g6) (o := 0) rfl rfl rfl rfl) ?_ | refine Y4 (Ev.load_loc tok 5 (g := gr) (o := 0) rfl rfl rfl rfl) ?_ | refine Y4 (Ev.call (f := 50) (ck rfl) rfl (fun w9 S9 => hpl w9 S9 (by repeat (first | exact List.mem_cons_self | apply List.mem_cons_of_mem)))) ?_) | (refine XI.id ?_; first | refine XI.done ?_ | refine XI.one1 rfl ?_) | (refine XR'.id ?_; first | refine XR'.seq ?_ | refine XR'.region ?_ | refine XR'.block ?_ | refine XR'.skip ?_ | refine XR'.ret ?_ | refine XR'.cond_t rfl ?_ | refine XR'.cond_f rfl ?_ | refine XR'.exit ?_) | (refine M1 ?_; first | refine SC ?_ | refine SD ?_) | (refine M2 ?_; first | refine XE.nextI ?_ | refine XE.nextR ?_ | refine SE ?_))
        rename_i g14 hg14
        have hz6 := hB6.size
        have hz5 := hB5.size
        have l10 : g10 < W.heap.size := hGW.lt g10 (by simp)
        have l6 : g6 < W.heap.size := hGW.lt g6 (by simp)
        refine XR'.drawRS (trunc w w.heap.size) [(g14, cel 36 [.int .i64 (t.plan (i : Nat)).close, .int .i64 (t.plan (i : Nat)).open_]), (g10, cel 47 [.slice q.A q.n q.c]), (g6, cel 113 [.pointer (some ⟨gr, 0, none⟩)])] [0, 1, 2, 4] [3, 5, 6, 7] mixed (fun _ h => Sys.anchorT hBW6 h (by intro e he; repeat (first | (cases he; done) | (rcases List.mem_cons.1 he with rfl | he; · repeat (first | exact List.mem_cons_self | apply List.mem_cons_of_mem)))) (by simp; omega) hle) rfl rfl (by kernel_rfl) ?_
        repeat (any_goals (first | (refine M0 ?_; first | refine SL ?_ | refine SB fun _ _ => ?_ | refine Y4 (Ev.load_loc_agg tok 0 (g := g14) (o := 0) rfl rfl rfl rfl) ?_ | refine Y4 (Ev.load_loc tok 1 (g := g10) (o := 0) rfl rfl rfl rfl) ?_ | refine Y4 (Ev.load_loc tok 2 (g := g6) (o := 0) rfl rfl rfl rfl) ?_ | (refine XL.at_call 56 ?_; refine XL.callJ (PksX t (t.plan (i : Nat))) (ck rfl) rfl rfl hG6 (by repeat (first | exact List.mem_cons_self | apply List.mem_cons_of_mem)) (fun w9 ks2 S9 hL9 hG9 => peaks_any hG9 ho (S9.own (gr, rulO g r) (by repeat (first | exact List.mem_cons_self | apply List.mem_cons_of_mem))).2 (hL9 (gr, rulO g r) (by repeat (first | exact List.mem_cons_self | apply List.mem_cons_of_mem))) hgrl hst hal2) (fun w9 x new hR hG9 hB9 => ?_) ZZMK; obtain ⟨q9, rfl, rfl⟩ := hR; simp only [svV]; have hBW9 : Below w.heap.size w w9 := hBW6.trans hB9) | refine XL.store tok 9 (g := g4) (o := 0) (cs := [.int .i64 0, .int .i64 0, .slice none 0 0, .slice none 0 0]) rfl rfl rfl rfl (.inr rfl) rfl rfl rfl ?_ | refine XL.store_at tok 8 (g := g5) (o := 0) (j := 0) (cs := [.int .i64 0]) rfl rfl rfl rfl rfl (Nat.le_of_ble_eq_true rfl) rfl ?_) | (refine M1 ?_; refine SC ?_) | (refine M2 ?_; first | refine SE ?_ | ((with_reducible refine atHeld ?_); refine z7 ?_)) | (refine M3 ?_; first | refine SG ?_ | refine SF ?_ | refine YF (Ev.load_loc_agg tok 0 (g := g14) (o := 0) rfl rfl rfl rfl) ?_ | refine YF (Ev.load_loc tok 1 (g := g10) (o := 0) rfl rfl rfl rfl) ?_ | refine YF (Ev.load_loc tok 2 (g := g6) (o := 0) rfl rfl rfl rfl) ?_) | (refine M4 ?_; refine SR ?_) | (refine M5 ?_; first | exact M7 | refine YM ?_ | refine YN ?_ ?_)))
        any_goals (repeat (first | exact AnyR.nil | refine AnyR.skip rfl ?_))
        all_goals
          refine XE.onlyN ?_
          repeat (first | (refine M0 ?_; first | refine SL ?_ | refine SB fun _ _ => ?_) | (refine XI.id ?_; first | refine XI.done ?_ | refine XI.one1 rfl ?_) | (refine XR'.id ?_; first | refine XR'.seq ?_ | refine XR'.region ?_ | refine XR'.block ?_ | refine XR'.skip ?_ | refine XR'.ret ?_ | refine XR'.cond_t rfl ?_ | refine XR'.cond_f rfl ?_ | refine XR'.exit ?_) | (refine M1 ?_; first | refine SC ?_ | refine SD ?_) | (refine M2 ?_; first | refine XE.nextI ?_ | refine XE.nextR ?_ | refine SE ?_))
          refine XE.endRet (i := 2) rfl rfl (fun w' S => ?_)
          refine ⟨_, rfl, .inr ⟨rfl, (w', q, some ([.int .i64 (t.plan (i : Nat)).close, .int .i64 (t.plan (i : Nat)).open_, .slice q9.A q9.n q9.c, .slice q.A q.n q.c], 0)), ⟨_, _, q9, q, rfl, hBW9.trans S.toBelow, by rw [d2]; rfl, by rw [d1]; rfl, ?_⟩, S.rebase ZZSM⟩⟩
          rw [d2]
          exact Fam.add (ks' := [D + 1, D, g10, g6, gr, g, g5, g4, g3, g2]) (hG9.on (ks := [D + 1, D, g10, g6, gr, g, g5, g4, g3, g2]) S (by repeat (first | exact List.mem_cons_self | apply List.mem_cons_of_mem)) ZZMK ZZSB (by simp) (fun x hx => hx)).fam (fun x hx => .inl (.tail _ hx))
  refine hbg.mono fun e w4 ⟨v4, e4, hz⟩ => ⟨v4, e4, ?_⟩
  rcases hz with ⟨⟨W, q, s⟩, ⟨rfl, hGW, hBW, hall⟩, S4⟩ | ⟨⟨W, q, s⟩, ⟨cs, e, q1, q2, rfl, hBW, rfl, rfl, hF⟩, S4⟩
  · refine ⟨.ready, none, _, W, by decide, S4, ?_⟩
    dsimp only [RFEnd]
    have hlo : t.lastOk = none := lastB_none.2 fun j hj => by
      have := hall j (Nat.zero_le _) hj
      cases hx : t.wit (j : Nat) with
      | none => exact absurd hx this
      | some y => rfl
    obtain ⟨d1, d2⟩ := dec_none hc hcl hlo
    repeat (first | (refine M0 ?_; first | refine SL ?_ | refine SB fun _ _ => ?_) | (refine M1 ?_; refine SC ?_) | (refine M2 ?_; refine SE ?_))
    refine XE.retM (i := 1) tok Try.results20 rfl rfl rfl (by simp only [and_self, and_true]) (fun w' S => ?_)
    exact decZ d1 d2 (hBW.trans S.toBelow)
  · refine ⟨.done, some .ret, _, W, by decide, S4, ?_⟩
    dsimp only [RFEnd]
    refine XE.blk_ret (XE.then_ret ?_)
    refine XE.retM (i := 1) tok Try.results20 rfl rfl rfl (by simp only [and_self, and_true]) (fun w' S => ?_)
    refine ⟨_, _, rfl, ⟨q1, q2, rfl, rfl⟩, fun x hx => ?_, hBW.trans S.toBelow⟩
    exact (hF.sys S ZZMK).get hx
end Go.Proofs.Ytmpaiphakjogjaa.X
/-
  The walks of the example's Task, Rules and of Awake (closure).
-/
namespace Go.Proofs.Ytmpaiphakjogjaa.X
open Go Go.RowKit Go.Proofs.Ytmpaiphakjogjaa.Bs
set_option linter.unusedVariables false
/-- a task in blocks of ok. -/
structure CtAtP (w : World) (ok : Nat → Prop) (v : CTV) (t : CTk) : Prop where
  bas : BasAtP w ok v.p t.b
  fil : IntsAt w ok v.f t.fil
  his : ∃ es : List (SV × His), ListAt hisK w ok v.h es ∧ es.map (·.2) = t.his
  river : IntsAt w ok v.r t.river
  cap : v.h.n ≤ v.h.c
theorem CtAtP.keep {w w' : World} {ok : Nat → Prop} {v : CTV} {t : CTk} (h : CtAtP w ok v t) (hk : ∀ k, ok k → w'.heap[k]? = w.heap[k]?) : CtAtP w' ok v t := by
  obtain ⟨es, h1, h2⟩ := h.his
  exact ⟨h.bas.keep hk, h.fil.keep hk, ⟨es, h1.keep hk, h2⟩, h.river.keep hk, h.cap⟩
theorem CtAtP.mono {w : World} {ok ok' : Nat → Prop} {v : CTV} {t : CTk} (h : CtAtP w ok v t) (hk : ∀ k, ok k → ok' k) : CtAtP w ok' v t := by
  obtain ⟨es, h1, h2⟩ := h.his
  exact ⟨h.bas.mono hk, h.fil.mono hk, ⟨es, h1.mono hk, h2⟩, h.river.mono hk, h.cap⟩
theorem CtAtP.to {w : World} {ok : Nat → Prop} {v : CTV} {t : CTk} {B : Nat} (h : CtAtP w ok v t) (hk : ∀ k, ok k → k < B) : CtAt w B v t := by
  obtain ⟨es, h1, h2⟩ := h.his
  exact ⟨(h.bas.mono hk).to, h.fil.mono hk, ⟨es, h1.mono hk, h2⟩, h.river.mono hk, h.cap⟩
def hCt (v : CTV) (t : CTk) : Held := ⟨fun w ok => CtAtP w ok v t, CtAtP.keep, CtAtP.mono⟩
def hBas5 (p : BV) (b : Bas) : Held := ⟨fun w ok => BasAtP w ok p b, BasAtP.keep, BasAtP.mono⟩
def Tsk5V (x : Value) (new : List Held) : Prop := ∃ v : CTV, x = ctkV v cxT ∧ new = [hCt v cxT]
def Bas5V (v : Value) (new : List Held) : Prop := ∃ p : BV, v = basV p exB ∧ new = [hBas5 p exB]
theorem Basin5_made (w : World) : Calls Try.prog 71 #[] w (Made w Bas5V) := (Basin_any w).mono fun e w' ⟨v, h1, ⟨p, h2, h3⟩, h4⟩ =>
  ⟨v, _, h1, ⟨p, h2, rfl⟩, fun x hx => by rw [List.mem_singleton] at hx; subst hx; exact h3, h4⟩
theorem task5_end {w W w' : World} {B : Nat} {L : Lo} {A A2 : Option Addr} {n c n2 c2 ga gb gh gr : Nat} (hbas : BasAtP w' (Btw w.heap.size w'.heap.size) ⟨A, n, c, A2, n2, c2⟩ exB) (S : Sys B W L w') (hB : Below w.heap.size w w')
    (h3 : (gh, cel 65 [.int .i64 10, .slice (some ⟨ga, 0, none⟩) 6 6, .int .i64 10, .slice (some ⟨gb, 0, none⟩) 6 6]) ∈ L) (h4 : (gr, cel 3 [.int .i64 60000, .int .i64 60000, .int .i64 60000, .int .i64 60000, .int .i64 60000, .int .i64 60000]) ∈ L)
    (h1 : (ga, cel 3 [.int .i64 0, .int .i64 500, .int .i64 1500, .int .i64 2500, .int .i64 1500, .int .i64 500]) ∈ L) (h2 : (gb, cel 3 (ints (List.replicate 6 0))) ∈ L)
    (b1 : w.heap.size ≤ ga) (b2 : w.heap.size ≤ gb) (b3 : w.heap.size ≤ gh) (b4 : w.heap.size ≤ gr) :
    Made w Tsk5V (.returned (.agg ⟨[.slice A n c, .int .i64 100, .int .i64 3000, .int .i64 500, .slice none 0 0, .slice none 0 0, .slice (some ⟨gh, 0, none⟩) 2 2, .slice (some ⟨gr, 0, none⟩) 6 6, .int .i64 0, .int .i64 800, .int .i64 1]⟩)) w' := by
  refine ⟨_, _, rfl, ⟨⟨⟨A, n, c, none, 0, 0⟩, ⟨none, 0, 0⟩, ⟨some ⟨gh, 0, none⟩, 2, 2⟩, ⟨some ⟨gr, 0, none⟩, 6, 6⟩⟩, rfl, rfl⟩, fun x hx => ?_, hB⟩
  rw [List.mem_singleton.1 hx]
  have k1 : IntsAt w' (Btw w.heap.size w'.heap.size) ⟨some ⟨ga, 0, none⟩, 6, 6⟩ [0, 500, 1500, 2500, 1500, 500] := ⟨ReadsP.block (S.own _ h1).2 b1 rfl, by simp⟩
  have k2 : IntsAt w' (Btw w.heap.size w'.heap.size) ⟨some ⟨gb, 0, none⟩, 6, 6⟩ [0, 0, 0, 0, 0, 0] := ⟨ReadsP.block (S.own _ h2).2 b2 rfl, by simp⟩
  have k4 : IntsAt w' (Btw w.heap.size w'.heap.size) ⟨some ⟨gr, 0, none⟩, 6, 6⟩ [60000, 60000, 60000, 60000, 60000, 60000] := ⟨ReadsP.block (S.own _ h4).2 b4 rfl, by simp⟩
  refine ⟨⟨hbas.rows, ReadsP.nil, hbas.cap, hbas.len, by simp, fun d hd => by cases hd⟩, ⟨ReadsP.nil, by simp⟩, ⟨[(⟨some ⟨ga, 0, none⟩, 6, 6⟩, ⟨10, [0, 500, 1500, 2500, 1500, 500]⟩), (⟨some ⟨gb, 0, none⟩, 6, 6⟩, ⟨10, [0, 0, 0, 0, 0, 0]⟩)], ⟨ReadsP.block (S.own _ h3).2 b3 rfl, by simp, fun a ha x hx => ?_⟩, rfl⟩, k4, by simp⟩
  simp only [List.mem_cons, List.not_mem_nil, or_false] at ha
  rcases ha with rfl | rfl
  · rw [List.mem_singleton.1 hx]; exact k1
  · rw [List.mem_singleton.1 hx]; exact k2
theorem ser_el5 : elemOk Try.prog 26 3 1 8 = true := by kernel_rfl
set_option maxHeartbeats 4000000 in
theorem Task5_made (w : World) : Calls Try.prog 29 #[] w (Made w Tsk5V) := by
  refine enter Try.func29 rfl Try.ntmps29 rfl ?_; simp only [frame, Nat.zero_add, Nat.reduceAdd]
  repeat (first | (refine M0 ?_; first | refine SL ?_ | refine SB fun _ _ => ?_) | (refine M1 ?_; refine SC ?_) | (refine M2 ?_; refine SE ?_))
  rename_i g0 hg0
  refine XL.callF (ks := []) (rs := []) (hs := []) (b0 := w.heap.size) (wE := w) Bas5V (ck rfl) rfl rfl (Fam.start (Nat.le_refl w.heap.size)) (fun _ h => by cases h) (Below.refl w.heap.size w) (fun w1 S1 _ _ => Basin5_made w1) (fun w2 x new hR hF2 hB2 hk2 => ?_) ZZHL
  obtain ⟨⟨A, n, c, A2, n2, c2⟩, rfl, rfl⟩ := hR
  simp only [basV, basC]
  repeat (first | (refine M0 ?_; first | refine SL ?_ | refine SB fun _ _ => ?_) | (refine M1 ?_; refine SC ?_) | (refine M2 ?_; refine SE ?_))
  rename_i g1 hg1
  have hz2 := hB2.size
  have l0 : g0 < w2.heap.size := hk2 g0 (by simp)
  have hle : w.heap.size ≤ w.heap.size := Nat.le_refl _
  refine XC.drawRS (trunc w w.heap.size) [(g1, cel 25 [.slice A n c, .int .i64 100, .int .i64 3000, .int .i64 500, .slice none 0 0])] [0] [1, 2, 3, 4, 5, 6, 7, 8] mixed (fun _ h => Sys.anchorT hB2 h (fun e he => by rw [List.mem_singleton.1 he]; exact .head _) (by simp) hle) rfl (by kernel_rfl) ?_
  repeat (any_goals (first | (refine M0 ?_; first | refine SL ?_ | refine SB fun _ _ => ?_ | refine Y4 (Ev.load_loc_agg tok 0 (g := g1) (o := 0) rfl rfl rfl rfl) ?_ | refine XL.buildSlice tok rfl rfl rfl rfl rfl rfl rfl rfl rfl (fun _ _ => ?_) | refine XL.makeInts (n := 6) ser_el5 (by kernel_rfl) rfl rfl rfl (by omega) (fun _ _ => ?_)) | (refine M1 ?_; refine SC ?_) | (refine M2 ?_; first | refine SE ?_ | ((with_reducible refine atHeld ?_); refine z7 ?_)) | (refine M3 ?_; first | refine SG ?_ | refine SF ?_ | refine YF (Ev.load_loc_agg tok 0 (g := g1) (o := 0) rfl rfl rfl rfl) ?_) | (refine M4 ?_; refine SR ?_) | (refine M5 ?_; first | exact M7 | refine YM ?_ | refine YN ?_ ?_)))
  any_goals (repeat (first | exact AnyR.nil | refine AnyR.skip rfl ?_))
  all_goals
    refine XE.retg tok Try.results29 rfl (by simp only [and_self, and_true]) (fun w' S => ?_)
    apply task5_end (A2 := A2) (n2 := n2) (c2 := c2) (S := S) (hB := hB2.trans S.toBelow)
    case h3 => repeat (first | exact List.mem_cons_self | apply List.mem_cons_of_mem)
    case h4 => repeat (first | exact List.mem_cons_self | apply List.mem_cons_of_mem)
    case h1 => repeat (first | exact List.mem_cons_self | apply List.mem_cons_of_mem)
    case h2 => repeat (first | exact List.mem_cons_self | apply List.mem_cons_of_mem)
    case b1 => omega
    case b2 => omega
    case b3 => omega
    case b4 => omega
    case hbas => exact (hF2.sys S (by intro e he; repeat (first | (cases he; done) | (rcases List.mem_cons.1 he with rfl | he; · first | (left; simp; done) | (right; assumption))))).get (x := hBas5 ⟨A, n, c, A2, n2, c2⟩ exB) (.head _)
set_option maxHeartbeats 4000000 in
theorem Rules5_any (w : World) : Calls Try.prog 30 #[] w fun e w' => e = .returned (ruV cxR) ∧ Below w.heap.size w w' := by
  refine enter Try.func30 rfl Try.ntmps30 rfl ?_; simp only [frame, Nat.zero_add, Nat.reduceAdd]
  repeat (first | (refine M0 ?_; first | refine SL ?_ | refine SB fun _ _ => ?_) | (refine M1 ?_; refine SC ?_) | (refine M2 ?_; refine SE ?_))
  refine XE.retg tok Try.results30 rfl (by simp only [and_self, and_true]) (fun w' S => ?_)
  exact ⟨rfl, S.toBelow⟩
end Go.Proofs.Ytmpaiphakjogjaa.X
/-
  The walk of Awake (closure).
-/
namespace Go.Proofs.Ytmpaiphakjogjaa.X
open Go Go.RowKit Go.Proofs.Ytmpaiphakjogjaa.Bs
set_option linter.unusedVariables false
theorem Fam.ct {W : World} {b0 : Nat} {ks : List Nat} {rs : List RowX} {hs : List Held} {v : CTV} {t : CTk} (h : Fam W b0 ks rs hs) (hm : hCt v t ∈ hs) : CtAt W W.heap.size v t := CtAtP.to (h.get hm) fun k hk => hk.2
set_option maxHeartbeats 4000000 in
theorem Awake5_any {w : World} : Calls Try.prog 17 #[] w fun e w' => e = .returned (.bool true) ∧ Below w.heap.size w w' := by
  obtain ⟨d1, d2, d3⟩ := cx_dec
  refine enter Try.func17 rfl Try.ntmps17 rfl ?_; simp only [frame, Nat.zero_add, Nat.reduceAdd]
  repeat (first | (refine M0 ?_; first | refine SL ?_ | refine SB fun _ _ => ?_) | (refine M1 ?_; refine SC ?_) | (refine M2 ?_; refine SE ?_))
  refine XL.callF (ks := []) (rs := []) (hs := []) (b0 := w.heap.size) (wE := w) Tsk5V (ck rfl) rfl rfl (Fam.start (Nat.le_refl w.heap.size)) (fun _ h => by cases h) (Below.refl w.heap.size w) (fun w1 S1 _ _ => Task5_made w1) (fun w1 x new hR hF1 hB1 hk1 => ?_) ZZHL
  obtain ⟨v1, rfl, rfl⟩ := hR
  repeat (first | (refine M0 ?_; first | refine SL ?_ | refine SB fun _ _ => ?_ | refine Y4 (Ev.call (f := 23) (ck rfl) rfl (fun w5 S5 => Last_any (t := cxT) (v := v1) (h0 := 0) ((hF1.sys S5 ZZHL).ct (.head _)))) ?_) | (refine M1 ?_; refine SC ?_) | (refine M2 ?_; refine SE ?_))
  rw [cx_las.1, cx_las.2]
  repeat (first | (refine M0 ?_; first | refine SL ?_ | refine SB fun _ _ => ?_) | (refine M1 ?_; refine SC ?_) | (refine M2 ?_; refine SE ?_))
  refine XL.callF (wE := w) Tsk5V (ck rfl) rfl rfl hF1 hk1 hB1 (fun w1 S1 _ _ => Task5_made w1) (fun w2 x new hR hF2 hB2 hk2 => ?_) ZZHL
  obtain ⟨v2, rfl, rfl⟩ := hR
  repeat (first | (refine M0 ?_; first | refine SL ?_ | refine SB fun _ _ => ?_ | refine Y4 (Ev.call (f := 30) (ck rfl) rfl (fun w5 S5 => Rules5_any w5)) ?_) | (refine M1 ?_; refine SC ?_) | (refine M2 ?_; refine SE ?_))
  refine XL.callF (wE := w) (DecR cxT cxR) (ck rfl) rfl rfl hF2 hk2 hB2 (fun w1 S1 hFx _ => Decide_made (t := cxT) (v := v2) (r := cxR) (hFx.ct (.head _))) (fun w3 x new hR hF3 hB3 hk3 => ?_) ZZHL
  obtain ⟨q1, q2, rfl, rfl⟩ := hR
  have hl2 : ListAt wtnK5 w3 (Free w3 w.heap.size _ []) q2 (cxT.decD cxR).later := hF3.held (hList wtnK5 q2 (cxT.decD cxR).later) (.tail _ (.head _))
  have hq2 := hl2.len (by decide)
  rw [d3] at hq2
  obtain ⟨A2, n2, c2⟩ := q2
  simp only at hq2
  subst hq2
  simp only [decV, decC, d1, d2, svV]
  repeat (first | (refine M0 ?_; first | refine SL ?_ | refine SB fun _ _ => ?_) | (refine M1 ?_; refine SC ?_) | (refine M2 ?_; refine SE ?_))
  rename_i g3 hg3
  refine XL.callF (wE := w) Tsk5V (ck rfl) rfl rfl hF3 hk3 hB3 (fun w1 S1 _ _ => Task5_made w1) (fun w4 x new hR hF4 hB4 hk4 => ?_) ZZHL
  obtain ⟨v4, rfl, rfl⟩ := hR
  have hla := fun (w5 : World) (h5 : CtAt w5 w5.heap.size v4 cxT) => Last_any (t := cxT) (v := v4) (h0 := 2) h5
  obtain ⟨z, hz⟩ : ∃ z, z = cxT.lasN 2 := ⟨_, rfl⟩
  rw [cx_las2, ← hz] at hla
  repeat (first | (refine M0 ?_; first | refine SL ?_ | refine SB fun _ _ => ?_ | refine Y4 (Ev.call (f := 23) (ck rfl) rfl (fun w5 S5 => hla w5 ((hF4.sys S5 ZZHL).ct (.head _)))) ?_) | (refine M1 ?_; refine SC ?_) | (refine M2 ?_; refine SE ?_))
  repeat (first | (refine M0 ?_; first | refine SL ?_ | refine SB fun _ _ => ?_ | refine Y4 (Ev.plnEql rfl rfl) ?_) | (refine M1 ?_; first | refine SC ?_ | refine SD ?_) | (refine M2 ?_; refine SE ?_) | (refine M3 ?_; first | refine SG ?_ | refine SF ?_ | refine YF (Ev.plnEql rfl rfl) ?_) | (refine M4 ?_; refine SR ?_) | (refine M5 ?_; first | exact M7 | refine YM ?_ | refine YN ?_ ?_))
  refine XE.retg tok Try.results17 rfl (by simp only [and_self, and_true]) (fun w' S => ?_)
  exact ⟨rfl, hB4.trans S.toBelow⟩
end Go.Proofs.Ytmpaiphakjogjaa.X
