/-
  The walk of Cheapest (runoff).
-/
import Derived.Test.YtmodjcegmgjhoaaPart5
set_option linter.unusedVariables false
set_option linter.unusedSimpArgs false
namespace Go.Proofs.Ytmodjcegmgjhoaa.Bs
open Go.Proofs.Ytmodjcegmgjhoaa.X
/-- a choice and its energy. -/
abbrev Ch := Option (Int × List Bool)
def chE (x : Ch) : Int := (x.map (·.1)).getD 0
def chL (x : Ch) : List Bool := (x.map (·.2)).getD []
def cheU (ls : Int) (best : Ch) (u : Option (Int × Int)) (f : List Bool) : Ch :=
  match u with
  | none => best
  | some y => if ls ≤ y.1 ∧ (best.isSome = true → y.2 < chE best) then some (y.2, f) else best
/-- the cheapest of the first i choices. -/
def cheB (t : RTk) (s : Sta) (j : Nat) (b : List Bool) (ls : Int) : Nat → Ch
  | 0 => none
  | i + 1 => cheU ls (cheB t s j b ls i) (t.use s.vol j b (chc t.m i)) (chc t.m i)
noncomputable def cheE (t : RTk) (s : Sta) (i : Int) (b : List Bool) (ls : Int) : Int := if askE t s i b.length ≠ 0 then askE t s i b.length else if outB ls 0 10000000 = true then 7 else if (cheB t s i.toNat b ls (2 ^ t.m)).isSome = true then 0 else 9
noncomputable def cheR (t : RTk) (s : Sta) (i : Int) (b : List Bool) (ls : Int) : Ch := if cheE t s i b ls = 0 then cheB t s i.toNat b ls (2 ^ t.m) else none
end Go.Proofs.Ytmodjcegmgjhoaa.Bs
namespace Go.Proofs.Ytmodjcegmgjhoaa.X
open Go Go.RowKit Go.Proofs.Ytmodjcegmgjhoaa.Bs
set_option linter.unusedVariables false
def CheV (t : RTk) (s : Sta) (i : Int) (b : List Bool) (ls : Int) (x : Value) (new : List Held) : Prop := ∃ q : SV, x = .tuple ⟨[svV q, .int .i64 (chE (cheR t s i b ls)), .int .i64 (cheE t s i b ls)]⟩ ∧ new = [hList boolK q (chL (cheR t s i b ls))]
theorem che_no {t : RTk} {s : Sta} {i : Int} {b : List Bool} {ls e : Int} (h : cheE t s i b ls = e) (h0 : e ≠ 0) {w w' : World} (hB : Below w.heap.size w w') : Made w (CheV t s i b ls) (.returned (.tuple ⟨[.slice none 0 0, .int .i64 0, .int .i64 e]⟩)) w' :=
  ⟨_, _, rfl, ⟨⟨none, 0, 0⟩, by unfold cheR; rw [h, if_neg h0]; rfl, rfl⟩, fun x hx => by
    rw [List.mem_singleton.1 hx]; unfold cheR; rw [h, if_neg h0]; exact ListAt.nil, hB⟩
abbrev KC (l D g14 g13 g11 g10 g9 g8 g7 g6 g5 : Nat) : List Nat := [l, D, g14, g13, g11, g10, g9, g8, g7, g6, g5]
abbrev LC (l D g14 g13 g11 g10 g9 g8 g7 g6 g5 : Nat) (r0 : Loop) (o5 : Obj) (g : Nat) (best : Ch) (q p : SV) (ls : Int) (j : Nat) (sq : SV) (s : Sta) : Lo :=
  [(l, .loop r0), (D, .deferred (some [])), (g14, cel 4 [.bool best.isSome]), (g13, cel 107 [.pointer (some ⟨g, 0, none⟩)]), (g11, cel 3 [.int .i64 (chE best)]), (g10, cel 31 [svV q]), (g9, cel 3 [.int .i64 ls]), (g8, cel 31 [svV p]), (g7, cel 3 [.int .i64 (j : Nat)]), (g6, cel 28 (staC sq s)), (g5, o5)]
abbrev oneC (tmps : Array Value) (v : Value) : Array Value := ((#[36] : Array Tmp).zip #[v]).foldl (fun s (p, y) => s.setIfInBounds p y) tmps
theorem LC_key {l D g14 g13 g11 g10 g9 g8 g7 g6 g5 : Nat} {r0 : Loop} {o5 : Obj} {g : Nat} {best : Ch} {q p : SV} {ls : Int} {j : Nat} {sq : SV} {s : Sta} {e : Nat × Obj} (he : e ∈ LC l D g14 g13 g11 g10 g9 g8 g7 g6 g5 r0 o5 g best q p ls j sq s) : e.1 ∈ KC l D g14 g13 g11 g10 g9 g8 g7 g6 g5 := by
  have := List.mem_map_of_mem (f := Prod.fst) he
  exact this
set_option maxHeartbeats 16000000 in
set_option maxRecDepth 10000 in
theorem che_round {l D g14 g13 g11 g10 g9 g8 g7 g6 g5 g gt gm j gn n : Nat} {t : RTk} {v : RTV} {r sq p q : SV} {s : Sta} {before on : List Bool} {best : Ch} {ls : Int} {w W w1 : World} {fn : FuncId} {a : Act} {assign body : Code} {o5 : Obj} {c : Code}
    (ho : RtOk t) (hx : (t.b.row 0).vol ≤ s.vol ∧ s.vol ≤ 1000000000) (hj : j < t.outer.length) (hbl : before.length = t.m) (hon : on.length = t.m)
    (hT : TskAt w w.heap.size v t) (hb : ListAt boolK w (Lt w.heap.size) p before) (hB : Below w.heap.size w W)
    (hF : Fam W w.heap.size (KC l D g14 g13 g11 g10 g9 g8 g7 g6 g5) [] [hList boolK ⟨some ⟨gn, 0, none⟩, t.m, t.m⟩ on, hPln g gt gm v r t, hList boolK q (chL best)]) (hks : ∀ x, x ∈ KC l D g14 g13 g11 g10 g9 g8 g7 g6 g5 → x < W.heap.size)
    (hc : Try.f39.body = some c) (hr : rfOf2 c = some (assign, body))
    (hf : Fits 69 [] [(13, .pointer (some ⟨g13, 0, none⟩)), (6, .pointer (some ⟨g6, 0, none⟩)), (7, .pointer (some ⟨g7, 0, none⟩)), (8, .pointer (some ⟨g8, 0, none⟩)), (9, .pointer (some ⟨g9, 0, none⟩)), (10, .pointer (some ⟨g10, 0, none⟩)), (11, .pointer (some ⟨g11, 0, none⟩)), (14, .pointer (some ⟨g14, 0, none⟩))] a)
    (S : Sys w.heap.size W (LC l D g14 g13 g11 g10 g9 g8 g7 g6 g5 (recO fn a.tmps #[36] assign body D .ready none) o5 g best q p ls j sq s) w1) :
    (Instr.yield l (#[.slice (some ⟨gn, 0, none⟩) t.m t.m] : Array Value)).run Try.prog w1 = .ok (.round l fn (oneC a.tmps (.slice (some ⟨gn, 0, none⟩) t.m t.m)) assign body) w1 ∧
    RoundIn Fence.wide n Try.prog l fn (oneC a.tmps (.slice (some ⟨gn, 0, none⟩) t.m t.m)) assign body w1 fun e1 w' => ∃ u, e1 = .returned u ∧ u = .bool true ∧
      ∃ q', Fam w' w.heap.size (KC l D g14 g13 g11 g10 g9 g8 g7 g6 g5) [] [hPln g gt gm v r t, hList boolK q' (chL (cheU ls best (t.use s.vol j before on) on))] ∧ Sys w.heap.size W (LC l D g14 g13 g11 g10 g9 g8 g7 g6 g5 (recO fn a.tmps #[36] assign body D .ready none) o5 g (cheU ls best (t.use s.vol j before on) on) q' p ls j sq s) w' := by
  have hloop := (S.own _ List.mem_cons_self).2
  obtain ⟨ks, hks1⟩ : ∃ ks, ks = KC l D g14 g13 g11 g10 g9 g8 g7 g6 g5 := ⟨_, rfl⟩
  rw [← hks1] at hF hks ⊢
  have m1 : l ∈ ks := by rw [hks1]; simp
  have m2 : D ∈ ks := by rw [hks1]; simp
  have m3 : g14 ∈ ks := by rw [hks1]; simp
  have m4 : g13 ∈ ks := by rw [hks1]; simp
  have m5 : g11 ∈ ks := by rw [hks1]; simp
  have m6 : g10 ∈ ks := by rw [hks1]; simp
  have m7 : g9 ∈ ks := by rw [hks1]; simp
  have m8 : g8 ∈ ks := by rw [hks1]; simp
  have m9 : g7 ∈ ks := by rw [hks1]; simp
  have m10 : g6 ∈ ks := by rw [hks1]; simp
  have m11 : g5 ∈ ks := by rw [hks1]; simp
  clear hks1
  have hdl := t.devs_len
  have hu := fun {L : Lo} (w5 : World) (S5 : Sys w.heap.size W L w5) (hL5 : ∀ e, e ∈ L → e.1 ∈ ks ∨ W.heap.size ≤ e.1) => use_any (x := s.vol) (i := j) (before := before) (on := on) (p := p) (q := ⟨some ⟨gn, 0, none⟩, t.m, t.m⟩) (((hF.sys S5 hL5).get (x := hPln g gt gm v r t) (.tail _ (.head _))).p.mono fun k hk => hk.1.2) (hT.sys (Sys.ofBelow (hB.trans S5.toBelow))) ho hx hj ((hb.keep fun k hk => (hB.trans S5.toBelow).block k hk).mono fun k hk => Nat.lt_of_lt_of_le hk (hB.trans S5.toBelow).size) hbl (((hF.sys S5 hL5).held (hList boolK ⟨some ⟨gn, 0, none⟩, t.m, t.m⟩ on) (.head _)).mono fun j hj => hj.2.1) hon
  refine ⟨run_yield (args := #[.slice (some ⟨gn, 0, none⟩) t.m t.m]) hloop rfl, ?_⟩
  obtain ⟨r0, hr0, hr1, hr2⟩ : ∃ r0, recO fn a.tmps #[36] assign body D .ready none = r0 ∧ r0.state = .ready ∧ r0.pending = none := ⟨_, rfl, rfl, rfl⟩
  rw [hr0] at S ⊢
  clear hloop hr0
  have hr3 : { { r0 with state := .busy } with state := .ready, pending := none } = r0 := by
    cases r0; simp only at hr1 hr2; subst hr1 hr2; rfl
  have e1 : Try.f39.body = some _ := rfl
  rw [e1] at hc
  cases hc
  simp only [rfOf2, Option.some.injEq, Prod.mk.injEq] at hr
  obtain ⟨rfl, rfl⟩ := hr
  clear e1
  refine round_of (((((((((hf.params1 rfl).hint 6 (.slice none 1 0)).hint 7 (.slice none 2 0)).hint 8 (.slice none 3 0)).hint 9 (.slice none 4 0)).hint 10 (.slice none 5 0)).hint 11 (.slice none 6 0)).hint 13 (.slice none 7 0)).hint 14 (.slice none 8 0)) S ?_
  simp only [LC, staC, svV] at hu ⊢
  repeat (first | (refine M0 ?_; first | refine O0 ?_ | refine z1 tok rfl ?_ | refine O1 rfl ?_ rfl | refine O2 rfl ?_ | refine O3 rfl ?_ rfl | refine O4 rfl rfl rfl (fun _ _ => ?_) | refine O5 tok rfl rfl rfl (fun _ _ => ?_) | refine U0 _ (U2 rfl) rfl ?_ | refine U0 _ (U3 tok rfl rfl rfl rfl rfl) rfl ?_ | refine z3 tok rfl ?_ | refine U0 _ (U4 rfl rfl) rfl ?_ | refine U0 _ (U5 rfl rfl) rfl ?_) | (refine XI.id ?_; first | refine XI.done ?_ | refine XI.one1 rfl ?_) | (refine XR'.id ?_; first | refine XR'.seq ?_ | refine XR'.region ?_ | refine XR'.block ?_ | refine XR'.skip ?_ | refine XR'.ret ?_ | refine XR'.cond_t rfl ?_ | refine XR'.cond_f rfl ?_) | (refine M1 ?_; first | refine J0 ?_ | refine J1 ?_ | refine J2 mixed rfl (by kernel_rfl) ?_ | refine J3 mixed rfl rfl (by kernel_rfl) ?_ | refine J4 ?_ | refine J5 ?_ | refine J6 ?_ | refine J7 ?_ | refine J8 rfl ?_ | refine J9 rfl ?_) | (refine M2 ?_; first | refine XE.nextI ?_ | refine XE.nextR ?_ | refine I1 ?_ | refine I2 ?_ | refine I3 ?_ | refine I4 ?_ | refine I5 ?_ | refine I6 rfl ?_ | refine I7 ?_ | refine I8 ?_ | refine z4 ?_ | refine I0 ?_))
  refine XE.begin (i := 0) rfl hr1 rfl ?_
  repeat (first | (refine M0 ?_; first | refine O0 ?_ | refine z1 tok rfl ?_ | refine O1 rfl ?_ rfl | refine O2 rfl ?_ | refine O3 rfl ?_ rfl | refine O4 rfl rfl rfl (fun _ _ => ?_) | refine O5 tok rfl rfl rfl (fun _ _ => ?_) | refine U0 _ (U2 rfl) rfl ?_ | refine U0 _ (U3 tok rfl rfl rfl rfl rfl) rfl ?_ | refine z3 tok rfl ?_ | refine U0 _ (U4 rfl rfl) rfl ?_ | refine U0 _ (U5 rfl rfl) rfl ?_) | (refine XI.id ?_; first | refine XI.done ?_ | refine XI.one1 rfl ?_) | (refine XR'.id ?_; first | refine XR'.seq ?_ | refine XR'.region ?_ | refine XR'.block ?_ | refine XR'.skip ?_ | refine XR'.ret ?_ | refine XR'.cond_t rfl ?_ | refine XR'.cond_f rfl ?_) | (refine M1 ?_; first | refine J0 ?_ | refine J1 ?_ | refine J2 mixed rfl (by kernel_rfl) ?_ | refine J3 mixed rfl rfl (by kernel_rfl) ?_ | refine J4 ?_ | refine J5 ?_ | refine J6 ?_ | refine J7 ?_ | refine J8 rfl ?_ | refine J9 rfl ?_) | (refine M2 ?_; first | refine XE.nextI ?_ | refine XE.nextR ?_ | refine I1 ?_ | refine I2 ?_ | refine I3 ?_ | refine I4 ?_ | refine I5 ?_ | refine I6 rfl ?_ | refine I7 ?_ | refine I8 ?_ | refine z4 ?_ | refine I0 ?_))
  refine XL.step _ (Ev.call (f := 71) (ck rfl) rfl (fun w5 S5 => hu w5 S5 (by intro e he; repeat (first | (cases he; done) | (rcases List.mem_cons.1 he with rfl | he; · first | (left; assumption) | (right; assumption)))))) rfl ?_
  have hend : ∀ (q' : SV) (b' : Ch) (w' : World), cheU ls best (t.use s.vol j before on) on = b' → Sys w.heap.size W (LC l D g14 g13 g11 g10 g9 g8 g7 g6 g5 r0 o5 g b' q' p ls j sq s) w' → (hList boolK q' (chL b') = hList boolK q (chL best) ∨ hList boolK q' (chL b') = hList boolK ⟨some ⟨gn, 0, none⟩, t.m, t.m⟩ on) →
      ∃ u, Ending.returned (.bool true) = .returned u ∧ u = .bool true ∧ ∃ q', Fam w' w.heap.size ks [] [hPln g gt gm v r t, hList boolK q' (chL (cheU ls best (t.use s.vol j before on) on))] ∧ Sys w.heap.size W (LC l D g14 g13 g11 g10 g9 g8 g7 g6 g5 r0 o5 g (cheU ls best (t.use s.vol j before on) on) q' p ls j sq s) w' := fun q' b' w' e1 S' h => by
    rw [e1]
    refine ⟨_, rfl, rfl, q', Fam.forget (hF.sys S' (by intro e he; repeat (first | (cases he; done) | (rcases List.mem_cons.1 he with rfl | he; · first | (left; assumption) | (right; assumption))))) (fun x hx => ?_), S'⟩
    rcases List.mem_cons.1 hx with rfl | hx
    · simp
    · rw [List.mem_singleton.1 hx]
      rcases h with h | h <;> rw [h] <;> simp
  obtain ⟨U, hU⟩ : ∃ U, U = t.use s.vol j before on := ⟨_, rfl⟩
  rw [← hU] at hend ⊢
  cases U with
  | none =>
    simp only [useV]
    repeat (first | (refine M0 ?_; first | refine O0 ?_ | refine z1 tok rfl ?_ | refine O1 rfl ?_ rfl | refine O2 rfl ?_ | refine O3 rfl ?_ rfl | refine O4 rfl rfl rfl (fun _ _ => ?_) | refine O5 tok rfl rfl rfl (fun _ _ => ?_) | refine U0 _ (U2 rfl) rfl ?_ | refine U0 _ (U3 tok rfl rfl rfl rfl rfl) rfl ?_ | refine z3 tok rfl ?_ | refine U0 _ (U4 rfl rfl) rfl ?_ | refine U0 _ (U5 rfl rfl) rfl ?_) | (refine XI.id ?_; first | refine XI.done ?_ | refine XI.one1 rfl ?_) | (refine XR'.id ?_; first | refine XR'.seq ?_ | refine XR'.region ?_ | refine XR'.block ?_ | refine XR'.skip ?_ | refine XR'.ret ?_ | refine XR'.cond_t rfl ?_ | refine XR'.cond_f rfl ?_) | (refine M1 ?_; first | refine J0 ?_ | refine J1 ?_ | refine J2 mixed rfl (by kernel_rfl) ?_ | refine J3 mixed rfl rfl (by kernel_rfl) ?_ | refine J4 ?_ | refine J5 ?_ | refine J6 ?_ | refine J7 ?_ | refine J8 rfl ?_ | refine J9 rfl ?_) | (refine M2 ?_; first | refine XE.nextI ?_ | refine XE.nextR ?_ | refine I1 ?_ | refine I2 ?_ | refine I3 ?_ | refine I4 ?_ | refine I5 ?_ | refine I6 rfl ?_ | refine I7 ?_ | refine I8 ?_ | refine z4 ?_ | refine I0 ?_))
    refine XE.endR (i := 0) rfl rfl (fun w' S' => ?_)
    simp only [hr3] at S'
    exact hend q best w' rfl S' (.inl rfl)
  | some y =>
  obtain ⟨of, en⟩ := y
  have hE : cheU ls best (some (of, en)) on = if ls ≤ of ∧ (best.isSome = true → en < chE best) then some (en, on) else best := rfl
  simp only [useV]
  repeat (first | (refine M0 ?_; first | refine O0 ?_ | refine z1 tok rfl ?_ | refine O1 rfl ?_ rfl | refine O2 rfl ?_ | refine O3 rfl ?_ rfl | refine O4 rfl rfl rfl (fun _ _ => ?_) | refine O5 tok rfl rfl rfl (fun _ _ => ?_) | refine U0 _ (U2 rfl) rfl ?_ | refine U0 _ (U3 tok rfl rfl rfl rfl rfl) rfl ?_ | refine z3 tok rfl ?_ | refine U0 _ (U4 rfl rfl) rfl ?_ | refine U0 _ (U5 rfl rfl) rfl ?_) | (refine XI.id ?_; first | refine XI.done ?_ | refine XI.one1 rfl ?_) | (refine XR'.id ?_; first | refine XR'.seq ?_ | refine XR'.region ?_ | refine XR'.block ?_ | refine XR'.skip ?_ | refine XR'.ret ?_ | refine XR'.cond_t rfl ?_ | refine XR'.cond_f rfl ?_) | (refine M1 ?_; first | refine J0 ?_ | refine J1 ?_ | refine J2 mixed rfl (by kernel_rfl) ?_ | refine J3 mixed rfl rfl (by kernel_rfl) ?_ | refine J4 ?_ | refine J5 ?_ | refine J6 ?_ | refine J7 ?_ | refine J8 rfl ?_ | refine J9 rfl ?_) | (refine M2 ?_; first | refine XE.nextI ?_ | refine XE.nextR ?_ | refine I1 ?_ | refine I2 ?_ | refine I3 ?_ | refine I4 ?_ | refine I5 ?_ | refine I6 rfl ?_ | refine I7 ?_ | refine I8 ?_ | refine z4 ?_ | refine I0 ?_))
  by_cases h1 : ls ≤ of
  rotate_left
  · rw [show decide (ls ≤ of) = false from decide_eq_false h1]
    rw [if_neg (fun h => h1 h.1)] at hE
    repeat (first | (refine M0 ?_; first | refine O0 ?_ | refine z1 tok rfl ?_ | refine O1 rfl ?_ rfl | refine O2 rfl ?_ | refine O3 rfl ?_ rfl | refine O4 rfl rfl rfl (fun _ _ => ?_) | refine O5 tok rfl rfl rfl (fun _ _ => ?_) | refine U0 _ (U2 rfl) rfl ?_ | refine U0 _ (U3 tok rfl rfl rfl rfl rfl) rfl ?_ | refine z3 tok rfl ?_ | refine U0 _ (U4 rfl rfl) rfl ?_ | refine U0 _ (U5 rfl rfl) rfl ?_) | (refine XI.id ?_; first | refine XI.done ?_ | refine XI.one1 rfl ?_) | (refine XR'.id ?_; first | refine XR'.seq ?_ | refine XR'.region ?_ | refine XR'.block ?_ | refine XR'.skip ?_ | refine XR'.ret ?_ | refine XR'.cond_t rfl ?_ | refine XR'.cond_f rfl ?_) | (refine M1 ?_; first | refine J0 ?_ | refine J1 ?_ | refine J2 mixed rfl (by kernel_rfl) ?_ | refine J3 mixed rfl rfl (by kernel_rfl) ?_ | refine J4 ?_ | refine J5 ?_ | refine J6 ?_ | refine J7 ?_ | refine J8 rfl ?_ | refine J9 rfl ?_) | (refine M2 ?_; first | refine XE.nextI ?_ | refine XE.nextR ?_ | refine I1 ?_ | refine I2 ?_ | refine I3 ?_ | refine I4 ?_ | refine I5 ?_ | refine I6 rfl ?_ | refine I7 ?_ | refine I8 ?_ | refine z4 ?_ | refine I0 ?_))
    refine XE.endR (i := 0) rfl rfl (fun w' S' => ?_)
    simp only [hr3] at S'
    exact hend q best w' hE S' (.inl rfl)
  rw [show decide (ls ≤ of) = true from decide_eq_true h1]
  obtain ⟨bs, hbs⟩ : ∃ bs, bs = best.isSome := ⟨_, rfl⟩
  obtain ⟨e0, he0⟩ : ∃ e0, e0 = chE best := ⟨_, rfl⟩
  rw [← hbs, ← he0] at hE ⊢
  cases bs with
  | false =>
    rw [if_pos ⟨h1, fun h => by cases h⟩] at hE
    repeat (first | (refine M0 ?_; first | refine O0 ?_ | refine z1 tok rfl ?_ | refine O1 rfl ?_ rfl | refine O2 rfl ?_ | refine O3 rfl ?_ rfl | refine O4 rfl rfl rfl (fun _ _ => ?_) | refine O5 tok rfl rfl rfl (fun _ _ => ?_) | refine U0 _ (U2 rfl) rfl ?_ | refine U0 _ (U3 tok rfl rfl rfl rfl rfl) rfl ?_ | refine z3 tok rfl ?_ | refine U0 _ (U4 rfl rfl) rfl ?_ | refine U0 _ (U5 rfl rfl) rfl ?_) | (refine XI.id ?_; first | refine XI.done ?_ | refine XI.one1 rfl ?_) | (refine XR'.id ?_; first | refine XR'.seq ?_ | refine XR'.region ?_ | refine XR'.block ?_ | refine XR'.skip ?_ | refine XR'.ret ?_ | refine XR'.cond_t rfl ?_ | refine XR'.cond_f rfl ?_) | (refine M1 ?_; first | refine J0 ?_ | refine J1 ?_ | refine J2 mixed rfl (by kernel_rfl) ?_ | refine J3 mixed rfl rfl (by kernel_rfl) ?_ | refine J4 ?_ | refine J5 ?_ | refine J6 ?_ | refine J7 ?_ | refine J8 rfl ?_ | refine J9 rfl ?_) | (refine M2 ?_; first | refine XE.nextI ?_ | refine XE.nextR ?_ | refine I1 ?_ | refine I2 ?_ | refine I3 ?_ | refine I4 ?_ | refine I5 ?_ | refine I6 rfl ?_ | refine I7 ?_ | refine I8 ?_ | refine z4 ?_ | refine I0 ?_))
    refine XE.endR (i := 0) rfl rfl (fun w' S' => ?_)
    simp only [hr3] at S'
    exact hend ⟨some ⟨gn, 0, none⟩, t.m, t.m⟩ (some (en, on)) w' hE S' (.inr rfl)
  | true =>
  by_cases h2 : en < e0
  · rw [if_pos ⟨h1, fun _ => h2⟩] at hE
    repeat (first | (refine M0 ?_; first | refine O0 ?_ | refine z1 tok rfl ?_ | refine O1 rfl ?_ rfl | refine O2 rfl ?_ | refine O3 rfl ?_ rfl | refine O4 rfl rfl rfl (fun _ _ => ?_) | refine O5 tok rfl rfl rfl (fun _ _ => ?_) | refine U0 _ (U2 rfl) rfl ?_ | refine U0 _ (U3 tok rfl rfl rfl rfl rfl) rfl ?_ | refine z3 tok rfl ?_ | refine U0 _ (U4 rfl rfl) rfl ?_ | refine U0 _ (U5 rfl rfl) rfl ?_) | (refine XI.id ?_; first | refine XI.done ?_ | refine XI.one1 rfl ?_) | (refine XR'.id ?_; first | refine XR'.seq ?_ | refine XR'.region ?_ | refine XR'.block ?_ | refine XR'.skip ?_ | refine XR'.ret ?_ | refine XR'.cond_t rfl ?_ | refine XR'.cond_f rfl ?_) | (refine M1 ?_; first | refine J0 ?_ | refine J1 ?_ | refine J2 mixed rfl (by kernel_rfl) ?_ | refine J3 mixed rfl rfl (by kernel_rfl) ?_ | refine J4 ?_ | refine J5 ?_ | refine J6 ?_ | refine J7 ?_ | refine J8 rfl ?_ | refine J9 rfl ?_) | (refine M2 ?_; first | refine XE.nextI ?_ | refine XE.nextR ?_ | refine I1 ?_ | refine I2 ?_ | refine I3 ?_ | refine I4 ?_ | refine I5 ?_ | refine I6 rfl ?_ | refine I7 ?_ | refine I8 ?_ | refine z4 ?_ | refine I0 ?_))
    rw [show decide (en < e0) = true from decide_eq_true h2]
    repeat (first | (refine M0 ?_; first | refine O0 ?_ | refine z1 tok rfl ?_ | refine O1 rfl ?_ rfl | refine O2 rfl ?_ | refine O3 rfl ?_ rfl | refine O4 rfl rfl rfl (fun _ _ => ?_) | refine O5 tok rfl rfl rfl (fun _ _ => ?_) | refine U0 _ (U2 rfl) rfl ?_ | refine U0 _ (U3 tok rfl rfl rfl rfl rfl) rfl ?_ | refine z3 tok rfl ?_ | refine U0 _ (U4 rfl rfl) rfl ?_ | refine U0 _ (U5 rfl rfl) rfl ?_) | (refine XI.id ?_; first | refine XI.done ?_ | refine XI.one1 rfl ?_) | (refine XR'.id ?_; first | refine XR'.seq ?_ | refine XR'.region ?_ | refine XR'.block ?_ | refine XR'.skip ?_ | refine XR'.ret ?_ | refine XR'.cond_t rfl ?_ | refine XR'.cond_f rfl ?_) | (refine M1 ?_; first | refine J0 ?_ | refine J1 ?_ | refine J2 mixed rfl (by kernel_rfl) ?_ | refine J3 mixed rfl rfl (by kernel_rfl) ?_ | refine J4 ?_ | refine J5 ?_ | refine J6 ?_ | refine J7 ?_ | refine J8 rfl ?_ | refine J9 rfl ?_) | (refine M2 ?_; first | refine XE.nextI ?_ | refine XE.nextR ?_ | refine I1 ?_ | refine I2 ?_ | refine I3 ?_ | refine I4 ?_ | refine I5 ?_ | refine I6 rfl ?_ | refine I7 ?_ | refine I8 ?_ | refine z4 ?_ | refine I0 ?_))
    refine XE.endR (i := 0) rfl rfl (fun w' S' => ?_)
    simp only [hr3] at S'
    exact hend ⟨some ⟨gn, 0, none⟩, t.m, t.m⟩ (some (en, on)) w' hE S' (.inr rfl)
  · rw [if_neg (fun h => h2 (h.2 rfl))] at hE
    repeat (first | (refine M0 ?_; first | refine O0 ?_ | refine z1 tok rfl ?_ | refine O1 rfl ?_ rfl | refine O2 rfl ?_ | refine O3 rfl ?_ rfl | refine O4 rfl rfl rfl (fun _ _ => ?_) | refine O5 tok rfl rfl rfl (fun _ _ => ?_) | refine U0 _ (U2 rfl) rfl ?_ | refine U0 _ (U3 tok rfl rfl rfl rfl rfl) rfl ?_ | refine z3 tok rfl ?_ | refine U0 _ (U4 rfl rfl) rfl ?_ | refine U0 _ (U5 rfl rfl) rfl ?_) | (refine XI.id ?_; first | refine XI.done ?_ | refine XI.one1 rfl ?_) | (refine XR'.id ?_; first | refine XR'.seq ?_ | refine XR'.region ?_ | refine XR'.block ?_ | refine XR'.skip ?_ | refine XR'.ret ?_ | refine XR'.cond_t rfl ?_ | refine XR'.cond_f rfl ?_) | (refine M1 ?_; first | refine J0 ?_ | refine J1 ?_ | refine J2 mixed rfl (by kernel_rfl) ?_ | refine J3 mixed rfl rfl (by kernel_rfl) ?_ | refine J4 ?_ | refine J5 ?_ | refine J6 ?_ | refine J7 ?_ | refine J8 rfl ?_ | refine J9 rfl ?_) | (refine M2 ?_; first | refine XE.nextI ?_ | refine XE.nextR ?_ | refine I1 ?_ | refine I2 ?_ | refine I3 ?_ | refine I4 ?_ | refine I5 ?_ | refine I6 rfl ?_ | refine I7 ?_ | refine I8 ?_ | refine z4 ?_ | refine I0 ?_))
    rw [show decide (en < e0) = false from decide_eq_false h2]
    repeat (first | (refine M0 ?_; first | refine O0 ?_ | refine z1 tok rfl ?_ | refine O1 rfl ?_ rfl | refine O2 rfl ?_ | refine O3 rfl ?_ rfl | refine O4 rfl rfl rfl (fun _ _ => ?_) | refine O5 tok rfl rfl rfl (fun _ _ => ?_) | refine U0 _ (U2 rfl) rfl ?_ | refine U0 _ (U3 tok rfl rfl rfl rfl rfl) rfl ?_ | refine z3 tok rfl ?_ | refine U0 _ (U4 rfl rfl) rfl ?_ | refine U0 _ (U5 rfl rfl) rfl ?_) | (refine XI.id ?_; first | refine XI.done ?_ | refine XI.one1 rfl ?_) | (refine XR'.id ?_; first | refine XR'.seq ?_ | refine XR'.region ?_ | refine XR'.block ?_ | refine XR'.skip ?_ | refine XR'.ret ?_ | refine XR'.cond_t rfl ?_ | refine XR'.cond_f rfl ?_) | (refine M1 ?_; first | refine J0 ?_ | refine J1 ?_ | refine J2 mixed rfl (by kernel_rfl) ?_ | refine J3 mixed rfl rfl (by kernel_rfl) ?_ | refine J4 ?_ | refine J5 ?_ | refine J6 ?_ | refine J7 ?_ | refine J8 rfl ?_ | refine J9 rfl ?_) | (refine M2 ?_; first | refine XE.nextI ?_ | refine XE.nextR ?_ | refine I1 ?_ | refine I2 ?_ | refine I3 ?_ | refine I4 ?_ | refine I5 ?_ | refine I6 rfl ?_ | refine I7 ?_ | refine I8 ?_ | refine z4 ?_ | refine I0 ?_))
    refine XE.endR (i := 0) rfl rfl (fun w' S' => ?_)
    simp only [hr3] at S'
    refine hend q best w' hE ?_ (.inl rfl)
    simp only [LC, staC, svV]
    rw [← hbs, ← he0]
    exact S'
end Go.Proofs.Ytmodjcegmgjhoaa.X
/-
  The walk of Cheapest (runoff).
-/
namespace Go.Proofs.Ytmodjcegmgjhoaa.X
open Go Go.RowKit Go.Proofs.Ytmodjcegmgjhoaa.Bs
set_option linter.unusedVariables false
def CheJ (v : RTV) (r : SV) (t : RTk) (s : Sta) (j : Nat) (b : List Bool) (ls : Int) (g gt gm : Nat) (ks : List Nat) (w : World) (i : Nat) (z : World × SV × Ch) : Prop :=
  Below w.heap.size w z.1 ∧ Fam z.1 w.heap.size ks [] [hPln g gt gm v r t, hList boolK z.2.1 (chL z.2.2)] ∧ (∀ x, x ∈ ks → x < z.1.heap.size) ∧ z.2.2 = cheB t s j b ls i
theorem cheL_nil : ∀ (W : World) (ok : Nat → Prop), (hList boolK ⟨none, 0, 0⟩ (chL none)).p W ok := fun W ok => ListAt.nil
set_option maxHeartbeats 16000000 in
theorem Cheapest_made {v : RTV} {t : RTk} {sq p : SV} {s : Sta} {i ls : Int} {b : List Bool} {w : World} (ht : TskAt w w.heap.size v t) (hn : t.slu.length + t.pmp.length ≤ 5000000) (hq : IntsAt w (Lt w.heap.size) sq s.fil) (hb : ListAt boolK w (Lt w.heap.size) p b) :
    Calls Try.prog 39 #[tskV v t, staV sq s, .int .i64 i, svV p, .int .i64 ls] w (Made w (CheV t s i b ls)) := by
  have hpn := hb.len (by decide)
  have hb0 := hb
  have hask := fun (w5 : World) (hB : Below w.heap.size w w5) => asked_made (v := v) (t := t) (w := w5) (sq := sq) (s := s) (i := i) (p := p) (n := b.length) (ht.sys (Sys.ofBelow hB)) hn ((hq.keep fun k hk => hB.block k hk).mono fun k hk => Nat.lt_of_lt_of_le hk hB.size) hpn
  have hE : cheE t s i b ls = if askE t s i b.length ≠ 0 then askE t s i b.length else if outB ls 0 10000000 = true then 7 else if (cheB t s i.toNat b ls (2 ^ t.m)).isSome = true then 0 else 9 := rfl
  obtain ⟨Ap, np, cp⟩ := p
  simp only at hpn
  subst hpn
  simp only [tskV, tskC, svV, staV, staC] at hask ⊢
  refine enterM Try.func39 rfl Try.ntmps39 rfl ?_; simp only [frame, Nat.zero_add, Nat.reduceAdd]
  repeat (first | (refine M0 ?_; first | refine O0 ?_ | refine z1 tok rfl ?_ | refine O1 rfl ?_ rfl | refine O2 rfl ?_ | refine O3 rfl ?_ rfl | refine O4 rfl rfl rfl (fun _ _ => ?_) | refine O5 tok rfl rfl rfl (fun _ _ => ?_) | refine U0 _ (U2 rfl) rfl ?_ | refine U0 _ (U3 tok rfl rfl rfl rfl rfl) rfl ?_ | refine z3 tok rfl ?_ | refine U0 _ (U4 rfl rfl) rfl ?_ | refine U0 _ (U5 rfl rfl) rfl ?_) | (refine M1 ?_; first | refine J0 ?_ | refine J1 ?_ | refine J4 ?_ | refine J5 ?_ | refine J6 ?_ | refine J7 ?_ | refine J8 rfl ?_ | refine J9 rfl ?_) | (refine M2 ?_; first | refine I0 ?_ | refine I1 ?_ | refine I2 ?_ | refine I3 ?_ | refine I4 ?_ | refine I5 ?_ | refine I6 rfl ?_ | refine I7 ?_ | refine I8 ?_ | refine z4 ?_) | (refine M3 ?_; first | refine O6 ?_ | refine z2 tok rfl ?_ | refine O8 rfl ?_ | refine O7 rfl ?_ rfl | refine O9 rfl ?_ rfl | refine U1 _ (U4 rfl rfl) rfl ?_ | refine U1 _ (U5 rfl rfl) rfl ?_ | refine U1 _ (U2 rfl) rfl ?_ | refine U1 _ (U3 tok rfl rfl rfl rfl rfl) rfl ?_) | (refine M4 ?_; first | refine M6 ?_ | refine U6 rfl (by kernel_rfl) ?_ | refine U7 (by kernel_rfl) ?_) | (refine M5 ?_; first | exact M7 | refine U8 rfl ?_ | refine U9 rfl rfl ?_ ?_))
  rename_i g5 hg5 g6 hg6 g7 hg7 g8 hg8 g9 hg9 g10 hg10 g11 hg11
  refine XL.rebase (List.Sublist.refl _) (fun W0 S0 => ?_)
  refine XL.callF (ks := [g11, g10, g9, g8, g7, g6, g5]) (rs := []) (hs := []) (b0 := w.heap.size) (wE := w) (AskV v t s i b.length) (ck rfl) rfl rfl (Fam.start S0.size) (fun k hk => S0.keyLt k hk) S0.toBelow (fun w1 S1 _ hB1 => hask w1 hB1) (fun w2 x new hR hF2 hB2 hk2 => ?_) (by intro e he; repeat (first | (cases he; done) | (rcases List.mem_cons.1 he with rfl | he; · first | (right; assumption) | (left; simp <;> fail))))
  rcases hR with ⟨h0, rfl, rfl⟩ | ⟨h0, g, gt, gm, r, rfl, rfl⟩
  · rw [if_pos h0] at hE
    repeat (first | (refine M0 ?_; first | refine O0 ?_ | refine z1 tok rfl ?_ | refine O1 rfl ?_ rfl | refine O2 rfl ?_ | refine O3 rfl ?_ rfl | refine O4 rfl rfl rfl (fun _ _ => ?_) | refine O5 tok rfl rfl rfl (fun _ _ => ?_) | refine U0 _ (U2 rfl) rfl ?_ | refine U0 _ (U3 tok rfl rfl rfl rfl rfl) rfl ?_ | refine z3 tok rfl ?_ | refine U0 _ (U4 rfl rfl) rfl ?_ | refine U0 _ (U5 rfl rfl) rfl ?_) | (refine M1 ?_; first | refine J0 ?_ | refine J1 ?_ | refine J4 ?_ | refine J5 ?_ | refine J6 ?_ | refine J7 ?_ | refine J8 rfl ?_ | refine J9 rfl ?_) | (refine M2 ?_; first | refine I0 ?_ | refine I1 ?_ | refine I2 ?_ | refine I3 ?_ | refine I4 ?_ | refine I5 ?_ | refine I6 rfl ?_ | refine I7 ?_ | refine I8 ?_ | refine z4 ?_) | (refine M3 ?_; first | refine O6 ?_ | refine z2 tok rfl ?_ | refine O8 rfl ?_ | refine O7 rfl ?_ rfl | refine O9 rfl ?_ rfl | refine U1 _ (U4 rfl rfl) rfl ?_ | refine U1 _ (U5 rfl rfl) rfl ?_ | refine U1 _ (U2 rfl) rfl ?_ | refine U1 _ (U3 tok rfl rfl rfl rfl rfl) rfl ?_) | (refine M4 ?_; first | refine M6 ?_ | refine U6 rfl (by kernel_rfl) ?_ | refine U7 (by kernel_rfl) ?_) | (refine M5 ?_; first | exact M7 | refine U8 rfl ?_ | refine U9 rfl rfl ?_ ?_))
    refine XC.cond _ rfl (fun h1 => ?_) (fun h1 => absurd (by simpa using h1) h0)
    repeat (first | (refine M0 ?_; first | refine O0 ?_ | refine z1 tok rfl ?_ | refine O1 rfl ?_ rfl | refine O2 rfl ?_ | refine O3 rfl ?_ rfl | refine O4 rfl rfl rfl (fun _ _ => ?_) | refine O5 tok rfl rfl rfl (fun _ _ => ?_) | refine U0 _ (U2 rfl) rfl ?_ | refine U0 _ (U3 tok rfl rfl rfl rfl rfl) rfl ?_ | refine z3 tok rfl ?_ | refine U0 _ (U4 rfl rfl) rfl ?_ | refine U0 _ (U5 rfl rfl) rfl ?_) | (refine M1 ?_; first | refine J0 ?_ | refine J1 ?_ | refine J4 ?_ | refine J5 ?_ | refine J6 ?_ | refine J7 ?_ | refine J8 rfl ?_ | refine J9 rfl ?_) | (refine M2 ?_; first | refine I0 ?_ | refine I1 ?_ | refine I2 ?_ | refine I3 ?_ | refine I4 ?_ | refine I5 ?_ | refine I6 rfl ?_ | refine I7 ?_ | refine I8 ?_ | refine z4 ?_) | (refine M3 ?_; first | refine O6 ?_ | refine z2 tok rfl ?_ | refine O8 rfl ?_ | refine O7 rfl ?_ rfl | refine O9 rfl ?_ rfl | refine U1 _ (U4 rfl rfl) rfl ?_ | refine U1 _ (U5 rfl rfl) rfl ?_ | refine U1 _ (U2 rfl) rfl ?_ | refine U1 _ (U3 tok rfl rfl rfl rfl rfl) rfl ?_) | (refine M4 ?_; first | refine M6 ?_ | refine U6 rfl (by kernel_rfl) ?_ | refine U7 (by kernel_rfl) ?_) | (refine M5 ?_; first | exact M7 | refine U8 rfl ?_ | refine U9 rfl rfl ?_ ?_))
    refine XE.retM0 tok Try.results39 rfl (by simp only [and_self, and_true]) (fun w' S => ?_)
    exact che_no hE h0 (hB2.trans S.toBelow)
  rw [if_neg (by simp [h0])] at hE
  obtain ⟨hr0, hst, hi, hbl⟩ := askE_0 h0
  have ho := rtOk_of hr0
  obtain ⟨j, rfl⟩ : ∃ j : Nat, i = j := ⟨i.toNat, by omega⟩
  have hj : j < t.outer.length := by omega
  rw [Int.toNat_natCast] at hE
  have hp2 : Pln0 w2 _ g gt gm v r t := hF2.held (hPln g gt gm v r t) (.head _)
  obtain ⟨hlg, hc⟩ := plnCell hp2.p
  have hn15 : r.n = t.m := hp2.p.all.len (by decide)
  have c15 : w2.cell? ⟨g, 15, none⟩ = some (.slice r.A r.n r.c) := hc 15 _ rfl
  have hge := hp2.p.kg.1
  have hm4 : t.m ≤ 4 := by have := t.devs_len; unfold RTk.many at this; have := ho.s2; have := ho.p2; unfold RTk.m; omega
  cases h3 : outB ls 0 10000000 with
  | true =>
    rw [h3, if_pos rfl] at hE
    repeat (first | (refine M0 ?_; first | refine O0 ?_ | refine z1 tok rfl ?_ | refine O1 rfl ?_ rfl | refine O2 rfl ?_ | refine O3 rfl ?_ rfl | refine U0 _ (Ev.call (f := 46) (ck rfl) rfl (fun w5 S5 => outP h3 w5)) rfl ?_ | refine O4 rfl rfl rfl (fun _ _ => ?_) | refine O5 tok rfl rfl rfl (fun _ _ => ?_) | refine U0 _ (U2 rfl) rfl ?_ | refine U0 _ (U3 tok rfl rfl rfl rfl rfl) rfl ?_ | refine z3 tok rfl ?_ | refine U0 _ (U4 rfl rfl) rfl ?_ | refine U0 _ (U5 rfl rfl) rfl ?_) | (refine M1 ?_; first | refine J0 ?_ | refine J1 ?_ | refine J4 ?_ | refine J5 ?_ | refine J6 ?_ | refine J7 ?_ | refine J8 rfl ?_ | refine J9 rfl ?_) | (refine M2 ?_; first | refine I0 ?_ | refine I1 ?_ | refine I2 ?_ | refine I3 ?_ | refine I4 ?_ | refine I5 ?_ | refine I6 rfl ?_ | refine I7 ?_ | refine I8 ?_ | refine z4 ?_) | (refine M3 ?_; first | refine O6 ?_ | refine z2 tok rfl ?_ | refine O8 rfl ?_ | refine O7 rfl ?_ rfl | refine O9 rfl ?_ rfl | refine U1 _ (Ev.call (f := 46) (ck rfl) rfl (fun w5 S5 => outP h3 w5)) rfl ?_ | refine U1 _ (U4 rfl rfl) rfl ?_ | refine U1 _ (U5 rfl rfl) rfl ?_ | refine U1 _ (U2 rfl) rfl ?_ | refine U1 _ (U3 tok rfl rfl rfl rfl rfl) rfl ?_) | (refine M4 ?_; first | refine M6 ?_ | refine U6 rfl (by kernel_rfl) ?_ | refine U7 (by kernel_rfl) ?_) | (refine M5 ?_; first | exact M7 | refine U8 rfl ?_ | refine U9 rfl rfl ?_ ?_))
    refine XE.retM0 tok Try.results39 rfl (by simp only [and_self, and_true]) (fun w' S => ?_)
    exact che_no hE (by decide) (hB2.trans S.toBelow)
  | false =>
  rw [h3, if_neg (by decide)] at hE
  repeat (first | (refine M0 ?_; first | refine O0 ?_ | refine z1 tok rfl ?_ | refine O1 rfl ?_ rfl | refine O2 rfl ?_ | refine O3 rfl ?_ rfl | refine U0 _ (Ev.call (f := 46) (ck rfl) rfl (fun w5 S5 => outP h3 w5)) rfl ?_ | refine O4 rfl rfl rfl (fun _ _ => ?_) | refine O5 tok rfl rfl rfl (fun _ _ => ?_) | refine U0 _ (U2 rfl) rfl ?_ | refine U0 _ (U3 tok rfl rfl rfl rfl rfl) rfl ?_ | refine z3 tok rfl ?_ | refine U0 _ (U4 rfl rfl) rfl ?_ | refine U0 _ (U5 rfl rfl) rfl ?_) | (refine M1 ?_; first | refine J0 ?_ | refine J1 ?_ | refine J4 ?_ | refine J5 ?_ | refine J6 ?_ | refine J7 ?_ | refine J8 rfl ?_ | refine J9 rfl ?_) | (refine M2 ?_; first | refine I0 ?_ | refine I1 ?_ | refine I2 ?_ | refine I3 ?_ | refine I4 ?_ | refine I5 ?_ | refine I6 rfl ?_ | refine I7 ?_ | refine I8 ?_ | refine z4 ?_) | (refine M3 ?_; first | refine O6 ?_ | refine z2 tok rfl ?_ | refine O8 rfl ?_ | refine O7 rfl ?_ rfl | refine O9 rfl ?_ rfl | refine U1 _ (Ev.call (f := 46) (ck rfl) rfl (fun w5 S5 => outP h3 w5)) rfl ?_ | refine U1 _ (U4 rfl rfl) rfl ?_ | refine U1 _ (U5 rfl rfl) rfl ?_ | refine U1 _ (U2 rfl) rfl ?_ | refine U1 _ (U3 tok rfl rfl rfl rfl rfl) rfl ?_) | (refine M4 ?_; first | refine M6 ?_ | refine U6 rfl (by kernel_rfl) ?_ | refine U7 (by kernel_rfl) ?_) | (refine M5 ?_; first | exact M7 | refine U8 rfl ?_ | refine U9 rfl rfl ?_ ?_))
  rename_i g13 hg13 g14 hg14
  refine XL.callr (fst := []) (cap := []) (fun w1 x w2 => ∃ gp, x = .func (.func 101) #[] #[.pointer (some ⟨gp, 0, none⟩)] ∧ Sys w1.heap.size w1 [(gp, cel 107 [.pointer (some ⟨g, 0, none⟩)])] w2) (ck rfl) rfl rfl rfl (fun w1 S1 => choices_any (g := g) (w := w1)) (fun w1 x w3 S1 hR => ?_)
  obtain ⟨gp, rfl, S2⟩ := hR
  refine ⟨_, w3, (S1.join S2 (List.Sublist.refl _)).rebase (List.sublist_cons_self _ _), ?_⟩
  have hB3 : Below w.heap.size w w3 := hB2.trans (S1.toBelow.trans (S2.toBelow.mono (Nat.le_trans hB2.size S1.size)))
  have hgp0 : w2.heap.size ≤ gp := Nat.le_trans S1.size (S2.own _ (.head _)).1
  have hgpL : ∀ e, e ∈ [(g14, (0 : Nat)), (g13, 0), (g11, 0), (g10, 0), (g9, 0), (g8, 0), (g7, 0), (g6, 0), (g5, 0)] → e.1 < gp := by
    have h1 := (S2.own _ (.head _)).1
    have h2 := S1.keyLt
    intro e he
    have h3 := h2 e.1 (by simp only [List.mem_cons, List.not_mem_nil, or_false] at he; rcases he with rfl | rfl | rfl | rfl | rfl | rfl | rfl | rfl | rfl <;> simp)
    omega
  have hgpc : w3.cell? ⟨gp, 0, none⟩ = some (.pointer (some ⟨g, 0, none⟩)) := by
    have := (S2.own _ (.head _)).2
    simp [World.cell?, this]
  have hgpl : gp < w3.heap.size := S2.lt (.head _)
  have hgL : ∀ e, e ∈ [(g14, (0 : Nat)), (g13, 0), (g11, 0), (g10, 0), (g9, 0), (g8, 0), (g7, 0), (g6, 0), (g5, 0)] → e.1 ≠ g := by
    intro e he e1
    have hlg' : g < w2.heap.size := hlg
    simp only [List.mem_cons, List.not_mem_nil, or_false] at he
    rcases he with rfl | rfl | h
    · simp only at e1; omega
    · simp only at e1; omega
    · refine hge.2.2.1 (List.mem_append_right _ ?_)
      rw [← e1]
      rcases h with rfl | rfl | rfl | rfl | rfl | rfl | rfl <;> simp
  have hF3 : Fam w3 w.heap.size [g14, g13, g11, g10, g9, g8, g7, g6, g5] [] [hPln g gt gm v r t] := ((hF2.call S1 S2.toBelow (by intro e he; repeat (first | (cases he; done) | (rcases List.mem_cons.1 he with rfl | he; · first | (right; assumption) | (left; simp <;> fail)))) hk2 (new := []) (fun x hx => by cases hx)).1).add fun k hk => by
    left
    refine List.mem_append_left _ ?_
    simp only [List.mem_cons, List.not_mem_nil, or_false] at hk
    rcases hk with rfl | rfl | rfl | rfl | rfl | rfl | rfl | rfl | rfl <;> simp
  have hks3 : ∀ x, x ∈ [g14, g13, g11, g10, g9, g8, g7, g6, g5] → x < w3.heap.size := fun x hx => by
    have := S1.keyLt x (by simp only [List.mem_cons, List.not_mem_nil, or_false] at hx; rcases hx with rfl | rfl | rfl | rfl | rfl | rfl | rfl | rfl | rfl <;> simp)
    exact Nat.lt_of_lt_of_le this S2.size
  have c15' : w3.cell? ⟨g, 15, none⟩ = some (.slice r.A r.n r.c) := by
    obtain ⟨hlg3, hc3⟩ := plnCell (hF3.held (hPln g gt gm v r t) (.head _)).p
    exact hc3 15 _ rfl
  have hlg3 : g < w3.heap.size := Nat.lt_of_lt_of_le hlg (Nat.le_trans S1.size S2.size)
  rw [hn15] at c15'
  clear S1 S2
  repeat (first | (refine M0 ?_; first | refine O0 ?_ | refine z1 tok rfl ?_ | refine O1 rfl ?_ rfl | refine O2 rfl ?_ | refine O3 rfl ?_ rfl | refine O4 rfl rfl rfl (fun _ _ => ?_) | refine O5 tok rfl rfl rfl (fun _ _ => ?_) | refine U0 _ (U2 rfl) rfl ?_ | refine U0 _ (U3 tok rfl rfl rfl rfl rfl) rfl ?_ | refine z3 tok rfl ?_ | refine U0 _ (U4 rfl rfl) rfl ?_ | refine U0 _ (U5 rfl rfl) rfl ?_) | (refine M1 ?_; first | refine J0 ?_ | refine J1 ?_ | refine J4 ?_ | refine J5 ?_ | refine J6 ?_ | refine J7 ?_ | refine J8 rfl ?_ | refine J9 rfl ?_) | (refine M2 ?_; first | refine I0 ?_ | refine I1 ?_ | refine I2 ?_ | refine I3 ?_ | refine I4 ?_ | refine I5 ?_ | refine I6 rfl ?_ | refine I7 ?_ | refine I8 ?_ | refine z4 ?_) | (refine M3 ?_; first | refine O6 ?_ | refine z2 tok rfl ?_ | refine O8 rfl ?_ | refine O7 rfl ?_ rfl | refine O9 rfl ?_ rfl | refine U1 _ (U4 rfl rfl) rfl ?_ | refine U1 _ (U5 rfl rfl) rfl ?_ | refine U1 _ (U2 rfl) rfl ?_ | refine U1 _ (U3 tok rfl rfl rfl rfl rfl) rfl ?_) | (refine M4 ?_; first | refine M6 ?_ | refine U6 rfl (by kernel_rfl) ?_ | refine U7 (by kernel_rfl) ?_) | (refine M5 ?_; first | exact M7 | refine U8 rfl ?_ | refine U9 rfl rfl ?_ ?_))
  refine XC.rangeFunc (cap := [.pointer (some ⟨gp, 0, none⟩)]) rfl (ck rfl) (fun fn a D w4 hD hf S4 => ?_)
  obtain ⟨o5, ho5⟩ : ∃ o5, o5 = cel 33 (tskC v t) := ⟨_, rfl⟩
  have hfS : Fits 69 [] [(13, .pointer (some ⟨g13, 0, none⟩)), (6, .pointer (some ⟨g6, 0, none⟩)), (7, .pointer (some ⟨g7, 0, none⟩)), (8, .pointer (some ⟨g8, 0, none⟩)), (9, .pointer (some ⟨g9, 0, none⟩)), (10, .pointer (some ⟨g10, 0, none⟩)), (11, .pointer (some ⟨g11, 0, none⟩)), (14, .pointer (some ⟨g14, 0, none⟩))] a := Sub.fits (by repeat (first | exact Sub.nil | refine Sub.cons rfl ?_)) hf
  have hB4 : Below w.heap.size w w4 := hB3.trans S4.toBelow
  have hF4 : Fam w4 w.heap.size (KC (D + 1) D g14 g13 g11 g10 g9 g8 g7 g6 g5) [] [hPln g gt gm v r t, hList boolK ⟨none, 0, 0⟩ (chL none)] := by
    have h1 := (hF3.hold (x := hList boolK ⟨none, 0, 0⟩ (chL none)) (ok := Free w3 w.heap.size _ []) (cheL_nil _ _) (fun j hj => hj)).add (ks' := KC (D + 1) D g14 g13 g11 g10 g9 g8 g7 g6 g5) fun x hx => by
      rcases List.mem_cons.1 hx with rfl | hx
      · right; omega
      rcases List.mem_cons.1 hx with rfl | hx
      · right; omega
      · left; exact hx
    refine Fam.forget (h1.sys S4 ?_) (fun x hx => ?_)
    · intro e he
      left
      have : e.1 ∈ KC (D + 1) D g14 g13 g11 g10 g9 g8 g7 g6 g5 := List.mem_map.2 ⟨e, he, rfl⟩
      exact this
    · rcases List.mem_cons.1 hx with rfl | hx
      · exact .tail _ (.head _)
      · rw [List.mem_singleton.1 hx]; exact .head _
  have hks4 : ∀ x, x ∈ KC (D + 1) D g14 g13 g11 g10 g9 g8 g7 g6 g5 → x < w4.heap.size := fun x hx => S4.keyLt x hx
  have hfar4 : ∀ x, x < w3.heap.size → (∀ e, e ∈ [(g14, (0 : Nat)), (g13, 0), (g11, 0), (g10, 0), (g9, 0), (g8, 0), (g7, 0), (g6, 0), (g5, 0)] → e.1 ≠ x) → ∀ e : Nat × Obj, e.1 ∈ KC (D + 1) D g14 g13 g11 g10 g9 g8 g7 g6 g5 → e.1 ≠ x := fun x h1 h2 e he e1 => by
    rcases List.mem_cons.1 he with h | h
    · omega
    rcases List.mem_cons.1 h with h | h
    · omega
    exact h2 (e.1, 0) (by simpa using h) e1
  have hgpN : ∀ e, e ∈ [(g14, (0 : Nat)), (g13, 0), (g11, 0), (g10, 0), (g9, 0), (g8, 0), (g7, 0), (g6, 0), (g5, 0)] → e.1 ≠ gp := fun e he => by have := hgpL e he; omega
  have hch := chs_any (B := w.heap.size) (l := D + 1) (g := g) (gp := gp) (m := t.m) (c := r.c) (A := r.A) (fun z : World × SV × Ch => LC (D + 1) D g14 g13 g11 g10 g9 g8 g7 g6 g5 (recO fn a.tmps #[36] _ _ D .ready none) o5 g z.2.2 z.2.1 ⟨Ap, b.length, cp⟩ ls j sq s) (fun z => z.1)
    (CheJ v r t s j b ls g gt gm (KC (D + 1) D g14 g13 g11 g10 g9 g8 g7 g6 g5) w) (w4, ⟨none, 0, 0⟩, none) hm4 (by rw [ho5]; exact S4.rebase (List.Sublist.refl _)) ⟨hB4, hF4, hks4, rfl⟩ ?_ ?_ ?_ ?_ ?_ ?_ ?_
  rotate_left
  · have h := S4.farCell (a := ⟨gp, 0, none⟩) hgpl (fun e he => hfar4 gp hgpl hgpN e (List.mem_map.2 ⟨e, he, rfl⟩))
    exact h.trans hgpc
  · have h := S4.farCell (a := ⟨g, 15, none⟩) hlg3 (fun e he => hfar4 g hlg3 hgL e (List.mem_map.2 ⟨e, he, rfl⟩))
    exact h.trans c15'
  · exact Nat.lt_of_lt_of_le hgpl S4.size
  · exact Nat.lt_of_lt_of_le hlg3 S4.size
  · exact fun e he => hfar4 gp hgpl hgpN e (LC_key he)
  · exact fun e he => hfar4 g hlg3 hgL e (LC_key he)
  · rintro i ⟨zW, zq, zb⟩ gn W hi9 hJ hgn SW w1 S1
    obtain ⟨j1, j2, j3, j4⟩ := hJ
    simp only at hgn SW S1 j1 j2 j3 j4
    have hon : ListAt boolK W (Btw zW.heap.size W.heap.size) ⟨some ⟨gn, 0, none⟩, t.m, t.m⟩ (chc t.m i) := boolsAt (SW.own _ (.head _)).2 hgn (chc_len _ _) (by omega)
    have FW := (j2.sys SW (fun e he => by
      rcases List.mem_cons.1 he with rfl | he
      · exact .inr hgn
      · exact .inl (LC_key he))).hold (x := hList boolK ⟨some ⟨gn, 0, none⟩, t.m, t.m⟩ (chc t.m i)) hon (fun j hj => ⟨Nat.le_trans j1.size hj.1, hj.2, fun h => by have := j3 j h; have := hj.1; omega, fun x hx => by cases hx⟩)
    obtain ⟨a1, a2⟩ := che_round (n := 0) (on := chc t.m i) ho hst.vol hj hbl (chc_len _ _) ht hb0 (j1.trans SW.toBelow) FW (fun x hx => Nat.lt_of_lt_of_le (j3 x hx) SW.size) rfl rfl hfS S1
    refine ⟨_, _, _, _, a1, a2.mono fun e w' ⟨u, e1, e2, q', k1, k2⟩ => ⟨u, e1, e2, (w', q', _), ⟨(j1.trans SW.toBelow).trans k2.toBelow, k1, fun x hx => Nat.lt_of_lt_of_le (j3 x hx) (Nat.le_trans SW.size k2.size), ?_⟩, k2.rebase (List.Sublist.refl _)⟩⟩
    simp only
    rw [j4]; rfl
  refine hch.mono fun e w5 ⟨v5, e5, z, hJ, S5⟩ => ⟨v5, e5, .inl ?_⟩
  obtain ⟨zW, zq, zb⟩ := z
  obtain ⟨j1, j2, j3, j4⟩ := hJ
  simp only at S5 j1 j2 j3 j4
  refine ⟨_, zW, S5, ?_⟩
  rw [← j4] at hE
  subst ho5
  have hR : cheR t s (j : Int) b ls = if cheE t s (j : Int) b ls = 0 then zb else none := by unfold cheR; rw [Int.toNat_natCast, ← j4]
  cases zb with
  | none =>
    simp only [staC, svV]
    repeat (first | (refine M0 ?_; first | refine O0 ?_ | refine z1 tok rfl ?_ | refine O1 rfl ?_ rfl | refine O2 rfl ?_ | refine O3 rfl ?_ rfl | refine O4 rfl rfl rfl (fun _ _ => ?_) | refine O5 tok rfl rfl rfl (fun _ _ => ?_) | refine U0 _ (U2 rfl) rfl ?_ | refine U0 _ (U3 tok rfl rfl rfl rfl rfl) rfl ?_ | refine z3 tok rfl ?_ | refine U0 _ (U4 rfl rfl) rfl ?_ | refine U0 _ (U5 rfl rfl) rfl ?_) | (refine M1 ?_; first | refine J0 ?_ | refine J1 ?_ | refine J4 ?_ | refine J5 ?_ | refine J6 ?_ | refine J7 ?_ | refine J8 rfl ?_ | refine J9 rfl ?_) | (refine M2 ?_; first | refine I0 ?_ | refine I1 ?_ | refine I2 ?_ | refine I3 ?_ | refine I4 ?_ | refine I5 ?_ | refine I6 rfl ?_ | refine I7 ?_ | refine I8 ?_ | refine z4 ?_) | (refine M3 ?_; first | refine O6 ?_ | refine z2 tok rfl ?_ | refine O8 rfl ?_ | refine O7 rfl ?_ rfl | refine O9 rfl ?_ rfl | refine U1 _ (U4 rfl rfl) rfl ?_ | refine U1 _ (U5 rfl rfl) rfl ?_ | refine U1 _ (U2 rfl) rfl ?_ | refine U1 _ (U3 tok rfl rfl rfl rfl rfl) rfl ?_) | (refine M4 ?_; first | refine M6 ?_ | refine U6 rfl (by kernel_rfl) ?_ | refine U7 (by kernel_rfl) ?_) | (refine M5 ?_; first | exact M7 | refine U8 rfl ?_ | refine U9 rfl rfl ?_ ?_))
    refine XE.retM (i := 1) tok Try.results39 rfl rfl rfl (by simp only [and_self, and_true]) (fun w' S => ?_)
    exact che_no hE (by decide) (j1.trans S.toBelow)
  | some y =>
  obtain ⟨en, on⟩ := y
  simp only [staC, svV]
  repeat (first | (refine M0 ?_; first | refine O0 ?_ | refine z1 tok rfl ?_ | refine O1 rfl ?_ rfl | refine O2 rfl ?_ | refine O3 rfl ?_ rfl | refine O4 rfl rfl rfl (fun _ _ => ?_) | refine O5 tok rfl rfl rfl (fun _ _ => ?_) | refine U0 _ (U2 rfl) rfl ?_ | refine U0 _ (U3 tok rfl rfl rfl rfl rfl) rfl ?_ | refine z3 tok rfl ?_ | refine U0 _ (U4 rfl rfl) rfl ?_ | refine U0 _ (U5 rfl rfl) rfl ?_) | (refine M1 ?_; first | refine J0 ?_ | refine J1 ?_ | refine J4 ?_ | refine J5 ?_ | refine J6 ?_ | refine J7 ?_ | refine J8 rfl ?_ | refine J9 rfl ?_) | (refine M2 ?_; first | refine I0 ?_ | refine I1 ?_ | refine I2 ?_ | refine I3 ?_ | refine I4 ?_ | refine I5 ?_ | refine I6 rfl ?_ | refine I7 ?_ | refine I8 ?_ | refine z4 ?_) | (refine M3 ?_; first | refine O6 ?_ | refine z2 tok rfl ?_ | refine O8 rfl ?_ | refine O7 rfl ?_ rfl | refine O9 rfl ?_ rfl | refine U1 _ (U4 rfl rfl) rfl ?_ | refine U1 _ (U5 rfl rfl) rfl ?_ | refine U1 _ (U2 rfl) rfl ?_ | refine U1 _ (U3 tok rfl rfl rfl rfl rfl) rfl ?_) | (refine M4 ?_; first | refine M6 ?_ | refine U6 rfl (by kernel_rfl) ?_ | refine U7 (by kernel_rfl) ?_) | (refine M5 ?_; first | exact M7 | refine U8 rfl ?_ | refine U9 rfl rfl ?_ ?_))
  have hE0 : cheE t s (j : Int) b ls = 0 := hE
  rw [if_pos hE0] at hR
  refine XC.drawR _ [0, 1] [2, 3, 4] mixed (fun _ h => h) rfl (by kernel_rfl) ?_
  repeat (any_goals (first | (refine M0 ?_; first | refine O0 ?_ | refine z1 tok rfl ?_ | refine O1 rfl ?_ rfl | refine O2 rfl ?_ | refine O3 rfl ?_ rfl | refine O4 rfl rfl rfl (fun _ _ => ?_) | refine O5 tok rfl rfl rfl (fun _ _ => ?_) | refine U0 _ (U2 rfl) rfl ?_ | refine U0 _ (U3 tok rfl rfl rfl rfl rfl) rfl ?_ | refine z3 tok rfl ?_ | refine U0 _ (U4 rfl rfl) rfl ?_ | refine U0 _ (U5 rfl rfl) rfl ?_) | (refine M1 ?_; first | refine J0 ?_ | refine J1 ?_ | refine J4 ?_ | refine J5 ?_ | refine J6 ?_ | refine J7 ?_ | refine J8 rfl ?_ | refine J9 rfl ?_) | (refine M2 ?_; first | refine I0 ?_ | refine I1 ?_ | refine I2 ?_ | refine I3 ?_ | refine I4 ?_ | refine I5 ?_ | refine I6 rfl ?_ | refine I7 ?_ | refine I8 ?_ | refine z4 ?_) | (refine M3 ?_; first | refine O6 ?_ | refine z2 tok rfl ?_ | refine O8 rfl ?_ | refine O7 rfl ?_ rfl | refine O9 rfl ?_ rfl | refine U1 _ (U4 rfl rfl) rfl ?_ | refine U1 _ (U5 rfl rfl) rfl ?_ | refine U1 _ (U2 rfl) rfl ?_ | refine U1 _ (U3 tok rfl rfl rfl rfl rfl) rfl ?_) | (refine M4 ?_; first | refine M6 ?_ | refine U6 rfl (by kernel_rfl) ?_ | refine U7 (by kernel_rfl) ?_) | (refine M5 ?_; first | exact M7 | refine U8 rfl ?_ | refine U9 rfl rfl ?_ ?_)))
  any_goals (repeat (first | exact AnyR.nil | refine AnyR.skip rfl ?_))
  all_goals
    refine XE.retM (i := 1) tok Try.results39 rfl rfl rfl (by simp only [and_self, and_true]) (fun w' S => ?_)
    refine ⟨_, _, rfl, ⟨zq, by rw [hR, hE0]; rfl, rfl⟩, fun x hx => ?_, j1.trans S.toBelow⟩
    rw [List.mem_singleton.1 hx, hR]
    exact (j2.sys S (fun e he => .inl (show e.1 ∈ KC (D + 1) D g14 g13 g11 g10 g9 g8 g7 g6 g5 from List.mem_map.2 ⟨e, he, rfl⟩))).get (x := hList boolK zq (chL (some (en, on)))) (.tail _ (.head _))
end Go.Proofs.Ytmodjcegmgjhoaa.X
/-
  The law RunoffUseful.
-/
namespace Go.Proofs.Ytmodjcegmgjhoaa.Bs
open Go.Proofs.Ytmodjcegmgjhoaa.X
section
variable {t : RTk} {s : Sta} {j : Nat} {b : List Bool} {ls : Int}
theorem cheB_yes : ∀ {i : Nat} {e : Int} {f : List Bool}, cheB t s j b ls i = some (e, f) → ∃ k, k < i ∧ f = chc t.m k ∧ ∃ o, t.use s.vol j b f = some (o, e) ∧ ls ≤ o := by
  intro i
  induction i with
  | zero => intro e f h; cases h
  | succ i ih =>
    intro e f h
    unfold cheB cheU at h
    split at h
    · obtain ⟨k, h1, h2⟩ := ih h; exact ⟨k, by omega, h2⟩
    · rename_i y hy
      split at h
      · rename_i hc
        cases h
        exact ⟨i, by omega, rfl, y.1, hy, hc.1⟩
      · obtain ⟨k, h1, h2⟩ := ih h; exact ⟨k, by omega, h2⟩
theorem cheB_min : ∀ {i k : Nat} {o e : Int}, k < i → t.use s.vol j b (chc t.m k) = some (o, e) → ls ≤ o → ∃ e' f, cheB t s j b ls i = some (e', f) ∧ e' ≤ e := by
  intro i
  induction i with
  | zero => intro k o e hk; omega
  | succ i ih =>
    intro k o e hk hu hl
    rcases Nat.lt_or_ge k i with h | h
    · obtain ⟨e', f, h1, h2⟩ := ih h hu hl
      unfold cheB cheU
      rw [h1]
      split
      · exact ⟨e', f, rfl, h2⟩
      · rename_i y hy
        split
        · rename_i hc
          have := hc.2 rfl
          simp only [chE, Option.map_some, Option.getD_some] at this
          exact ⟨_, _, rfl, by omega⟩
        · exact ⟨e', f, rfl, h2⟩
    · have : k = i := by omega
      subst this
      unfold cheB cheU
      rw [hu]
      simp only
      split
      · exact ⟨_, _, rfl, Int.le_refl _⟩
      · rename_i hc
        cases hb : cheB t s j b ls k with
        | none => exact absurd ⟨hl, fun h => by rw [hb] at h; cases h⟩ hc
        | some z =>
          obtain ⟨z1, z2⟩ := z
          refine ⟨z1, z2, rfl, ?_⟩
          rcases Int.lt_or_le e z1 with h5 | h5
          · exact absurd ⟨hl, fun _ => by rw [hb]; exact h5⟩ hc
          · exact h5
end
section
variable {t : RTk} {s : Sta} {i : Int} {b f : List Bool} {ls : Int}
theorem useE_0 (h : useE t s i b f = 0) : askE t s i b.length = 0 ∧ f.length = t.m ∧ ∃ y, t.use s.vol i.toNat b f = some y ∧ useN t s i b f = y := by
  have h' := h
  unfold useE at h'
  split at h'
  · rename_i h1; exact absurd h' h1
  rename_i h1
  split at h'
  · cases h'
  rename_i h2
  split at h'
  · cases h'
  rename_i y hy
  exact ⟨by simpa using h1, by simpa using h2, y, hy, by unfold useN; rw [if_pos h, hy]; rfl⟩
theorem useE_of {y : Int × Int} (h0 : askE t s i b.length = 0) (h1 : f.length = t.m) (h2 : t.use s.vol i.toNat b f = some y) : useE t s i b f = 0 ∧ useN t s i b f = y := by
  have h : useE t s i b f = 0 := by unfold useE; rw [if_neg (by simp [h0]), if_neg (by simp [h1]), h2]
  exact ⟨h, by unfold useN; rw [if_pos h, h2]; rfl⟩
theorem cheE_0 (h : cheE t s i b ls = 0) : askE t s i b.length = 0 ∧ (0 ≤ ls ∧ ls ≤ 10000000) ∧ ∃ y, cheB t s i.toNat b ls (2 ^ t.m) = some y ∧ cheR t s i b ls = some y := by
  have h' := h
  unfold cheE at h'
  split at h'
  · rename_i h1; exact absurd h' h1
  rename_i h1
  split at h'
  · cases h'
  rename_i h2
  split at h'
  · rename_i h3
    obtain ⟨y, hy⟩ := Option.isSome_iff_exists.1 h3
    exact ⟨by simpa using h1, outB_f.1 (Bool.not_eq_true _ ▸ h2), y, hy, by unfold cheR; rw [if_pos h, hy]⟩
  · cases h'
theorem cheE_of {y : Int × List Bool} (h0 : askE t s i b.length = 0) (h1 : 0 ≤ ls ∧ ls ≤ 10000000) (h2 : cheB t s i.toNat b ls (2 ^ t.m) = some y) : cheE t s i b ls = 0 ∧ cheR t s i b ls = some y := by
  have h : cheE t s i b ls = 0 := by unfold cheE; rw [if_neg (by simp [h0]), if_neg (by rw [outB_f.2 h1]; decide), h2]; rfl
  exact ⟨h, by unfold cheR; rw [if_pos h, h2]⟩
/-- where Cheapest finds none, no choice lets so much run off. -/
theorem che_none (h : cheE t s i b ls = 9) (hu : useE t s i b f = 0) : (useN t s i b f).1 < ls := by
  obtain ⟨h0, h1, ⟨o, e⟩, h2, h3⟩ := useE_0 hu
  rw [h3]
  rcases Int.lt_or_le o ls with h5 | h5
  · exact h5
  exfalso
  obtain ⟨k, hk, rfl⟩ := chc_all h1
  obtain ⟨e', g, h6, _⟩ := cheB_min hk h2 h5
  unfold cheE at h
  rw [if_neg (by simp [h0])] at h
  split at h
  · cases h
  rw [h6] at h
  cases h
theorem che_some (h : cheE t s i b ls = 0) : ∃ (on : List Bool) (n o : Int), cheR t s i b ls = some (n, on) ∧ useE t s i b on = 0 ∧ useN t s i b on = (o, n) ∧ ls ≤ o ∧ (∀ f, useE t s i b f = 0 → ls ≤ (useN t s i b f).1 → n ≤ (useN t s i b f).2) ∧
    ∀ l, 0 ≤ l → l ≤ ls → cheE t s i b l = 0 ∧ chE (cheR t s i b l) ≤ n := by
  obtain ⟨h0, h1, ⟨n, on⟩, h2, h3⟩ := cheE_0 h
  obtain ⟨k, hk, rfl, o, h4, h5⟩ := cheB_yes h2
  obtain ⟨h6, h7⟩ := useE_of h0 (chc_len _ _) h4
  refine ⟨_, n, o, h3, h6, h7, h5, fun f hf hl => ?_, fun l l0 hl => ?_⟩
  · obtain ⟨_, g1, ⟨o', e'⟩, g2, g3⟩ := useE_0 hf
    rw [g3] at hl ⊢
    obtain ⟨k', hk', rfl⟩ := chc_all g1
    obtain ⟨e9, f9, a1, a2⟩ := cheB_min hk' g2 hl
    rw [h2] at a1
    cases a1
    exact a2
  · obtain ⟨e9, f9, a1, a2⟩ := cheB_min hk h4 (Int.le_trans hl h5)
    obtain ⟨b1, b2⟩ := cheE_of h0 ⟨l0, by omega⟩ a1
    exact ⟨b1, by rw [b2]; exact a2⟩
end
end Go.Proofs.Ytmodjcegmgjhoaa.Bs
namespace Go.Proofs.Ytmodjcegmgjhoaa.X
open Go Go.RowKit Go.Proofs.Ytmodjcegmgjhoaa.Bs
set_option linter.unusedVariables false
/-- a turn: where its slices lie, and what it is. -/
structure TrV where
  q : SV
  p : SV
  r : SV
structure Trn where
  s : Sta
  tick : Int
  bef : List Bool
  on : List Bool
  least : Int
def turnC (y : TrV) (x : Trn) : List Value := [.int .i64 x.s.vol, svV y.q, .int .i64 x.tick, svV y.p, svV y.r, .int .i64 x.least]
def turnV (y : TrV) (x : Trn) : Value := .agg ⟨turnC y x⟩
structure TurnAt (w : World) (y : TrV) (x : Trn) : Prop where
  fil : IntsAt w (Lt w.heap.size) y.q x.s.fil
  bef : ListAt boolK w (Lt w.heap.size) y.p x.bef
  on : ListAt boolK w (Lt w.heap.size) y.r x.on
theorem TurnAt.below {w w' : World} {y : TrV} {x : Trn} (h : TurnAt w y x) (hB : Below w.heap.size w w') : TurnAt w' y x :=
  ⟨(h.fil.keep fun k hk => hB.block k hk).mono fun k hk => Nat.lt_of_lt_of_le hk hB.size, (h.bef.keep fun k hk => hB.block k hk).mono fun k hk => Nat.lt_of_lt_of_le hk hB.size, (h.on.keep fun k hk => hB.block k hk).mono fun k hk => Nat.lt_of_lt_of_le hk hB.size⟩
set_option maxHeartbeats 8000000 in
theorem RunoffUseful_any {v : RTV} {t : RTk} {y : TrV} {x : Trn} {n : Int} {w : World} (ht : TskAt w w.heap.size v t) (hn : t.slu.length + t.pmp.length ≤ 5000000) (hx : TurnAt w y x) (hn0 : 0 ≤ n ∧ n ≤ 65535) :
    Calls Try.prog 14 #[tskV v t, turnV y x, .int .u16 n] w fun e w' => e = .returned (.bool true) ∧ Below w.heap.size w w' := by
  have hche := fun (l : Int) (w5 : World) (hB : Below w.heap.size w w5) => Cheapest_made (i := x.tick) (ls := l) (s := x.s) (b := x.bef) (sq := y.q) (p := y.p) (ht.sys (Sys.ofBelow hB)) hn (hx.below hB).fil (hx.below hB).bef
  have huse := fun (w5 : World) (hB : Below w.heap.size w w5) => Use_any (i := x.tick) (s := x.s) (b := x.bef) (f := x.on) (sq := y.q) (p := y.p) (q := y.r) (ht.sys (Sys.ofBelow hB)) hn (hx.below hB).fil (hx.below hB).bef (hx.below hB).on
  have huse2 := fun (w5 : World) (hB : Below w.heap.size w w5) {q : SV} {f : List Bool} (hf : ListAt boolK w5 (Lt w5.heap.size) q f) => Use_any (i := x.tick) (s := x.s) (b := x.bef) (f := f) (sq := y.q) (p := y.p) (q := q) (ht.sys (Sys.ofBelow hB)) hn (hx.below hB).fil (hx.below hB).bef hf
  have haw := fun {L : Lo} {W : World} (w5 : World) (S5 : Sys w.heap.size W L w5) => Awake_any (w := w5)
  obtain ⟨yq, yp, yr⟩ := y
  obtain ⟨s, tick, bef, on, ls⟩ := x
  simp only [tskV, tskC, turnV, turnC, staV, staC, svV] at hche huse huse2 ⊢
  refine enter Try.func14 rfl Try.ntmps14 rfl ?_; simp only [frame, Nat.zero_add, Nat.reduceAdd]
  repeat (first | (refine M0 ?_; first | refine O0 ?_ | refine z1 tok rfl ?_ | refine O1 rfl ?_ rfl | refine O2 rfl ?_ | refine O3 rfl ?_ rfl | refine O4 rfl rfl rfl (fun _ _ => ?_) | refine O5 tok rfl rfl rfl (fun _ _ => ?_) | refine U0 _ (U2 rfl) rfl ?_ | refine U0 _ (U3 tok rfl rfl rfl rfl rfl) rfl ?_ | refine z3 tok rfl ?_ | refine U0 _ (U4 rfl rfl) rfl ?_ | refine U0 _ (U5 rfl rfl) rfl ?_) | (refine M1 ?_; first | refine J0 ?_ | refine J1 ?_ | refine J4 ?_ | refine J5 ?_ | refine J6 ?_ | refine J7 ?_ | refine J8 rfl ?_ | refine J9 rfl ?_) | (refine M2 ?_; first | refine I0 ?_ | refine I1 ?_ | refine I2 ?_ | refine I3 ?_ | refine I4 ?_ | refine I5 ?_ | refine I6 rfl ?_ | refine I7 ?_ | refine I8 ?_ | refine z4 ?_) | (refine M3 ?_; first | refine O6 ?_ | refine z2 tok rfl ?_ | refine O8 rfl ?_ | refine O7 rfl ?_ rfl | refine O9 rfl ?_ rfl | refine U1 _ (U4 rfl rfl) rfl ?_ | refine U1 _ (U5 rfl rfl) rfl ?_ | refine U1 _ (U2 rfl) rfl ?_ | refine U1 _ (U3 tok rfl rfl rfl rfl rfl) rfl ?_) | (refine M4 ?_; first | refine M6 ?_ | refine U6 rfl (by kernel_rfl) ?_ | refine U7 (by kernel_rfl) ?_) | (refine M5 ?_; first | exact M7 | refine U8 rfl ?_ | refine U9 rfl rfl ?_ ?_))
  rename_i g3 hg3 g4 hg4
  refine XL.rebase (List.Sublist.refl _) (fun W0 S0 => ?_)
  refine XL.callF (ks := [g4, g3]) (rs := []) (hs := []) (b0 := w.heap.size) (wE := w) (CheV t s tick bef ls) (ck rfl) rfl rfl (Fam.start S0.size) (fun k hk => S0.keyLt k hk) S0.toBelow (fun w1 S1 _ hB1 => hche ls w1 hB1) (fun w2 x new hR hF2 hB2 hk2 => ?_) (by intro e he; repeat (first | (cases he; done) | (rcases List.mem_cons.1 he with rfl | he; · first | (right; assumption) | (left; simp <;> fail))))
  obtain ⟨q, rfl, rfl⟩ := hR
  simp only [svV]
  have hnone := che_none (t := t) (s := s) (i := tick) (b := bef) (f := on) (ls := ls)
  obtain ⟨E, hE⟩ : ∃ E, E = cheE t s tick bef ls := ⟨_, rfl⟩
  obtain ⟨U, hU⟩ : ∃ U, U = useE t s tick bef on := ⟨_, rfl⟩
  obtain ⟨O, hO⟩ : ∃ O, O = (useN t s tick bef on).1 := ⟨_, rfl⟩
  obtain ⟨M, hM⟩ : ∃ M, M = (useN t s tick bef on).2 := ⟨_, rfl⟩
  rw [← hU, ← hO, ← hM] at huse
  rw [← hE, ← hU, ← hO] at hnone
  rw [← hE]
  by_cases hE0 : E = 0
  rotate_left
  · repeat (first | (refine M0 ?_; first | refine O0 ?_ | refine z1 tok rfl ?_ | refine O1 rfl ?_ rfl | refine O2 rfl ?_ | refine O3 rfl ?_ rfl | refine U0 _ (Ev.call (f := 36) (ck rfl) rfl (fun w5 S5 => huse w5 (hB2.trans S5.toBelow))) rfl ?_ | refine O4 rfl rfl rfl (fun _ _ => ?_) | refine O5 tok rfl rfl rfl (fun _ _ => ?_) | refine U0 _ (U2 rfl) rfl ?_ | refine U0 _ (U3 tok rfl rfl rfl rfl rfl) rfl ?_ | refine z3 tok rfl ?_ | refine U0 _ (U4 rfl rfl) rfl ?_ | refine U0 _ (U5 rfl rfl) rfl ?_) | (refine M1 ?_; first | refine J0 ?_ | refine J1 ?_ | refine J4 ?_ | refine J5 ?_ | refine J6 ?_ | refine J7 ?_ | refine J8 rfl ?_ | refine J9 rfl ?_) | (refine M2 ?_; first | refine I0 ?_ | refine I1 ?_ | refine I2 ?_ | refine I3 ?_ | refine I4 ?_ | refine I5 ?_ | refine I6 rfl ?_ | refine I7 ?_ | refine I8 ?_ | refine z4 ?_) | (refine M3 ?_; first | refine O6 ?_ | refine z2 tok rfl ?_ | refine O8 rfl ?_ | refine O7 rfl ?_ rfl | refine O9 rfl ?_ rfl | refine U1 _ (Ev.call (f := 36) (ck rfl) rfl (fun w5 S5 => huse w5 (hB2.trans S5.toBelow))) rfl ?_ | refine U1 _ (U4 rfl rfl) rfl ?_ | refine U1 _ (U5 rfl rfl) rfl ?_ | refine U1 _ (U2 rfl) rfl ?_ | refine U1 _ (U3 tok rfl rfl rfl rfl rfl) rfl ?_) | (refine M4 ?_; first | refine M6 ?_ | refine U6 rfl (by kernel_rfl) ?_ | refine U7 (by kernel_rfl) ?_) | (refine M5 ?_; first | exact M7 | refine U8 rfl ?_ | refine U9 rfl rfl ?_ ?_))
    refine XC.cond _ rfl (fun h1 => ?_) (fun h1 => absurd (by simpa using h1) hE0)
    repeat (any_goals (first | (refine M0 ?_; first | refine O0 ?_ | refine z1 tok rfl ?_ | refine O1 rfl ?_ rfl | refine O2 rfl ?_ | refine O3 rfl ?_ rfl | (refine XL.split _ _ rfl (fun h => ?_) (fun h => ?_) <;> rw [h]) | refine U0 _ (Ev.call (f := 19) (ck rfl) rfl (fun w5 S5 => haw w5 S5)) rfl ?_ | refine O4 rfl rfl rfl (fun _ _ => ?_) | refine O5 tok rfl rfl rfl (fun _ _ => ?_) | refine U0 _ (U2 rfl) rfl ?_ | refine U0 _ (U3 tok rfl rfl rfl rfl rfl) rfl ?_ | refine z3 tok rfl ?_ | refine U0 _ (U4 rfl rfl) rfl ?_ | refine U0 _ (U5 rfl rfl) rfl ?_) | (refine M1 ?_; first | refine J0 ?_ | refine J1 ?_ | refine J2 mixed rfl (by kernel_rfl) ?_ | refine J3 mixed rfl rfl (by kernel_rfl) ?_ | refine J4 ?_ | refine J5 ?_ | refine J6 ?_ | refine J7 ?_ | refine J8 rfl ?_ | refine J9 rfl ?_ | refine XC.cond _ rfl (fun h => ?_) (fun h => ?_)) | (refine M2 ?_; first | refine I0 ?_ | refine I1 ?_ | refine I2 ?_ | refine I3 ?_ | refine I4 ?_ | refine I5 ?_ | refine I6 rfl ?_ | refine I7 ?_ | refine I8 ?_ | refine z4 ?_) | (refine M3 ?_; first | refine O6 ?_ | refine z2 tok rfl ?_ | refine O8 rfl ?_ | refine O7 rfl ?_ rfl | refine O9 rfl ?_ rfl | (refine Fw.split _ _ rfl (fun h => ?_) (fun h => ?_) <;> rw [h]) | refine U1 _ (Ev.call (f := 19) (ck rfl) rfl (fun w5 S5 => haw w5 S5)) rfl ?_ | refine U1 _ (U4 rfl rfl) rfl ?_ | refine U1 _ (U5 rfl rfl) rfl ?_ | refine U1 _ (U2 rfl) rfl ?_ | refine U1 _ (U3 tok rfl rfl rfl rfl rfl) rfl ?_) | (refine M4 ?_; first | refine M6 ?_ | refine U6 rfl (by kernel_rfl) ?_ | refine U7 (by kernel_rfl) ?_) | (refine M5 ?_; first | exact M7 | refine U8 rfl ?_ | refine U9 rfl rfl ?_ ?_)))
    all_goals
      refine XE.retg tok Try.results14 rfl (by simp only [and_self, and_true]) (fun w' S => ?_)
      first
      | exact ⟨rfl, hB2.trans S.toBelow⟩
      | (exfalso
         rename_i a1 a2
         exact absurd (hnone (by simpa using a1) (by simpa using a2)) (by simpa using h))
  obtain ⟨on', N, o, e1, e2, e3, e4, e5, e6⟩ := che_some (t := t) (s := s) (i := tick) (b := bef) (ls := ls) (by rw [← hE]; exact hE0)
  obtain ⟨l0, hl0⟩ : ∃ l0, l0 = max 0 (ls - n) := ⟨_, rfl⟩
  have hls : 0 ≤ ls ∧ ls ≤ 10000000 := (cheE_0 (by rw [← hE]; exact hE0)).2.1
  obtain ⟨k1, k2⟩ := e6 l0 (by omega) (by omega)
  have hmin := e5 on
  rw [← hU, ← hO, ← hM] at hmin
  rw [e1] at hF2 ⊢
  have hu3 := fun {L : Lo} (w5 : World) (S5 : Sys w.heap.size w2 L w5) (hL5 : ∀ e, e ∈ L → e.1 ∈ [g4, g3] ∨ w2.heap.size ≤ e.1) => huse2 w5 (hB2.trans S5.toBelow) (q := q) (f := on') ((hF2.sys S5 (fun e he => (hL5 e he).imp (fun h => List.mem_append_right _ h) id)).get (x := hList boolK q on') (.head _) |>.mono fun k hk => hk.2)
  rw [e2, e3] at hu3
  simp only at hu3
  obtain ⟨k, hk⟩ : ∃ k, k = chE (cheR t s tick bef l0) := ⟨_, rfl⟩
  rw [← hk] at k2
  simp only [chE, Option.map_some, Option.getD_some]
  have hw16 : IntKind.i64.wrap n = n := wrap_in (by unfold i64in; omega)
  have hche2 := fun (w5 : World) (hB : Below w.heap.size w w5) => hche l0 w5 hB
  repeat (first | (refine M0 ?_; first | refine O0 ?_ | refine z1 tok rfl ?_ | refine O1 rfl ?_ rfl | refine O2 rfl ?_ | refine O3 rfl ?_ rfl | refine O4 rfl rfl rfl (fun _ _ => ?_) | refine O5 tok rfl rfl rfl (fun _ _ => ?_) | refine U0 _ (U2 rfl) rfl ?_ | refine U0 _ (U3 tok rfl rfl rfl rfl rfl) rfl ?_ | refine z3 tok rfl ?_ | refine U0 _ (U4 rfl rfl) rfl ?_ | refine U0 _ (U5 rfl rfl) rfl ?_) | (refine M1 ?_; first | refine J0 ?_ | refine J1 ?_ | refine J4 ?_ | refine J5 ?_ | refine J6 ?_ | refine J7 ?_ | refine J8 rfl ?_ | refine J9 rfl ?_) | (refine M2 ?_; first | refine I0 ?_ | refine I1 ?_ | refine I2 ?_ | refine I3 ?_ | refine I4 ?_ | refine I5 ?_ | refine I6 rfl ?_ | refine I7 ?_ | refine I8 ?_ | refine z4 ?_) | (refine M3 ?_; first | refine O6 ?_ | refine z2 tok rfl ?_ | refine O8 rfl ?_ | refine O7 rfl ?_ rfl | refine O9 rfl ?_ rfl | refine U1 _ (U4 rfl rfl) rfl ?_ | refine U1 _ (U5 rfl rfl) rfl ?_ | refine U1 _ (U2 rfl) rfl ?_ | refine U1 _ (U3 tok rfl rfl rfl rfl rfl) rfl ?_) | (refine M4 ?_; first | refine M6 ?_ | refine U6 rfl (by kernel_rfl) ?_ | refine U7 (by kernel_rfl) ?_) | (refine M5 ?_; first | exact M7 | refine U8 rfl ?_ | refine U9 rfl rfl ?_ ?_))
  refine XL.step _ (Ev.call (f := 36) (ck rfl) rfl (fun w5 S5 => huse w5 (hB2.trans S5.toBelow))) rfl ?_
  repeat (first | (refine M0 ?_; first | refine O0 ?_ | refine z1 tok rfl ?_ | refine O1 rfl ?_ rfl | refine O2 rfl ?_ | refine O3 rfl ?_ rfl | refine O4 rfl rfl rfl (fun _ _ => ?_) | refine O5 tok rfl rfl rfl (fun _ _ => ?_) | refine U0 _ (U2 rfl) rfl ?_ | refine U0 _ (U3 tok rfl rfl rfl rfl rfl) rfl ?_ | refine z3 tok rfl ?_ | refine U0 _ (U4 rfl rfl) rfl ?_ | refine U0 _ (U5 rfl rfl) rfl ?_) | (refine M1 ?_; first | refine J0 ?_ | refine J1 ?_ | refine J4 ?_ | refine J5 ?_ | refine J6 ?_ | refine J7 ?_ | refine J8 rfl ?_ | refine J9 rfl ?_) | (refine M2 ?_; first | refine I0 ?_ | refine I1 ?_ | refine I2 ?_ | refine I3 ?_ | refine I4 ?_ | refine I5 ?_ | refine I6 rfl ?_ | refine I7 ?_ | refine I8 ?_ | refine z4 ?_) | (refine M3 ?_; first | refine O6 ?_ | refine z2 tok rfl ?_ | refine O8 rfl ?_ | refine O7 rfl ?_ rfl | refine O9 rfl ?_ rfl | refine U1 _ (U4 rfl rfl) rfl ?_ | refine U1 _ (U5 rfl rfl) rfl ?_ | refine U1 _ (U2 rfl) rfl ?_ | refine U1 _ (U3 tok rfl rfl rfl rfl rfl) rfl ?_) | (refine M4 ?_; first | refine M6 ?_ | refine U6 rfl (by kernel_rfl) ?_ | refine U7 (by kernel_rfl) ?_) | (refine M5 ?_; first | exact M7 | refine U8 rfl ?_ | refine U9 rfl rfl ?_ ?_))
  refine XC.cond _ rfl (fun h1 => absurd hE0 (by simpa using h1)) (fun h1 => ?_)
  repeat (first | (refine M0 ?_; first | refine O0 ?_ | refine z1 tok rfl ?_ | refine O1 rfl ?_ rfl | refine O2 rfl ?_ | refine O3 rfl ?_ rfl | refine O4 rfl rfl rfl (fun _ _ => ?_) | refine O5 tok rfl rfl rfl (fun _ _ => ?_) | refine U0 _ (U2 rfl) rfl ?_ | refine U0 _ (U3 tok rfl rfl rfl rfl rfl) rfl ?_ | refine z3 tok rfl ?_ | refine U0 _ (U4 rfl rfl) rfl ?_ | refine U0 _ (U5 rfl rfl) rfl ?_) | (refine M1 ?_; first | refine J0 ?_ | refine J1 ?_ | refine J4 ?_ | refine J5 ?_ | refine J6 ?_ | refine J7 ?_ | refine J8 rfl ?_ | refine J9 rfl ?_) | (refine M2 ?_; first | refine I0 ?_ | refine I1 ?_ | refine I2 ?_ | refine I3 ?_ | refine I4 ?_ | refine I5 ?_ | refine I6 rfl ?_ | refine I7 ?_ | refine I8 ?_ | refine z4 ?_) | (refine M3 ?_; first | refine O6 ?_ | refine z2 tok rfl ?_ | refine O8 rfl ?_ | refine O7 rfl ?_ rfl | refine O9 rfl ?_ rfl | refine U1 _ (U4 rfl rfl) rfl ?_ | refine U1 _ (U5 rfl rfl) rfl ?_ | refine U1 _ (U2 rfl) rfl ?_ | refine U1 _ (U3 tok rfl rfl rfl rfl rfl) rfl ?_) | (refine M4 ?_; first | refine M6 ?_ | refine U6 rfl (by kernel_rfl) ?_ | refine U7 (by kernel_rfl) ?_) | (refine M5 ?_; first | exact M7 | refine U8 rfl ?_ | refine U9 rfl rfl ?_ ?_))
  refine XL.step _ (Ev.call (f := 36) (ck rfl) rfl (fun w5 S5 => hu3 w5 S5 (by intro e he; repeat (first | (cases he; done) | (rcases List.mem_cons.1 he with rfl | he; · first | (right; assumption) | (left; simp <;> fail)))))) rfl ?_

  repeat (first | (refine M0 ?_; first | refine O0 ?_ | refine z1 tok rfl ?_ | refine O1 rfl ?_ rfl | refine O2 rfl ?_ | refine O3 rfl ?_ rfl | refine O4 rfl rfl rfl (fun _ _ => ?_) | refine O5 tok rfl rfl rfl (fun _ _ => ?_) | refine U0 _ (U2 rfl) rfl ?_ | refine U0 _ (U3 tok rfl rfl rfl rfl rfl) rfl ?_ | refine z3 tok rfl ?_ | refine U0 _ (U4 rfl rfl) rfl ?_ | refine U0 _ (U5 rfl rfl) rfl ?_) | (refine M1 ?_; first | refine J0 ?_ | refine J1 ?_ | refine J4 ?_ | refine J5 ?_ | refine J6 ?_ | refine J7 ?_ | refine J8 rfl ?_ | refine J9 rfl ?_) | (refine M2 ?_; first | refine I0 ?_ | refine I1 ?_ | refine I2 ?_ | refine I3 ?_ | refine I4 ?_ | refine I5 ?_ | refine I6 rfl ?_ | refine I7 ?_ | refine I8 ?_ | refine z4 ?_) | (refine M3 ?_; first | refine O6 ?_ | refine z2 tok rfl ?_ | refine O8 rfl ?_ | refine O7 rfl ?_ rfl | refine O9 rfl ?_ rfl | refine U1 _ (U4 rfl rfl) rfl ?_ | refine U1 _ (U5 rfl rfl) rfl ?_ | refine U1 _ (U2 rfl) rfl ?_ | refine U1 _ (U3 tok rfl rfl rfl rfl rfl) rfl ?_) | (refine M4 ?_; first | refine M6 ?_ | refine U6 rfl (by kernel_rfl) ?_ | refine U7 (by kernel_rfl) ?_) | (refine M5 ?_; first | exact M7 | refine U8 rfl ?_ | refine U9 rfl rfl ?_ ?_))
  rw [show decide (o < ls) = false from decide_eq_false (by omega)]
  repeat (first | (refine M0 ?_; first | refine O0 ?_ | refine z1 tok rfl ?_ | refine O1 rfl ?_ rfl | refine O2 rfl ?_ | refine O3 rfl ?_ rfl | refine O4 rfl rfl rfl (fun _ _ => ?_) | refine O5 tok rfl rfl rfl (fun _ _ => ?_) | refine U0 _ (U2 rfl) rfl ?_ | refine U0 _ (U3 tok rfl rfl rfl rfl rfl) rfl ?_ | refine z3 tok rfl ?_ | refine U0 _ (U4 rfl rfl) rfl ?_ | refine U0 _ (U5 rfl rfl) rfl ?_) | (refine M1 ?_; first | refine J0 ?_ | refine J1 ?_ | refine J4 ?_ | refine J5 ?_ | refine J6 ?_ | refine J7 ?_ | refine J8 rfl ?_ | refine J9 rfl ?_) | (refine M2 ?_; first | refine I0 ?_ | refine I1 ?_ | refine I2 ?_ | refine I3 ?_ | refine I4 ?_ | refine I5 ?_ | refine I6 rfl ?_ | refine I7 ?_ | refine I8 ?_ | refine z4 ?_) | (refine M3 ?_; first | refine O6 ?_ | refine z2 tok rfl ?_ | refine O8 rfl ?_ | refine O7 rfl ?_ rfl | refine O9 rfl ?_ rfl | refine U1 _ (U4 rfl rfl) rfl ?_ | refine U1 _ (U5 rfl rfl) rfl ?_ | refine U1 _ (U2 rfl) rfl ?_ | refine U1 _ (U3 tok rfl rfl rfl rfl rfl) rfl ?_) | (refine M4 ?_; first | refine M6 ?_ | refine U6 rfl (by kernel_rfl) ?_ | refine U7 (by kernel_rfl) ?_) | (refine M5 ?_; first | exact M7 | refine U8 rfl ?_ | refine U9 rfl rfl ?_ ?_))
  rw [show decide (N ≠ N) = false from decide_eq_false (fun h => h rfl)]
  repeat (first | (refine M0 ?_; first | refine O0 ?_ | refine z1 tok rfl ?_ | refine O1 rfl ?_ rfl | refine O2 rfl ?_ | refine O3 rfl ?_ rfl | refine O4 rfl rfl rfl (fun _ _ => ?_) | refine O5 tok rfl rfl rfl (fun _ _ => ?_) | refine U0 _ (U2 rfl) rfl ?_ | refine U0 _ (U3 tok rfl rfl rfl rfl rfl) rfl ?_ | refine z3 tok rfl ?_ | refine U0 _ (U4 rfl rfl) rfl ?_ | refine U0 _ (U5 rfl rfl) rfl ?_) | (refine M1 ?_; first | refine J0 ?_ | refine J1 ?_ | refine J4 ?_ | refine J5 ?_ | refine J6 ?_ | refine J7 ?_ | refine J8 rfl ?_ | refine J9 rfl ?_) | (refine M2 ?_; first | refine I0 ?_ | refine I1 ?_ | refine I2 ?_ | refine I3 ?_ | refine I4 ?_ | refine I5 ?_ | refine I6 rfl ?_ | refine I7 ?_ | refine I8 ?_ | refine z4 ?_) | (refine M3 ?_; first | refine O6 ?_ | refine z2 tok rfl ?_ | refine O8 rfl ?_ | refine O7 rfl ?_ rfl | refine O9 rfl ?_ rfl | refine U1 _ (U4 rfl rfl) rfl ?_ | refine U1 _ (U5 rfl rfl) rfl ?_ | refine U1 _ (U2 rfl) rfl ?_ | refine U1 _ (U3 tok rfl rfl rfl rfl rfl) rfl ?_) | (refine M4 ?_; first | refine M6 ?_ | refine U6 rfl (by kernel_rfl) ?_ | refine U7 (by kernel_rfl) ?_) | (refine M5 ?_; first | exact M7 | refine U8 rfl ?_ | refine U9 rfl rfl ?_ ?_))
  by_cases c1 : U = 0
  · rw [show decide (U = 0) = true from decide_eq_true c1]
    repeat (first | (refine M0 ?_; first | refine O0 ?_ | refine z1 tok rfl ?_ | refine O1 rfl ?_ rfl | refine O2 rfl ?_ | refine O3 rfl ?_ rfl | refine O4 rfl rfl rfl (fun _ _ => ?_) | refine O5 tok rfl rfl rfl (fun _ _ => ?_) | refine U0 _ (U2 rfl) rfl ?_ | refine U0 _ (U3 tok rfl rfl rfl rfl rfl) rfl ?_ | refine z3 tok rfl ?_ | refine U0 _ (U4 rfl rfl) rfl ?_ | refine U0 _ (U5 rfl rfl) rfl ?_) | (refine M1 ?_; first | refine J0 ?_ | refine J1 ?_ | refine J4 ?_ | refine J5 ?_ | refine J6 ?_ | refine J7 ?_ | refine J8 rfl ?_ | refine J9 rfl ?_) | (refine M2 ?_; first | refine I0 ?_ | refine I1 ?_ | refine I2 ?_ | refine I3 ?_ | refine I4 ?_ | refine I5 ?_ | refine I6 rfl ?_ | refine I7 ?_ | refine I8 ?_ | refine z4 ?_) | (refine M3 ?_; first | refine O6 ?_ | refine z2 tok rfl ?_ | refine O8 rfl ?_ | refine O7 rfl ?_ rfl | refine O9 rfl ?_ rfl | refine U1 _ (U4 rfl rfl) rfl ?_ | refine U1 _ (U5 rfl rfl) rfl ?_ | refine U1 _ (U2 rfl) rfl ?_ | refine U1 _ (U3 tok rfl rfl rfl rfl rfl) rfl ?_) | (refine M4 ?_; first | refine M6 ?_ | refine U6 rfl (by kernel_rfl) ?_ | refine U7 (by kernel_rfl) ?_) | (refine M5 ?_; first | exact M7 | refine U8 rfl ?_ | refine U9 rfl rfl ?_ ?_))
    by_cases c2 : ls ≤ O
    · rw [show decide (ls ≤ O) = true from decide_eq_true c2]
      have c3 := hmin c1 c2
      repeat (first | (refine M0 ?_; first | refine O0 ?_ | refine z1 tok rfl ?_ | refine O1 rfl ?_ rfl | refine O2 rfl ?_ | refine O3 rfl ?_ rfl | refine O4 rfl rfl rfl (fun _ _ => ?_) | refine O5 tok rfl rfl rfl (fun _ _ => ?_) | refine U0 _ (U2 rfl) rfl ?_ | refine U0 _ (U3 tok rfl rfl rfl rfl rfl) rfl ?_ | refine z3 tok rfl ?_ | refine U0 _ (U4 rfl rfl) rfl ?_ | refine U0 _ (U5 rfl rfl) rfl ?_) | (refine M1 ?_; first | refine J0 ?_ | refine J1 ?_ | refine J4 ?_ | refine J5 ?_ | refine J6 ?_ | refine J7 ?_ | refine J8 rfl ?_ | refine J9 rfl ?_) | (refine M2 ?_; first | refine I0 ?_ | refine I1 ?_ | refine I2 ?_ | refine I3 ?_ | refine I4 ?_ | refine I5 ?_ | refine I6 rfl ?_ | refine I7 ?_ | refine I8 ?_ | refine z4 ?_) | (refine M3 ?_; first | refine O6 ?_ | refine z2 tok rfl ?_ | refine O8 rfl ?_ | refine O7 rfl ?_ rfl | refine O9 rfl ?_ rfl | refine U1 _ (U4 rfl rfl) rfl ?_ | refine U1 _ (U5 rfl rfl) rfl ?_ | refine U1 _ (U2 rfl) rfl ?_ | refine U1 _ (U3 tok rfl rfl rfl rfl rfl) rfl ?_) | (refine M4 ?_; first | refine M6 ?_ | refine U6 rfl (by kernel_rfl) ?_ | refine U7 (by kernel_rfl) ?_) | (refine M5 ?_; first | exact M7 | refine U8 rfl ?_ | refine U9 rfl rfl ?_ ?_))
      rw [show decide (M < N) = false from decide_eq_false (by omega)]
      repeat (first | (refine M0 ?_; first | refine O0 ?_ | refine z1 tok rfl ?_ | refine O1 rfl ?_ rfl | refine O2 rfl ?_ | refine O3 rfl ?_ rfl | refine U0 _ (Ev.conv Try.underlying48 Try.underlying3 rfl hw16) rfl ?_ | refine O4 rfl rfl rfl (fun _ _ => ?_) | refine O5 tok rfl rfl rfl (fun _ _ => ?_) | refine U0 _ (U2 rfl) rfl ?_ | refine U0 _ (U3 tok rfl rfl rfl rfl rfl) rfl ?_ | refine z3 tok rfl ?_ | refine U0 _ (U4 rfl rfl) rfl ?_ | refine U0 _ (U5 rfl rfl) rfl ?_) | (refine M1 ?_; first | refine J0 ?_ | refine J1 ?_ | refine J4 ?_ | refine J5 ?_ | refine J6 ?_ | refine J7 ?_ | refine J8 rfl ?_ | refine J9 rfl ?_) | (refine M2 ?_; first | refine I0 ?_ | refine I1 ?_ | refine I2 ?_ | refine I3 ?_ | refine I4 ?_ | refine I5 ?_ | refine I6 rfl ?_ | refine I7 ?_ | refine I8 ?_ | refine z4 ?_) | (refine M3 ?_; first | refine O6 ?_ | refine z2 tok rfl ?_ | refine O8 rfl ?_ | refine O7 rfl ?_ rfl | refine O9 rfl ?_ rfl | refine U1 _ (Ev.conv Try.underlying48 Try.underlying3 rfl hw16) rfl ?_ | refine U1 _ (U4 rfl rfl) rfl ?_ | refine U1 _ (U5 rfl rfl) rfl ?_ | refine U1 _ (U2 rfl) rfl ?_ | refine U1 _ (U3 tok rfl rfl rfl rfl rfl) rfl ?_) | (refine M4 ?_; first | refine M6 ?_ | refine U6 rfl (by kernel_rfl) ?_ | refine U7 (by kernel_rfl) ?_) | (refine M5 ?_; first | exact M7 | refine U8 rfl ?_ | refine U9 rfl rfl ?_ ?_))
      rw [← hl0]
      refine XL.callF (wE := w) (CheV t s tick bef l0) (ck rfl) rfl rfl hF2 hk2 hB2 (fun w1 S1 _ hB1 => hche2 w1 hB1) (fun w3 x new hR hF3 hB3 hk3 => ?_) (by intro e he; repeat (first | (cases he; done) | (rcases List.mem_cons.1 he with rfl | he; · first | (right; assumption) | (left; simp <;> fail))))
      obtain ⟨q3, rfl, rfl⟩ := hR
      rw [k1, ← hk]
      repeat (first | (refine M0 ?_; first | refine O0 ?_ | refine z1 tok rfl ?_ | refine O1 rfl ?_ rfl | refine O2 rfl ?_ | refine O3 rfl ?_ rfl | refine O4 rfl rfl rfl (fun _ _ => ?_) | refine O5 tok rfl rfl rfl (fun _ _ => ?_) | refine U0 _ (U2 rfl) rfl ?_ | refine U0 _ (U3 tok rfl rfl rfl rfl rfl) rfl ?_ | refine z3 tok rfl ?_ | refine U0 _ (U4 rfl rfl) rfl ?_ | refine U0 _ (U5 rfl rfl) rfl ?_) | (refine M1 ?_; first | refine J0 ?_ | refine J1 ?_ | refine J4 ?_ | refine J5 ?_ | refine J6 ?_ | refine J7 ?_ | refine J8 rfl ?_ | refine J9 rfl ?_) | (refine M2 ?_; first | refine I0 ?_ | refine I1 ?_ | refine I2 ?_ | refine I3 ?_ | refine I4 ?_ | refine I5 ?_ | refine I6 rfl ?_ | refine I7 ?_ | refine I8 ?_ | refine z4 ?_) | (refine M3 ?_; first | refine O6 ?_ | refine z2 tok rfl ?_ | refine O8 rfl ?_ | refine O7 rfl ?_ rfl | refine O9 rfl ?_ rfl | refine U1 _ (U4 rfl rfl) rfl ?_ | refine U1 _ (U5 rfl rfl) rfl ?_ | refine U1 _ (U2 rfl) rfl ?_ | refine U1 _ (U3 tok rfl rfl rfl rfl rfl) rfl ?_) | (refine M4 ?_; first | refine M6 ?_ | refine U6 rfl (by kernel_rfl) ?_ | refine U7 (by kernel_rfl) ?_) | (refine M5 ?_; first | exact M7 | refine U8 rfl ?_ | refine U9 rfl rfl ?_ ?_))
      rw [show decide (k ≤ N) = true from decide_eq_true k2]
      repeat (first | (refine M0 ?_; first | refine O0 ?_ | refine z1 tok rfl ?_ | refine O1 rfl ?_ rfl | refine O2 rfl ?_ | refine O3 rfl ?_ rfl | refine U0 _ (Ev.call (f := 19) (ck rfl) rfl (fun w5 S5 => haw w5 S5)) rfl ?_ | refine O4 rfl rfl rfl (fun _ _ => ?_) | refine O5 tok rfl rfl rfl (fun _ _ => ?_) | refine U0 _ (U2 rfl) rfl ?_ | refine U0 _ (U3 tok rfl rfl rfl rfl rfl) rfl ?_ | refine z3 tok rfl ?_ | refine U0 _ (U4 rfl rfl) rfl ?_ | refine U0 _ (U5 rfl rfl) rfl ?_) | (refine M1 ?_; first | refine J0 ?_ | refine J1 ?_ | refine J4 ?_ | refine J5 ?_ | refine J6 ?_ | refine J7 ?_ | refine J8 rfl ?_ | refine J9 rfl ?_) | (refine M2 ?_; first | refine I0 ?_ | refine I1 ?_ | refine I2 ?_ | refine I3 ?_ | refine I4 ?_ | refine I5 ?_ | refine I6 rfl ?_ | refine I7 ?_ | refine I8 ?_ | refine z4 ?_) | (refine M3 ?_; first | refine O6 ?_ | refine z2 tok rfl ?_ | refine O8 rfl ?_ | refine O7 rfl ?_ rfl | refine O9 rfl ?_ rfl | refine U1 _ (Ev.call (f := 19) (ck rfl) rfl (fun w5 S5 => haw w5 S5)) rfl ?_ | refine U1 _ (U4 rfl rfl) rfl ?_ | refine U1 _ (U5 rfl rfl) rfl ?_ | refine U1 _ (U2 rfl) rfl ?_ | refine U1 _ (U3 tok rfl rfl rfl rfl rfl) rfl ?_) | (refine M4 ?_; first | refine M6 ?_ | refine U6 rfl (by kernel_rfl) ?_ | refine U7 (by kernel_rfl) ?_) | (refine M5 ?_; first | exact M7 | refine U8 rfl ?_ | refine U9 rfl rfl ?_ ?_))
      refine XE.retg tok Try.results14 rfl (by simp only [and_self, and_true]) (fun w' S => ?_)
      exact ⟨rfl, hB3.trans S.toBelow⟩
    · rw [show decide (ls ≤ O) = false from decide_eq_false c2]
      repeat (first | (refine M0 ?_; first | refine O0 ?_ | refine z1 tok rfl ?_ | refine O1 rfl ?_ rfl | refine O2 rfl ?_ | refine O3 rfl ?_ rfl | refine U0 _ (Ev.conv Try.underlying48 Try.underlying3 rfl hw16) rfl ?_ | refine O4 rfl rfl rfl (fun _ _ => ?_) | refine O5 tok rfl rfl rfl (fun _ _ => ?_) | refine U0 _ (U2 rfl) rfl ?_ | refine U0 _ (U3 tok rfl rfl rfl rfl rfl) rfl ?_ | refine z3 tok rfl ?_ | refine U0 _ (U4 rfl rfl) rfl ?_ | refine U0 _ (U5 rfl rfl) rfl ?_) | (refine M1 ?_; first | refine J0 ?_ | refine J1 ?_ | refine J4 ?_ | refine J5 ?_ | refine J6 ?_ | refine J7 ?_ | refine J8 rfl ?_ | refine J9 rfl ?_) | (refine M2 ?_; first | refine I0 ?_ | refine I1 ?_ | refine I2 ?_ | refine I3 ?_ | refine I4 ?_ | refine I5 ?_ | refine I6 rfl ?_ | refine I7 ?_ | refine I8 ?_ | refine z4 ?_) | (refine M3 ?_; first | refine O6 ?_ | refine z2 tok rfl ?_ | refine O8 rfl ?_ | refine O7 rfl ?_ rfl | refine O9 rfl ?_ rfl | refine U1 _ (Ev.conv Try.underlying48 Try.underlying3 rfl hw16) rfl ?_ | refine U1 _ (U4 rfl rfl) rfl ?_ | refine U1 _ (U5 rfl rfl) rfl ?_ | refine U1 _ (U2 rfl) rfl ?_ | refine U1 _ (U3 tok rfl rfl rfl rfl rfl) rfl ?_) | (refine M4 ?_; first | refine M6 ?_ | refine U6 rfl (by kernel_rfl) ?_ | refine U7 (by kernel_rfl) ?_) | (refine M5 ?_; first | exact M7 | refine U8 rfl ?_ | refine U9 rfl rfl ?_ ?_))
      rw [← hl0]
      refine XL.callF (wE := w) (CheV t s tick bef l0) (ck rfl) rfl rfl hF2 hk2 hB2 (fun w1 S1 _ hB1 => hche2 w1 hB1) (fun w3 x new hR hF3 hB3 hk3 => ?_) (by intro e he; repeat (first | (cases he; done) | (rcases List.mem_cons.1 he with rfl | he; · first | (right; assumption) | (left; simp <;> fail))))
      obtain ⟨q3, rfl, rfl⟩ := hR
      rw [k1, ← hk]
      repeat (first | (refine M0 ?_; first | refine O0 ?_ | refine z1 tok rfl ?_ | refine O1 rfl ?_ rfl | refine O2 rfl ?_ | refine O3 rfl ?_ rfl | refine O4 rfl rfl rfl (fun _ _ => ?_) | refine O5 tok rfl rfl rfl (fun _ _ => ?_) | refine U0 _ (U2 rfl) rfl ?_ | refine U0 _ (U3 tok rfl rfl rfl rfl rfl) rfl ?_ | refine z3 tok rfl ?_ | refine U0 _ (U4 rfl rfl) rfl ?_ | refine U0 _ (U5 rfl rfl) rfl ?_) | (refine M1 ?_; first | refine J0 ?_ | refine J1 ?_ | refine J4 ?_ | refine J5 ?_ | refine J6 ?_ | refine J7 ?_ | refine J8 rfl ?_ | refine J9 rfl ?_) | (refine M2 ?_; first | refine I0 ?_ | refine I1 ?_ | refine I2 ?_ | refine I3 ?_ | refine I4 ?_ | refine I5 ?_ | refine I6 rfl ?_ | refine I7 ?_ | refine I8 ?_ | refine z4 ?_) | (refine M3 ?_; first | refine O6 ?_ | refine z2 tok rfl ?_ | refine O8 rfl ?_ | refine O7 rfl ?_ rfl | refine O9 rfl ?_ rfl | refine U1 _ (U4 rfl rfl) rfl ?_ | refine U1 _ (U5 rfl rfl) rfl ?_ | refine U1 _ (U2 rfl) rfl ?_ | refine U1 _ (U3 tok rfl rfl rfl rfl rfl) rfl ?_) | (refine M4 ?_; first | refine M6 ?_ | refine U6 rfl (by kernel_rfl) ?_ | refine U7 (by kernel_rfl) ?_) | (refine M5 ?_; first | exact M7 | refine U8 rfl ?_ | refine U9 rfl rfl ?_ ?_))
      rw [show decide (k ≤ N) = true from decide_eq_true k2]
      repeat (first | (refine M0 ?_; first | refine O0 ?_ | refine z1 tok rfl ?_ | refine O1 rfl ?_ rfl | refine O2 rfl ?_ | refine O3 rfl ?_ rfl | refine U0 _ (Ev.call (f := 19) (ck rfl) rfl (fun w5 S5 => haw w5 S5)) rfl ?_ | refine O4 rfl rfl rfl (fun _ _ => ?_) | refine O5 tok rfl rfl rfl (fun _ _ => ?_) | refine U0 _ (U2 rfl) rfl ?_ | refine U0 _ (U3 tok rfl rfl rfl rfl rfl) rfl ?_ | refine z3 tok rfl ?_ | refine U0 _ (U4 rfl rfl) rfl ?_ | refine U0 _ (U5 rfl rfl) rfl ?_) | (refine M1 ?_; first | refine J0 ?_ | refine J1 ?_ | refine J4 ?_ | refine J5 ?_ | refine J6 ?_ | refine J7 ?_ | refine J8 rfl ?_ | refine J9 rfl ?_) | (refine M2 ?_; first | refine I0 ?_ | refine I1 ?_ | refine I2 ?_ | refine I3 ?_ | refine I4 ?_ | refine I5 ?_ | refine I6 rfl ?_ | refine I7 ?_ | refine I8 ?_ | refine z4 ?_) | (refine M3 ?_; first | refine O6 ?_ | refine z2 tok rfl ?_ | refine O8 rfl ?_ | refine O7 rfl ?_ rfl | refine O9 rfl ?_ rfl | refine U1 _ (Ev.call (f := 19) (ck rfl) rfl (fun w5 S5 => haw w5 S5)) rfl ?_ | refine U1 _ (U4 rfl rfl) rfl ?_ | refine U1 _ (U5 rfl rfl) rfl ?_ | refine U1 _ (U2 rfl) rfl ?_ | refine U1 _ (U3 tok rfl rfl rfl rfl rfl) rfl ?_) | (refine M4 ?_; first | refine M6 ?_ | refine U6 rfl (by kernel_rfl) ?_ | refine U7 (by kernel_rfl) ?_) | (refine M5 ?_; first | exact M7 | refine U8 rfl ?_ | refine U9 rfl rfl ?_ ?_))
      refine XE.retg tok Try.results14 rfl (by simp only [and_self, and_true]) (fun w' S => ?_)
      exact ⟨rfl, hB3.trans S.toBelow⟩
  · rw [show decide (U = 0) = false from decide_eq_false c1]
    repeat (first | (refine M0 ?_; first | refine O0 ?_ | refine z1 tok rfl ?_ | refine O1 rfl ?_ rfl | refine O2 rfl ?_ | refine O3 rfl ?_ rfl | refine U0 _ (Ev.conv Try.underlying48 Try.underlying3 rfl hw16) rfl ?_ | refine O4 rfl rfl rfl (fun _ _ => ?_) | refine O5 tok rfl rfl rfl (fun _ _ => ?_) | refine U0 _ (U2 rfl) rfl ?_ | refine U0 _ (U3 tok rfl rfl rfl rfl rfl) rfl ?_ | refine z3 tok rfl ?_ | refine U0 _ (U4 rfl rfl) rfl ?_ | refine U0 _ (U5 rfl rfl) rfl ?_) | (refine M1 ?_; first | refine J0 ?_ | refine J1 ?_ | refine J4 ?_ | refine J5 ?_ | refine J6 ?_ | refine J7 ?_ | refine J8 rfl ?_ | refine J9 rfl ?_) | (refine M2 ?_; first | refine I0 ?_ | refine I1 ?_ | refine I2 ?_ | refine I3 ?_ | refine I4 ?_ | refine I5 ?_ | refine I6 rfl ?_ | refine I7 ?_ | refine I8 ?_ | refine z4 ?_) | (refine M3 ?_; first | refine O6 ?_ | refine z2 tok rfl ?_ | refine O8 rfl ?_ | refine O7 rfl ?_ rfl | refine O9 rfl ?_ rfl | refine U1 _ (Ev.conv Try.underlying48 Try.underlying3 rfl hw16) rfl ?_ | refine U1 _ (U4 rfl rfl) rfl ?_ | refine U1 _ (U5 rfl rfl) rfl ?_ | refine U1 _ (U2 rfl) rfl ?_ | refine U1 _ (U3 tok rfl rfl rfl rfl rfl) rfl ?_) | (refine M4 ?_; first | refine M6 ?_ | refine U6 rfl (by kernel_rfl) ?_ | refine U7 (by kernel_rfl) ?_) | (refine M5 ?_; first | exact M7 | refine U8 rfl ?_ | refine U9 rfl rfl ?_ ?_))
    rw [← hl0]
    refine XL.callF (wE := w) (CheV t s tick bef l0) (ck rfl) rfl rfl hF2 hk2 hB2 (fun w1 S1 _ hB1 => hche2 w1 hB1) (fun w3 x new hR hF3 hB3 hk3 => ?_) (by intro e he; repeat (first | (cases he; done) | (rcases List.mem_cons.1 he with rfl | he; · first | (right; assumption) | (left; simp <;> fail))))
    obtain ⟨q3, rfl, rfl⟩ := hR
    rw [k1, ← hk]
    repeat (first | (refine M0 ?_; first | refine O0 ?_ | refine z1 tok rfl ?_ | refine O1 rfl ?_ rfl | refine O2 rfl ?_ | refine O3 rfl ?_ rfl | refine O4 rfl rfl rfl (fun _ _ => ?_) | refine O5 tok rfl rfl rfl (fun _ _ => ?_) | refine U0 _ (U2 rfl) rfl ?_ | refine U0 _ (U3 tok rfl rfl rfl rfl rfl) rfl ?_ | refine z3 tok rfl ?_ | refine U0 _ (U4 rfl rfl) rfl ?_ | refine U0 _ (U5 rfl rfl) rfl ?_) | (refine M1 ?_; first | refine J0 ?_ | refine J1 ?_ | refine J4 ?_ | refine J5 ?_ | refine J6 ?_ | refine J7 ?_ | refine J8 rfl ?_ | refine J9 rfl ?_) | (refine M2 ?_; first | refine I0 ?_ | refine I1 ?_ | refine I2 ?_ | refine I3 ?_ | refine I4 ?_ | refine I5 ?_ | refine I6 rfl ?_ | refine I7 ?_ | refine I8 ?_ | refine z4 ?_) | (refine M3 ?_; first | refine O6 ?_ | refine z2 tok rfl ?_ | refine O8 rfl ?_ | refine O7 rfl ?_ rfl | refine O9 rfl ?_ rfl | refine U1 _ (U4 rfl rfl) rfl ?_ | refine U1 _ (U5 rfl rfl) rfl ?_ | refine U1 _ (U2 rfl) rfl ?_ | refine U1 _ (U3 tok rfl rfl rfl rfl rfl) rfl ?_) | (refine M4 ?_; first | refine M6 ?_ | refine U6 rfl (by kernel_rfl) ?_ | refine U7 (by kernel_rfl) ?_) | (refine M5 ?_; first | exact M7 | refine U8 rfl ?_ | refine U9 rfl rfl ?_ ?_))
    rw [show decide (k ≤ N) = true from decide_eq_true k2]
    repeat (first | (refine M0 ?_; first | refine O0 ?_ | refine z1 tok rfl ?_ | refine O1 rfl ?_ rfl | refine O2 rfl ?_ | refine O3 rfl ?_ rfl | refine U0 _ (Ev.call (f := 19) (ck rfl) rfl (fun w5 S5 => haw w5 S5)) rfl ?_ | refine O4 rfl rfl rfl (fun _ _ => ?_) | refine O5 tok rfl rfl rfl (fun _ _ => ?_) | refine U0 _ (U2 rfl) rfl ?_ | refine U0 _ (U3 tok rfl rfl rfl rfl rfl) rfl ?_ | refine z3 tok rfl ?_ | refine U0 _ (U4 rfl rfl) rfl ?_ | refine U0 _ (U5 rfl rfl) rfl ?_) | (refine M1 ?_; first | refine J0 ?_ | refine J1 ?_ | refine J4 ?_ | refine J5 ?_ | refine J6 ?_ | refine J7 ?_ | refine J8 rfl ?_ | refine J9 rfl ?_) | (refine M2 ?_; first | refine I0 ?_ | refine I1 ?_ | refine I2 ?_ | refine I3 ?_ | refine I4 ?_ | refine I5 ?_ | refine I6 rfl ?_ | refine I7 ?_ | refine I8 ?_ | refine z4 ?_) | (refine M3 ?_; first | refine O6 ?_ | refine z2 tok rfl ?_ | refine O8 rfl ?_ | refine O7 rfl ?_ rfl | refine O9 rfl ?_ rfl | refine U1 _ (Ev.call (f := 19) (ck rfl) rfl (fun w5 S5 => haw w5 S5)) rfl ?_ | refine U1 _ (U4 rfl rfl) rfl ?_ | refine U1 _ (U5 rfl rfl) rfl ?_ | refine U1 _ (U2 rfl) rfl ?_ | refine U1 _ (U3 tok rfl rfl rfl rfl rfl) rfl ?_) | (refine M4 ?_; first | refine M6 ?_ | refine U6 rfl (by kernel_rfl) ?_ | refine U7 (by kernel_rfl) ?_) | (refine M5 ?_; first | exact M7 | refine U8 rfl ?_ | refine U9 rfl rfl ?_ ?_))
    refine XE.retg tok Try.results14 rfl (by simp only [and_self, and_true]) (fun w' S => ?_)
    exact ⟨rfl, hB3.trans S.toBelow⟩
end Go.Proofs.Ytmodjcegmgjhoaa.X
