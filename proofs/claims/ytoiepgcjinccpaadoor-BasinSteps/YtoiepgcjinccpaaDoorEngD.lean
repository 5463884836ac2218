/-
  A walk by lemmas (13): a slice against nil; arrays as values; the world at hand as the new base; what a slice of one's own is behind a call.
-/
import Derived.Test.YtoiepgcjinccpaaDoorEngC
import Derived.WalkSpells
namespace Go.Proofs.YtoiepgcjinccpaaDoor.X
open Go Go.RowKit
set_option linter.unusedVariables false
section
variable {P : Program} {T : TT} {N : Nat} {B : Nat} {w0 : World} {ds : List Deferred} {Q : Exit → Act → World → Prop} {F : Fr} {L L' : Lo} {pu : Prop} {ops : Array Oper} {rest : List Oper}
variable {dst : Option Tmp} {ty : TypeId} {p : String} {af : Array Edge} {gd : Option (Nat × Bool)}
theorem XL.rebase (hs : List.Sublist L' L) (k : ∀ w1, Sys B w0 L w1 → XL P N B w1 ds Q ops rest F L') : XL P N B w0 ds Q ops rest F L :=
  ⟨fun a w hf h => (k w h).run a w hf (h.rebase hs)⟩
theorem XC.rebase {c : Code} (hs : List.Sublist L' L) (k : ∀ w1, Sys B w0 L w1 → XC P N B w1 ds Q c F L') : XC P N B w0 ds Q c F L :=
  ⟨fun a w hf h => (k w h).run a w hf (h.rebase hs)⟩
theorem Ev.eqNil (hT : TOK P T) {x y : Operand} {t e es : Nat} {u : TypeId} {A : Option Addr} {n c : Nat} (hx : evo F x = some (.slice A n c)) (hy : evo F y = some (.slice none 0 0)) (hs : lkG T.sl t = some (e, es)) :
    Ev P N B w0 ds pu F L ⟨dst, .binOp .eql t x y u, ty, p, af, gd⟩ (.bool A.isNone) := .of_run fun a w hf hw => by
  have h := tab_ok hT.sl hs
  unfold slOf at h
  cases hu : P.underlying t with
  | none => rw [hu] at h; cases h
  | some d =>
    rw [hu] at h
    cases d <;> simp at h
    rename_i e'
    have h1 := Lib.run_eql_slice_nil (P := P) w t e' A n c 0 0 hu
    have h2 : (eqGuard .eql t x y (.slice A n c) (.slice none 0 0)).run P w = .ok () w := by simp [eqGuard]
    simp only [execOp, hf.eval hx, hf.eval hy, Sem.run_bind, h2, Result.andThen_ok, h1, Sem.run_pure]
/-- a call that turns one own block. -/
theorem XL.callT (i : Nat) {f : FuncId} {d : Nat} {c : Operand} {fst cap : List Value} {args : Array Operand} {vs : List Value} {ats : Array TypeId} {g B' : Nat} {o o' : Obj} {v : Value} (h : callOk P f = true)
    (hcv : evo F c = some (.func (.func f) fst.toArray cap.toArray)) (ha : evos F args.toList = some vs) (hd : Nat.blt d N = true) (hL : L[i]? = some (g, o)) (hL' : setN L i (g, o') = some L')
    (hc : ∀ w, Sys B w0 L w → Calls P f (fst ++ vs ++ cap).toArray w fun e w' => e = .returned v ∧ Sys B' w [(g, o')] w') (k : XL P N B w0 ds Q ops rest ((d, v) :: F) L') :
    XL P N B w0 ds Q ops ({ dst := some d, op := .call { callee := .value c, args := args, argTypes := ats }, type := ty, pos := p, after := af, guard := none } :: rest) F L :=
  XL.callr (fun w u w' => u = v ∧ Sys B' w [(g, o')] w') h hcv ha hd (fun w S => (hc w S).mono fun e w' he => ⟨v, he.1, rfl, he.2⟩)
    (fun w u w' S hR => ⟨L', w0, S.turned i hL hL' hR.2, by rw [hR.1]; exact k⟩)
theorem set_cases {i g : Nat} {o o' : Obj} (nd : (L.map (·.1)).Nodup) (hi : L[i]? = some (g, o)) : (L.set i (g, o')).map (·.1) = L.map (·.1) ∧ ∀ e, e ∈ L.set i (g, o') → e = (g, o') ∨ (e ∈ L ∧ e.1 ≠ g) := by
  have hlt : i < L.length := (List.getElem?_eq_some_iff.1 hi).1
  have hLi : L[i] = (g, o) := (List.getElem?_eq_some_iff.1 hi).2
  refine ⟨?_, fun e he => ?_⟩
  · rw [List.map_set]
    have : (L.map (·.1))[i]'(by simpa using hlt) = g := by simp [hLi]
    conv => rhs; rw [← List.set_getElem_self (as := L.map (·.1)) (i := i) (by simpa using hlt)]
    rw [this]
  · obtain ⟨j, hj, rfl⟩ := List.mem_iff_getElem.1 he
    by_cases hij : i = j
    · subst hij; left; simp
    · right
      rw [List.getElem_set_ne hij]
      simp at hj
      refine ⟨List.getElem_mem _, fun e2 => ?_⟩
      have hn := List.getElem_inj (xs := L.map (·.1)) (i := i) (j := j) (h₀ := by simpa using hlt) (h₁ := by simpa using hj) nd
      exact hij (hn.1 (by simp [hLi, e2]))
/-- one own block has been turned, and one of no matter here. -/
theorem Sys.turnedF {w5 w6 : World} {B' g f : Nat} {o o' o2 : Obj} (S : Sys B w0 L w5) (i : Nat) (hL : L[i]? = some (g, o)) (hL' : setN L i (g, o') = some L') (h' : Sys B' w5 [(g, o'), (f, o2)] w6) (hf : ∀ e, e ∈ L → e.1 ≠ f) : Sys B w6 L' w6 := by
  obtain ⟨e, _⟩ := setN_spec _ _ _ _ hL'
  subst e
  obtain ⟨h1, h2⟩ := set_cases (o' := o') S.nd hL
  refine Sys.start (Nat.le_trans S.base (Nat.le_trans S.size h'.size)) (fun x hx => ?_) (by rw [h1]; exact S.nd)
  rcases h2 x hx with rfl | ⟨hm, hne⟩
  · exact ⟨(S.own _ (List.mem_of_getElem? hL)).1, (h'.own _ (List.mem_cons_self)).2⟩
  · refine ⟨(S.own x hm).1, ?_⟩
    rw [h'.old x.1 (S.lt hm) (fun y hy e1 => ?_)]
    · exact (S.own x hm).2
    · simp only [List.mem_cons, List.not_mem_nil, or_false] at hy
      rcases hy with rfl | rfl
      · exact hne e1.symm
      · exact hf x hm e1.symm
/-- an array of one-cell elements is built. -/
theorem Ev.buildArr (hT : TOK P T) {t e n : Nat} {parts : List (Nat × Operand)} {z : Value} {zs cs : List Value} (hu : P.underlying t = some (.array n e)) (he : (P.info? e).map (·.size) = some 1) (hz : lkG T.zero t = some z) (hzs : cellsO z = some zs)
    (hc : fillS F 1 zs parts = some cs) : Ev P N B w0 ds pu F L ⟨dst, .build t parts.toArray, ty, p, af, gd⟩ (.agg cs.toArray) := .of_run fun a w hf hw => by
  cases hi : P.info? e with
  | none => rw [hi] at he; cases he
  | some i =>
    rw [hi] at he
    simp only [Option.map_some, Option.some.injEq] at he
    have hfill := fillS_spec hf parts zs cs hc (by decide)
    simp only [execOp, Instr.build, Sem.run_bind, zero_run hT hz, Result.andThen_ok, run_underlying hu, sizeOf_run hi, he, cellsO_spec hzs, List.map_toArray]
    rw [hfill]
    simp
theorem Ev.indexArr (hT : TOK P T) {t e n : Nat} {x i : Operand} {cs : List Value} {k : IntKind} {j : Nat} {v : Value} (hu : P.underlying t = some (.array n e)) (he : lkG T.one e = some ()) (hx : evo F x = some (.agg cs.toArray)) (hi : evo F i = some (.int k (j : Int))) (hj : j < n)
    (hv : cs[j]? = some v) : Ev P N B w0 ds pu F L ⟨dst, .index t x i, ty, p, af, gd⟩ v := .of_run fun a w hf hw => by
  obtain ⟨h1, h2⟩ := isAgg_of_one (tab_ok hT.one he) w
  simp [execOp, Instr.index, hf.eval hx, hf.eval hi, run_underlying hu, asIntOf, hj, h2, part, asAgg, h1, hv]
end
theorem owns_base {w : World} {base base' e size n : Nat} {v : Value} {xs : List Value} (h : w.ownsRow base e size v n xs) (hb : base' ≤ base) : w.ownsRow base' e size v n xs := by
  refine ⟨h.1, ?_⟩
  rcases h.2 with h | ⟨g, cap, cur, rfl, hb2, h⟩
  · exact .inl h
  · exact .inr ⟨g, cap, cur, rfl, by omega, h⟩
/-- its block, known whole. -/
theorem owns_block {w : World} {base e n : Nat} {A : Option Addr} {m c : Nat} {xs : List Value} (h : w.ownsRow base e 1 (.slice A m c) n xs) (hn : 0 < n) : ∃ g sp, A = some ⟨g, 0, none⟩ ∧ m = n ∧ base ≤ g ∧ w.heap[g]? = some (cel e (xs ++ sp)) ∧ xs.length + sp.length = c ∧ c ≤ maxLen := by
  rcases h.2 with ⟨e1, rfl⟩ | ⟨g, cap, cur, e1, hb, hg, hc, hm, hsz, hx⟩
  · omega
  · cases e1
    refine ⟨g, cur.toList.drop (n * 1), rfl, rfl, hb, ?_, ?_, hm⟩
    · rw [hg, ← hx, List.take_append_drop]
    · have := h.1
      have h2 : cur.toList.length = c := by simp [hsz]
      simp only [List.length_drop, h2]
      omega
theorem owns_of {w : World} {base e g n c : Nat} {xs sp : List Value} (hg : w.heap[g]? = some (cel e (xs ++ sp))) (hb : base ≤ g) (hn : xs.length = n) (hc : xs.length + sp.length = c) (hm : c ≤ maxLen) : w.ownsRow base e 1 (.slice (some ⟨g, 0, none⟩) n c) n xs :=
  ⟨by omega, .inr ⟨g, c, (xs ++ sp).toArray, rfl, hb, hg, by omega, hm, by simp; omega, by simp [← hn]⟩⟩
theorem IntsAt.own {w : World} {base e : Nat} {r : SV} {l : List Int} (h : w.ownsRow base e 1 (svV r) l.length (ints l)) : IntsAt w (Btw base w.heap.size) r l := by
  obtain ⟨h1, h2, _, h4⟩ := ReadsP.own h
  exact ⟨by rw [h2]; exact h1, by rw [h2]; simp only [maxLen] at h4; omega⟩
theorem IntsAt.nil {w : World} {ok : Nat → Prop} : IntsAt w ok ⟨none, 0, 0⟩ [] := ⟨ReadsP.nil, by simp⟩
theorem Keep.sysT {ok : Nat → Prop} {w0 w : World} {B : Nat} {L L' : Lo} (h : Keep ok w0 L) (S : Sys B w0 L' w) (e : L'.map (·.1) = L.map (·.1)) : ∀ k, ok k → w.heap[k]? = w0.heap[k]? := (h.turn e).sys S
end Go.Proofs.YtoiepgcjinccpaaDoor.X
