/-
  A walk by lemmas (12): elements of own blocks at a reckoned index; slices that are built; append to a slice of the call's own.
-/
import Derived.Test.YtoiepgcjinccpaaDoorEngB
import Derived.Test.YtoiepgcjinccpaaDoorBsMem2
namespace Go.Proofs.YtoiepgcjinccpaaDoor.X
open Go Go.RowKit
set_option linter.unusedVariables false
theorem setN_of_lt {α : Type} : ∀ (l : List α) (n : Nat) (x : α), n < l.length → setN l n x = some (l.set n x) := by
  intro l
  induction l with
  | nil => intro n x h; simp at h
  | cons a r ih => intro n x h; cases n with
    | zero => rfl
    | succ n => simp [setN, ih n x (by simpa using h)]
def elemOk (P : Program) (t e size bytes : Nat) : Bool :=
  match P.underlying t with
  | some (.slice e') => Nat.beq e' e && match P.info? e with
    | some i => Nat.beq i.size size && (Nat.beq i.bytes bytes && match i.zero with
      | some z => Nat.beq z.cells.size size
      | none => false)
    | none => false
  | _ => false
theorem elemOk_spec {P : Program} {t e size bytes : Nat} (h : elemOk P t e size bytes = true) : P.underlying t = some (.slice e) ∧ ∃ i z, P.info? e = some i ∧ i.zero = some z ∧ i.size = size ∧ i.bytes = bytes ∧ z.cells.size = size := by
  unfold elemOk at h
  split at h
  · rename_i e' hu
    simp only [Bool.and_eq_true] at h
    obtain ⟨h1, h2⟩ := h
    have := Nat.eq_of_beq_eq_true h1
    subst this
    refine ⟨hu, ?_⟩
    split at h2
    · rename_i i hi
      simp only [Bool.and_eq_true] at h2
      obtain ⟨h3, h4, h5⟩ := h2
      split at h5
      · rename_i z hz
        exact ⟨i, z, hi, hz, Nat.eq_of_beq_eq_true h3, Nat.eq_of_beq_eq_true h4, Nat.eq_of_beq_eq_true h5⟩
      · cases h5
    · cases h2
  · cases h
section
variable {P : Program} {T : TT} {N : Nat} {B : Nat} {w0 : World} {ds : List Deferred} {Q : Exit → Act → World → Prop} {F : Fr} {L : Lo} {pu : Prop} {ops : Array Oper} {rest : List Oper}
variable {dst : Option Tmp} {ty : TypeId} {p : String} {af : Array Edge} {gd : Option (Nat × Bool)}
theorem Sys.trans {L' : Lo} {w w' : World} (h : Sys B w0 L w) (k : Sys B w L' w') (hi : ∀ x, x ∈ L.map (·.1) → x ∈ L'.map (·.1)) : Sys B w0 L' w' :=
  ⟨k.os.trans h.os, k.tape.trans h.tape, k.output.trans h.output, Nat.le_trans h.size k.size, h.base, fun q hq hn => by
    have hL' : ∀ e, e ∈ L → e.1 ≠ q := fun e he e1 => by
      have := hi e.1 (List.mem_map.2 ⟨e, he, rfl⟩)
      obtain ⟨x, hx, e2⟩ := List.mem_map.1 this
      exact hn x hx (e2.trans e1)
    rw [k.old q (Nat.lt_of_lt_of_le hq h.size) hn, h.old q hq hL'], k.own, k.nd⟩
theorem Ev.load_at (hT : TOK P T) (i : Nat) {t : TypeId} {x : Operand} {g o j : Nat} {tg : TypeId} {cs : List Value} {v : Value} (hx : evo F x = some (.pointer (some ((⟨g, o, none⟩ : Addr).add j)))) (hL : L[i]? = some (g, cel tg cs))
    (h1 : lkG T.one t = some ()) (hv : cs[o + j]? = some v) : Ev P N B w0 ds pu F L ⟨dst, .load t x, ty, p, af, gd⟩ v := by
  rw [add_off] at hx
  exact Ev.load_loc hT i hx hL h1 hv
theorem XL.store_at (hT : TOK P T) (i : Nat) {t : TypeId} {x y : Operand} {g o j : Nat} {tg : TypeId} {v : Value} {cs : List Value} {L' : Lo}
    (hx : evo F x = some (.pointer (some ((⟨g, o, none⟩ : Addr).add j)))) (hy : evo F y = some v) (hL : L[i]? = some (g, cel tg cs)) (ht : lkG T.one t = some ()) (h1 : one1 v = true) (hj : o + j < cs.length)
    (hL' : setN L i (g, cel tg (cs.set (o + j) v)) = some L') (k : XL P N B w0 ds Q ops rest F L') :
    XL P N B w0 ds Q ops ({ dst := none, op := .store t x y, type := ty, pos := p, after := af, guard := none } :: rest) F L := by
  rw [add_off] at hx
  have hc : cellsO v = some [v] := by cases v <;> first | rfl | (simp [one1] at h1)
  refine XL.store hT i hx hy hL hc (.inl ⟨ht, rfl⟩) (by simp [h1]) ?_ hL' k
  simp [putN, setN_of_lt _ _ _ hj]

/-! ### a slice is built -/
def fillS (F : Fr) (size : Nat) : List Value → List (Nat × Operand) → Option (List Value)
  | cs, [] => some cs
  | cs, (i, x) :: r => match evo F x with
    | some v => match cellsO v with
      | some vs => match Nat.beq vs.length size with
        | true => match putN cs (i * size) vs with
          | some cs' => fillS F size cs' r
          | none => none
        | false => none
      | none => none
    | none => none
def zerosN (zs : List Value) : Nat → List Value
  | 0 => []
  | n + 1 => zs ++ zerosN zs n
/-- the same, forced. -/
def appO : List Value → List Value → Option (List Value)
  | [], l => some l
  | v :: r, l => match appO r l with
    | some x => some (v :: x)
    | none => none
def zerosO (zs : List Value) : Nat → Option (List Value)
  | 0 => some []
  | n + 1 => match zerosO zs n with
    | some l => appO zs l
    | none => none
theorem appO_eq : ∀ (a l : List Value), appO a l = some (a ++ l) := by
  intro a
  induction a with
  | nil => intro l; rfl
  | cons v r ih => intro l; simp [appO, ih]
theorem zerosO_eq (zs : List Value) : ∀ n, zerosO zs n = some (zerosN zs n) := by
  intro n
  induction n with
  | zero => rfl
  | succ n ih => simp [zerosO, ih, appO_eq, zerosN]
theorem fillS_spec {a : Act} (hf : Fits N ds F a) {size : Nat} : ∀ (ps : List (Nat × Operand)) (cs cs' : List Value), fillS F size cs ps = some cs' → 0 < size →
    Instr.fill (fun i => some (i * size, size)) cs.toArray (ps.map fun x => (x.1, a.eval x.2)) = some cs'.toArray := by
  intro ps
  induction ps with
  | nil => intro cs cs' h _; simp only [fillS, Option.some.injEq] at h; subst h; rfl
  | cons e r ih =>
    intro cs cs' h h0
    obtain ⟨i, x⟩ := e
    simp only [fillS] at h
    split at h
    · rename_i v hx
      split at h
      · rename_i vs hv
        split at h
        · rename_i hs
          split at h
          · rename_i cs1 hpn
            have hs' := Nat.eq_of_beq_eq_true hs
            obtain ⟨h1, h2, h3⟩ := putN_fold vs cs (i * size) cs1 0 (by simpa using hpn)
            have hc := cellsO_spec hv
            simp only [List.map_cons, Instr.fill, hf.eval hx, hc]
            have hz : vs.toArray.zipIdx = (vs.zipIdx 0).toArray := by simp
            rw [if_neg]
            · rw [hz]
              simp only [List.foldl_toArray]
              have : (List.foldl (fun cs (x : Value × Nat) => cs.setIfInBounds (i * size + x.2) x.1) cs.toArray (vs.zipIdx 0)) = cs1.toArray := h1
              rw [this]
              exact ih cs1 cs' h h0
            · intro hgt
              simp only [List.size_toArray, Bool.or_eq_true, decide_eq_true_eq, ne_eq, gt_iff_lt] at hgt
              rcases hgt with hgt | hgt
              · exact hgt hs'
              · have hne : vs ≠ [] := by intro e; subst e; simp at hs'; omega
                have := h3 hne; omega
          · cases h
        · cases h
      · cases h
    · cases h
theorem zerosN_len (zs : List Value) : ∀ n, (zerosN zs n).length = n * zs.length := by
  intro n
  induction n with
  | zero => simp [zerosN]
  | succ n ih => simp [zerosN, ih, Nat.succ_mul]; omega
theorem zerosN_at (zs : List Value) (hz : 0 < zs.length) : ∀ (n i : Nat), i < n * zs.length → (zerosN zs n)[i]? = zs[i % zs.length]? := by
  intro n
  induction n with
  | zero => intro i h; simp at h
  | succ n ih =>
    intro i h
    simp only [zerosN]
    by_cases hi : i < zs.length
    · rw [List.getElem?_append_left hi, Nat.mod_eq_of_lt hi]
    · rw [List.getElem?_append_right (by omega), ih (i - zs.length) (by rw [Nat.succ_mul] at h; omega)]
      congr 1
      rw [Nat.mod_eq_sub_mod (a := i) (by omega)]
theorem zeros_eq (zs : List Value) (hz : 0 < zs.length) (n : Nat) : (Array.range (n * zs.length)).map (fun i => zs.toArray[i % zs.toArray.size]!) = (zerosN zs n).toArray := by
  apply Array.ext
  · simp [zerosN_len]
  · intro i h1 h2
    have hi : i < n * zs.length := by simpa using h1
    have h3 := zerosN_at zs hz n i hi
    have hm : i % zs.length < zs.length := Nat.mod_lt _ hz
    have hlen : i < (zerosN zs n).length := by rw [zerosN_len]; exact hi
    rw [List.getElem?_eq_getElem hlen, List.getElem?_eq_getElem hm] at h3
    simp only [Array.getElem_map, Array.getElem_range, List.size_toArray, List.getElem_toArray, Option.some.injEq] at h3 ⊢
    rw [h3]
    simp [hm]
theorem XL.buildSlice (hT : TOK P T) {d : Nat} {t e : TypeId} {n size : Nat} {ps : List (Nat × Operand)} {z : Value} {zs cs : List Value} (hs : lkG T.sl t = some (e, size)) (hz : lkG T.zero e = some z) (hzs : cellsO z = some zs)
    (hsz : Nat.beq zs.length size = true) (h0 : Nat.blt 0 size = true) (hbig : Nat.ble (n * size) 16777216 = true) {zl : List Value} (hzl : zerosO zs n = some zl) (hc : fillS F size zl ps = some cs) (hd : Nat.blt d N = true)
    (k : ∀ g, w0.heap.size ≤ g → XL P N B w0 ds Q ops rest ((1000000 + d, .slice none L.length 0) :: (d, .slice (some ⟨g, 0, none⟩) n n) :: F) ((g, cel e cs) :: L)) :
    XL P N B w0 ds Q ops ({ dst := some d, op := .buildSlice t n ps.toArray, type := ty, pos := p, after := af, guard := none } :: rest) F L := by
  refine ⟨fun a w hf hw => ?_⟩
  refine wpList_plain rfl fun K hK => ?_
  unfold Oper.wp
  have hsz' := Nat.eq_of_beq_eq_true hsz
  have h0' : 0 < size := Nat.le_of_ble_eq_true h0
  have hbig' : n * size ≤ 16777216 := Nat.le_of_ble_eq_true hbig
  rw [zerosO_eq] at hzl
  obtain rfl := Option.some.inj hzl
  have : (execOp a.eval { dst := some d, op := .buildSlice t n ps.toArray, type := ty, pos := p, after := af, guard := none }).run P w = .ok (.value (.slice (some ⟨w.heap.size, 0, none⟩) n n)) (w.alloc (.cells cs.toArray e)) := by
    have h := tab_ok hT.sl hs
    unfold slOf at h
    cases hu : P.underlying t with
    | none => rw [hu] at h; cases h
    | some dd =>
      rw [hu] at h
      cases dd <;> simp at h
      obtain ⟨i, hi, rfl, rfl⟩ := h
      have hfill := fillS_spec hf ps _ _ hc h0'
      have hbig2 : ¬ (n * i.size > 2 ^ 24) := by omega
      by_cases hn : n = 0
      · subst hn
        simp only [zerosN] at hfill
        have hps : ((Array.range 0).map fun x => (#[] : Array Value)[x % (#[] : Array Value).size]!) = ([] : List Value).toArray := by simp
        simp only [execOp, Instr.buildSlice, Sem.run_bind, run_underlying hu, Result.andThen_ok, sizeOf_run hi, if_neg hbig2, Nat.zero_mul, if_pos, Sem.run_pure]
        have h20 : ¬ (0 > 2 ^ 24) := by decide
        simp only [if_neg h20, Sem.run_bind, Sem.run_pure, Result.andThen_ok]
        rw [hps]
        simp only [List.map_toArray]
        rw [hfill]
        simp [newRow]
      · have hne : ¬ (n * i.size = 0) := by intro e; rcases Nat.mul_eq_zero.1 e with h | h <;> omega
        have hzz := zeros_eq zs (by omega) n
        rw [hsz'] at hzz
        simp only [execOp, Instr.buildSlice, Sem.run_bind, run_underlying hu, Result.andThen_ok, sizeOf_run hi, if_neg hbig2, if_neg hne, zero_run hT hz, Sem.run_pure, cellsO_spec hzs]
        rw [hzz]
        simp only [List.map_toArray]
        rw [hfill]
        simp [newRow]
  rw [this]
  exact hK _ _ ((k w.heap.size hw.size).run _ _ ((hf.put hd).hint d _) (hw.box (cel e cs)))

/-! ### append to a slice of the call's own; the world behind it is the new base -/
/-- the new row is the old one, or a block that was not there. -/
theorem append_fresh {w : World} {base t ty e : Nat} {i : TypeInfo} {z : Value} {size bytes : Nat} (ht : P.underlying t = some (.slice e)) (hi : P.info? e = some i) (hz : i.zero = some z)
    (hsize : i.size = size) (hby : i.bytes = bytes) (hzs : z.cells.size = size) (hsz : 0 < size) {v : Value} {n : Nat} {xs : List Value} (hown : w.ownsRow base e size v n xs)
    {a : Addr} {m c : Nat} {news : List Value} (hl : news.length = m * size) (hnews : ∀ j u, news[j]? = some u → w.cell? (a.add j) = some u) (h1 : ∀ u ∈ news, u.oneCell' = true)
    (h63 : n + m ≤ maxLen) (hbytes : (n + m) * bytes ≤ 140737488355328) {v' : Value} {w' : World} (hrun : (Builtin.append_ #[t, t] ty #[v, .slice (some a) m c]).run P w = .ok v' w') :
    ∀ q, v'.ownBlock = some q → v.ownBlock = some q ∨ w.heap.size ≤ q := by
  intro q hq
  rcases hown.2 with ⟨rfl, rfl⟩ | ⟨g, cap, cur, rfl, hbg, hg, hc, hcm, hcs, htake⟩
  · have hx : xs = [] := List.eq_nil_of_length_eq_zero (by simpa using hown.1)
    subst hx
    obtain ⟨v2, w2, hr, ho, _⟩ := run_append_own w w.heap.size t ty e i z size bytes ht hi hz hsize hby hzs hsz (.slice none 0 0) 0 [] (World.ownsRow_nil w w.heap.size e size) a m c news hl hnews h1 h63 hbytes (Nat.le_refl _)
    rw [hrun] at hr
    cases hr
    exact .inr (ho.lt q hq).1
  · subst hsize hby
    by_cases hroom : n + m ≤ cap
    · have hfit : n * i.size + news.length ≤ cur.size := by rw [hl, hcs, ← Nat.add_mul]; exact Nat.mul_le_mul_right _ hroom
      have hr := run_append_room (P := P) w t ty e i ht hi g n cap cur hg a m c news hl hnews h1 hroom hfit
      rw [hrun] at hr
      cases hr
      exact .inl hq
    · have holds : ∀ j u, xs[j]? = some u → w.cell? ((⟨g, 0, none⟩ : Addr).add j) = some u := hown.cells (g := g) rfl
      simp only [maxLen] at h63
      have hr := run_append_grow (P := P) w t ty e i z ht hi hz ⟨g, 0, none⟩ n cap xs hown.1 holds a m c news hl hnews (by omega) (by omega) (growslice_fits (by omega) hbytes)
      rw [hrun] at hr
      cases hr
      simp only [Value.ownBlock, Option.some.injEq] at hq
      exact .inr (by omega)
theorem XL.append2 {d : Nat} {t e : TypeId} {x y : Operand} {v : Value} {n m c size bytes base : Nat} {xs news : List Value} {A : Addr} {L' : Lo} (he : elemOk P t e size bytes = true) (h0 : 0 < size)
    (hx : evo F x = some v) (hy : evo F y = some (.slice (some A) m c)) (hd : Nat.blt d N = true) (hown : w0.ownsRow base e size v n xs) (hsep : ∀ k, v.ownBlock = some k → ∀ e, e ∈ L → e.1 ≠ k)
    (hl : news.length = m * size) (hnews : ∀ w, Sys B w0 L w → ∀ j u, news[j]? = some u → w.cell? (A.add j) = some u) (h1 : news.all Value.oneCell' = true) (h63 : n + m ≤ maxLen) (hbytes : (n + m) * bytes ≤ 140737488355328) (hbase : base ≤ w0.heap.size)
    (hsub : List.Sublist L' L)
    (k : ∀ w v' w', Sys B w0 L w → w'.ownsRow base e size v' (n + m) (xs ++ news) → w.grownBy w' v.ownBlock → (v' = .slice none 0 0 ↔ v = .slice none 0 0 ∧ m = 0) → (∀ q, v'.ownBlock = some q → v.ownBlock = some q ∨ w.heap.size ≤ q) → XL P N B w' ds Q ops rest ((d, v') :: F) L') :
    XL P N B w0 ds Q ops ({ dst := some d, op := .call { callee := .builtin .append, args := #[x, y], argTypes := #[t, t] }, type := ty, pos := p, after := af, guard := none } :: rest) F L := by
  refine ⟨fun a w hf hs => ?_⟩
  refine wpList_plain rfl fun K hK => ?_
  unfold Oper.wp
  obtain ⟨hu, i, z, hi, hz, e1, e2, e3⟩ := elemOk_spec he
  have hown' : w.ownsRow base e size v n xs := by
    refine ⟨hown.1, ?_⟩
    rcases hown.2 with h | ⟨g, cap, cur, rfl, hb, hg, h⟩
    · exact .inl h
    · refine .inr ⟨g, cap, cur, rfl, hb, ?_, h⟩
      rw [hs.old g (Array.getElem?_eq_some_iff.1 hg).1 (hsep g rfl)]
      exact hg
  obtain ⟨v', w', hrun, ho', hgrow, hnil⟩ := run_append_own w base t ty e i z size bytes hu hi hz e1 e2 e3 h0 v n xs hown' A m c news hl (hnews w hs) (fun u hu => List.all_eq_true.1 h1 u hu) h63 hbytes (Nat.le_trans hbase hs.size)
  have : (execOp a.eval { dst := some d, op := .call { callee := .builtin .append, args := #[x, y], argTypes := #[t, t] }, type := ty, pos := p, after := af, guard := none }).run P w = .ok (.value v') w' := by
    have hm : (#[x, y] : Array Operand).map a.eval = #[v, .slice (some A) m c] := by simp [hf.eval hx, hf.eval hy]
    simp only [execOp, resolve, Sem.run_bind, Sem.run_pure, Result.andThen_ok, invoke, builtin, hm, hrun]
  rw [this]
  have hfr := append_fresh hu hi hz e1 e2 e3 h0 hown' hl (hnews w hs) (fun u hu => List.all_eq_true.1 h1 u hu) h63 hbytes hrun
  refine hK _ _ ((k w v' w' hs ho' hgrow hnil hfr).run _ _ (hf.put hd) ?_)
  have hr := hs.rebase (L' := L') hsub
  refine Sys.start (Nat.le_trans hr.base hgrow.size) (fun e he => ⟨(hr.own e he).1, ?_⟩) hr.nd
  rw [hgrow.block e.1 (hr.lt he) (fun e2 => hsep e.1 e2.symm e (hsub.subset he) rfl)]
  exact (hr.own e he).2
theorem XL.append {d : Nat} {t e : TypeId} {x y : Operand} {v : Value} {n m c size bytes base : Nat} {xs news : List Value} {A : Addr} {L' : Lo} (he : elemOk P t e size bytes = true) (h0 : 0 < size)
    (hx : evo F x = some v) (hy : evo F y = some (.slice (some A) m c)) (hd : Nat.blt d N = true) (hown : w0.ownsRow base e size v n xs) (hsep : ∀ k, v.ownBlock = some k → ∀ e, e ∈ L → e.1 ≠ k)
    (hl : news.length = m * size) (hnews : ∀ w, Sys B w0 L w → ∀ j u, news[j]? = some u → w.cell? (A.add j) = some u) (h1 : news.all Value.oneCell' = true) (h63 : n + m ≤ maxLen) (hbytes : (n + m) * bytes ≤ 140737488355328) (hbase : base ≤ w0.heap.size)
    (hsub : List.Sublist L' L)
    (k : ∀ w v' w', Sys B w0 L w → w'.ownsRow base e size v' (n + m) (xs ++ news) → w.grownBy w' v.ownBlock → (v' = .slice none 0 0 ↔ v = .slice none 0 0 ∧ m = 0) → XL P N B w' ds Q ops rest ((d, v') :: F) L') :
    XL P N B w0 ds Q ops ({ dst := some d, op := .call { callee := .builtin .append, args := #[x, y], argTypes := #[t, t] }, type := ty, pos := p, after := af, guard := none } :: rest) F L :=
  XL.append2 he h0 hx hy hd hown hsep hl hnews h1 h63 hbytes hbase hsub (fun w v' w' S a b c _ => k w v' w' S a b c)
theorem owns_sys {base e size n : Nat} {v : Value} {xs : List Value} {w : World} (h : w0.ownsRow base e size v n xs) (S : Sys B w0 L w) (hsep : ∀ k, v.ownBlock = some k → ∀ e, e ∈ L → e.1 ≠ k) : w.ownsRow base e size v n xs := by
  refine ⟨h.1, ?_⟩
  rcases h.2 with h | ⟨g, cap, cur, rfl, hb, hg, h⟩
  · exact .inl h
  · refine .inr ⟨g, cap, cur, rfl, hb, ?_, h⟩
    rw [S.old g (Array.getElem?_eq_some_iff.1 hg).1 (hsep g rfl)]
    exact hg
theorem XE.roundW {σ : Type} {G : σ → Fr} {M : σ → Lo} {W : σ → World} {pre : σ → Prop} {μ : σ → Nat} {s : σ}
    (h : ∀ w, Sys B w0 L w → ∃ s', pre s' ∧ μ s' < μ s ∧ Sub (G s') F ∧ Sys B (W s') (M s') w) :
    XE N B w0 ds (Exit.then (fun a w => ∃ s', pre s' ∧ μ s' < μ s ∧ Fits N ds (G s') a ∧ Sys B (W s') (M s') w) Q) .normal F L :=
  ⟨fun a w hf hs => by
    obtain ⟨s', h1, h2, h3, h4⟩ := h w hs
    exact ⟨s', h1, h2, h3.fits hf, h4⟩⟩
theorem Sys.grown {w w' : World} {row : Option Nat} (S : Sys B w0 L w) (h : w.grownBy w' row) (hr : ∀ k, row = some k → w0.heap.size ≤ k ∧ ∀ e, e ∈ L → e.1 ≠ k) : Sys B w0 L w' :=
  ⟨h.os.trans S.os, h.tape.trans S.tape, h.output.trans S.output, Nat.le_trans S.size h.size, S.base,
   fun k hk hn => by rw [h.block k (Nat.lt_of_lt_of_le hk S.size) (fun e => by have := (hr k e.symm).1; omega), S.old k hk hn],
   fun e he => ⟨(S.own e he).1, by rw [h.block e.1 (S.lt he) (fun e2 => (hr e.1 e2.symm).2 e he rfl)]; exact (S.own e he).2⟩, S.nd⟩
/-- what was there, but for the slice's own block and L. -/
theorem grown_old {w w' : World} {row : Option Nat} (S : Sys B w0 L w) (h : w.grownBy w' row) {k : Nat} (hk : k < w0.heap.size) (hL : ∀ e, e ∈ L → e.1 ≠ k) (hr : some k ≠ row) : w'.heap[k]? = w0.heap[k]? := by
  rw [h.block k (Nat.lt_of_lt_of_le hk S.size) hr, S.old k hk hL]
theorem grown_below {w w' : World} {row : Option Nat} (S : Sys B w0 L w) (h : w.grownBy w' row) (hr : ∀ k, row = some k → B ≤ k) : Below B w0 w' :=
  Below.trans S.toBelow ⟨h.os, h.tape, h.output, h.size, fun k hk => h.block k (Nat.lt_of_lt_of_le hk (Nat.le_trans S.base S.size)) fun e => by have := hr k e.symm; omega⟩
end
/-- what a slice of the call's own reads. -/
theorem ReadsP.own {w : World} {base e size n : Nat} {A : Option Addr} {m c : Nat} {xs : List Value} (h : w.ownsRow base e size (.slice A m c) n xs) : ReadsP w (Btw base w.heap.size) size A n xs ∧ m = n ∧ (0 < n → n ≤ c) ∧ n ≤ maxLen := by
  rcases h.2 with ⟨e1, rfl⟩ | ⟨g, cap, cur, e1, hb, hg, hc, hm, hsz, hx⟩
  · cases e1
    have : xs = [] := by have := h.1; simp at this; exact this
    subst this
    exact ⟨ReadsP.nil, rfl, fun h => absurd h (by omega), Nat.zero_le _⟩
  · cases e1
    refine ⟨⟨h.1, fun hn => ⟨_, rfl, ⟨hb, (Array.getElem?_eq_some_iff.1 hg).1⟩, fun j u hj => ?_⟩⟩, rfl, fun _ => hc, by omega⟩
    rw [add_off]
    simp only [World.cell?, hg, Nat.zero_add]
    rw [← hx, List.getElem?_take] at hj
    split at hj
    · simpa using hj
    · cases hj
/-- a slice of the call's own is a slice value. -/
theorem owns_sv {w : World} {base e size n : Nat} {v : Value} {xs : List Value} (h : w.ownsRow base e size v n xs) : ∃ r : SV, v = svV r ∧ r.n = n := by
  rcases h.2 with ⟨rfl, rfl⟩ | ⟨g, cap, cur, rfl, _⟩
  · exact ⟨⟨none, 0, 0⟩, rfl, rfl⟩
  · exact ⟨⟨_, _, _⟩, rfl, rfl⟩
theorem owns_sep {w : World} {base e size n : Nat} {v : Value} {xs : List Value} (h : w.ownsRow base e size v n xs) {L : Lo} (hL : ∀ x, x ∈ L → x.1 < base ∨ w.heap.size ≤ x.1) : ∀ k, v.ownBlock = some k → ∀ e, e ∈ L → e.1 ≠ k := fun k hk x hx e1 => by
  have := h.lt k hk
  have := hL x hx
  omega
end Go.Proofs.YtoiepgcjinccpaaDoor.X
