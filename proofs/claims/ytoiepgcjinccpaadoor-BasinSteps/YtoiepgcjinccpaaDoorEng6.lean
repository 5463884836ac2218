/-
  A walk by lemmas (6): more operations: variables, slices, strings, maps with string keys.
-/
import Derived.Test.YtoiepgcjinccpaaDoorMem
namespace Go.Proofs.YtoiepgcjinccpaaDoor.X
open Go Go.RowKit
set_option linter.unusedVariables false

theorem ba_beq (a b : ByteArray) : (a == b) = decide (a = b) := by
  obtain ⟨x⟩ := a
  obtain ⟨y⟩ := b
  show (x == y) = _
  rw [Bool.eq_iff_iff]
  simp
theorem ba_list (a b : ByteArray) : (a.toList == b.toList) = decide (a = b) := by
  rw [Bool.eq_iff_iff]
  simp only [beq_iff_eq, decide_eq_true_eq, ByteArray.toList_eq]
  constructor
  · intro h; exact ByteArray.ext (Array.toList_inj.1 h)
  · intro h; rw [h]
/-- a map's block: the entries in the order in which they came. -/
def mapO (kvs : List (Value × Value)) : Obj := .map (kvs.zipIdx.map fun x => ({ key := x.1.1, val := x.1.2, born := x.2 } : MapEntry)).toArray kvs.length
def strKV (kvs : List (ByteArray × Value)) : List (Value × Value) := kvs.map fun e => (.string e.1, e.2)
def mapS (kvs : List (ByteArray × Value)) : Obj := mapO (strKV kvs)
def findS (kvs : List (ByteArray × Value)) (k : ByteArray) : Option Value := (kvs.find? fun e => decide (k = e.1)).map (·.2)

section
variable {P : Program} {T : TT} {N : Nat} {B : Nat} {w0 : World} {ds : List Deferred} {Q : Exit → Act → World → Prop} {F : Fr} {L : Lo} {pu : Prop}
variable {dst : Option Tmp} {ty : TypeId} {p : String} {af : Array Edge} {gd : Option (Nat × Bool)}

theorem zero_run (hT : TOK P T) {t : Nat} {z : Value} (h : lkG T.zero t = some z) (w : World) : (zeroValue t).run P w = .ok z w := by
  have h1 := tab_ok hT.zero h
  unfold zeroOf at h1
  cases hi : P.info? t with
  | none => rw [hi] at h1; cases h1
  | some i => rw [hi] at h1; simp at h1; simp [zeroValue, typeInfo, hi, h1]
theorem XL.alloc (hT : TOK P T) {ops : Array Oper} {rest : List Oper} {d : Nat} {t : TypeId} {v : Value} {cs : List Value} (hz : lkG T.zero t = some v) (hcs : cellsO v = some cs) (hd : Nat.blt d N = true)
    (k : ∀ g, w0.heap.size ≤ g → XL P N B w0 ds Q ops rest ((1000000 + d, .slice none L.length 0) :: (d, .pointer (some ⟨g, 0, none⟩)) :: F) ((g, cel t cs) :: L)) :
    XL P N B w0 ds Q ops ({ dst := some d, op := .alloc t, type := ty, pos := p, after := af, guard := none } :: rest) F L := by
  refine ⟨fun a w hf hs => ?_⟩
  refine wpList_plain rfl fun K hK => ?_
  unfold Oper.wp
  have : (execOp a.eval { dst := some d, op := .alloc t, type := ty, pos := p, after := af, guard := none }).run P w = .ok (.value (.pointer (some ⟨w.heap.size, 0, none⟩))) (w.alloc (.cells cs.toArray t)) := by
    simp [execOp, Instr.alloc, zero_run hT hz, newVar, newRow, cellsO_spec hcs]
  rw [this]
  exact hK _ _ ((k w.heap.size hs.size).run _ _ ((hf.put hd).hint d _) (hs.box (cel t cs)))

theorem Ev.slice_lo (hT : TOK P T) {t e es : Nat} {x lo : Operand} {ad : Addr} {n c : Nat} {k : IntKind} {q : Int} (j : Nat) (hx : evo F x = some (.slice (some ad) n c)) (hlo : evo F lo = some (.int k q)) (hq : q = (j : Int))
    (hs : lkG T.sl t = some (e, es)) (h1 : j ≤ n) (h2 : j < c) : Ev P N B w0 ds pu F L ⟨dst, .slice t x (some lo) none none, ty, p, af, gd⟩ (.slice (some (ad.add (j * es))) (n - j) (c - j)) :=
  .of_run fun a w hf hw => by
    have h := tab_ok hT.sl hs
    unfold slOf at h
    cases hu : P.underlying t with
    | none => rw [hu] at h; cases h
    | some d =>
      rw [hu] at h
      cases d <;> simp at h
      obtain ⟨i, hi, rfl, rfl⟩ := h
      subst hq
      have hz := sizeOf_run hi w
      have hne : ¬ c = j := by omega
      simp [execOp, hf.eval hx, hf.eval hlo, Instr.sliceAt, Instr.slice, run_underlying hu, Instr.sliceBounds, Instr.sliceBound, asIntOf, hz, h1, hne]
theorem Ev.slice_hi (hT : TOK P T) {t e es : Nat} {x hi : Operand} {A : Option Addr} {n c : Nat} {k : IntKind} {q : Int} (j : Nat) (hx : evo F x = some (.slice A n c)) (hhi : evo F hi = some (.int k q)) (hq : q = (j : Int))
    (hs : lkG T.sl t = some (e, es)) (h1 : j ≤ c) : Ev P N B w0 ds pu F L ⟨dst, .slice t x none (some hi) none, ty, p, af, gd⟩ (.slice A j c) :=
  .of_run fun a w hf hw => by
    have h := tab_ok hT.sl hs
    unfold slOf at h
    cases hu : P.underlying t with
    | none => rw [hu] at h; cases h
    | some d =>
      rw [hu] at h
      cases d <;> simp at h
      obtain ⟨i, hi, rfl, rfl⟩ := h
      subst hq
      have hz := sizeOf_run hi w
      have e0 : (fun x : Addr => x.add 0) = id := by funext x; simp [Addr.add]
      simp [execOp, hf.eval hx, hf.eval hhi, Instr.sliceAt, Instr.slice, run_underlying hu, Instr.sliceBounds, Instr.sliceBound, asIntOf, hz, h1, e0]

/-! ### strings -/
theorem Ev.len_str {t : TypeId} {x : Operand} {s : ByteArray} (ht : P.underlying t = some .string) (hx : evo F x = some (.string s)) :
    Ev P N B w0 ds pu F L ⟨dst, .call { callee := .builtin .len, args := #[x], argTypes := #[t] }, ty, p, af, gd⟩ (.int .i64 (s.size : Int)) :=
  .of_run fun a w hf hw => by simp [execOp, resolve, invoke, builtin, Builtin.len_, hf.eval hx, run_underlying ht, goInt]
theorem Ev.index_str {t : TypeId} {x i : Operand} {s : ByteArray} {k : IntKind} {j : Nat} (c : Int) (ht : P.underlying t = some .string) (hx : evo F x = some (.string s)) (hi : evo F i = some (.int k (j : Int))) (hj : j < s.size) (hc : c = ((s[j]).toNat : Int)) :
    Ev P N B w0 ds pu F L ⟨dst, .index t x i, ty, p, af, gd⟩ (.int .u8 c) :=
  .of_run fun a w hf hw => by subst hc; simp [execOp, Instr.index, hf.eval hx, hf.eval hi, run_underlying ht, asIntOf, hj]
theorem eqGuard_str {op : BinOp} {t : TypeId} {x y : Operand} {a b : ByteArray} (w : World) : (eqGuard op t x y (.string a) (.string b)).run P w = .ok () w := by
  unfold eqGuard
  cases op <;> simp
theorem Ev.eql_str {x y : Operand} {t u : TypeId} {a b : ByteArray} (hx : evo F x = some (.string a)) (hy : evo F y = some (.string b)) :
    Ev P N B w0 ds pu F L ⟨dst, .binOp .eql t x y u, ty, p, af, gd⟩ (.bool (decide (a = b))) :=
  .of_run fun c w hf hw => by
    have e1 : (Op.stringOp .eql a b).run P w = .ok (.bool (decide (a = b))) w := by rw [← ba_list]; rfl
    simp only [execOp, hf.eval hx, hf.eval hy, Sem.run_bind, eqGuard_str, Result.andThen_ok, binOp, e1, Sem.run_pure]
theorem Ev.neq_str {x y : Operand} {t u : TypeId} {a b : ByteArray} (hx : evo F x = some (.string a)) (hy : evo F y = some (.string b)) :
    Ev P N B w0 ds pu F L ⟨dst, .binOp .neq t x y u, ty, p, af, gd⟩ (.bool (!decide (a = b))) :=
  .of_run fun c w hf hw => by
    have e1 : (Op.stringOp .neq a b).run P w = .ok (.bool (!decide (a = b))) w := by rw [← ba_list]; rfl
    simp only [execOp, hf.eval hx, hf.eval hy, Sem.run_bind, eqGuard_str, Result.andThen_ok, binOp, e1, Sem.run_pure]

/-! ### a map with string keys that the call made -/
theorem XL.makeMap {ops : Array Oper} {rest : List Oper} {d : Nat} {t : TypeId} (hd : Nat.blt d N = true)
    (k : ∀ g, w0.heap.size ≤ g → XL P N B w0 ds Q ops rest ((d, .map (some g)) :: F) ((g, mapO []) :: L)) :
    XL P N B w0 ds Q ops ({ dst := some d, op := .makeMap t none, type := ty, pos := p, after := af, guard := none } :: rest) F L := by
  refine ⟨fun a w hf hs => ?_⟩
  refine wpList_plain rfl fun K hK => ?_
  unfold Oper.wp
  have : (execOp a.eval { dst := some d, op := .makeMap t none, type := ty, pos := p, after := af, guard := none }).run P w = .ok (.value (.map (some w.heap.size))) (w.alloc (mapO [])) := by
    simp [execOp, Instr.makeMap, mapO]
  rw [this]
  exact hK _ _ ((k w.heap.size hs.size).run _ _ (hf.put hd) (hs.box (mapO [])))

theorem findNow_str (k : ByteArray) : ∀ (kvs : List (ByteArray × Value)) (j i : Nat),
    Instr.findNow .string (.string k) (((strKV kvs).zipIdx j).map fun x => ({ key := x.1.1, val := x.1.2, born := x.2 } : MapEntry)) i =
      some ((kvs.findIdx? fun e => decide (k = e.1)).map fun q => (i + q, ((kvs[q]?).map (·.2)).getD undef)) := by
  intro kvs
  induction kvs with
  | nil => intro j i; simp [strKV, Instr.findNow]
  | cons e kvs ih =>
    intro j i
    simp only [strKV, List.map_cons, List.zipIdx_cons, Instr.findNow, Instr.sameNow]
    rw [ba_beq]
    by_cases h : k = e.1
    · simp [h, List.findIdx?_cons]
    · simp only [h, decide_false, List.findIdx?_cons, Bool.false_eq_true, if_false]
      have := ih (j + 1) (i + 1)
      simp only [strKV] at this
      rw [this]
      cases kvs.findIdx? fun e => decide (k = e.1) with
      | none => rfl
      | some q => simp; omega
theorem findS_idx {kvs : List (ByteArray × Value)} {k : ByteArray} : findS kvs k = (kvs.findIdx? fun e => decide (k = e.1)).map fun q => ((kvs[q]?).map (·.2)).getD undef := by
  unfold findS
  induction kvs with
  | nil => rfl
  | cons e kvs ih =>
    simp only [List.find?_cons, List.findIdx?_cons]
    by_cases h : k = e.1
    · simp [h]
    · simp only [h, decide_false, Bool.false_eq_true, if_false]
      rw [ih]
      cases kvs.findIdx? fun e => decide (k = e.1) with
      | none => rfl
      | some q => simp
theorem findKey_str {kt : TypeId} (hk : P.underlying kt = some .string) (kvs : List (ByteArray × Value)) (k : ByteArray) (w : World) :
    (Instr.findKey kt (.string k) ((strKV kvs).zipIdx.map fun x => ({ key := x.1.1, val := x.1.2, born := x.2 } : MapEntry))).run P w =
      .ok ((kvs.findIdx? fun e => decide (k = e.1)).map fun q => (q, ((kvs[q]?).map (·.2)).getD undef)) w := by
  have := findNow_str k kvs 0 0
  simp only [Nat.zero_add] at this
  simp [Instr.findKey, run_underlying hk, this]
theorem checkKey_str {kt : TypeId} (hk : P.underlying kt = some .string) (b : Bool) (k : ByteArray) (w : World) : (Instr.checkKey b 10000 kt (.string k)).run P w = .ok () w := by
  have h : ∀ n, (Instr.checkKey b (n + 1) kt (.string k)).run P w = .ok () w := fun n => by simp [Instr.checkKey, run_underlying hk]
  exact h 9999
theorem getObj_run {r : Nat} {es : Array MapEntry} {c : Nat} {w : World} (h : w.heap[r]? = some (.map es c)) : (getObj r).run P w = .ok (.map es c) w := by simp [getObj, Sem.run, h]
theorem Sys.obj {w : World} (h : Sys B w0 L w) {i g : Nat} {o : Obj} (hL : L[i]? = some (g, o)) : w.heap[g]? = some o := (h.own _ (List.mem_of_getElem? hL)).2
theorem lookupS_run (hT : TOK P T) {t kt et : TypeId} {z : Value} {kvs : List (ByteArray × Value)} {r : Nat} {k : ByteArray} {w : World} {ok : Bool} (ht : P.underlying t = some (.map kt et)) (hkt : P.underlying kt = some .string)
    (hz : lkG T.zero et = some z) (h : w.heap[r]? = some (mapS kvs)) :
    (Instr.lookup t (.map (some r)) (.string k) ok).run P w = .ok (if ok then .tuple #[(findS kvs k).getD z, .bool (findS kvs k).isSome] else (findS kvs k).getD z) w := by
  have h1 := findKey_str hkt kvs k w
  have h2 := getObj_run (P := P) (show w.heap[r]? = some (.map _ _) from h)
  have h3 := findS_idx (kvs := kvs) (k := k)
  cases hq : kvs.findIdx? fun e => decide (k = e.1) with
  | none =>
    rw [hq] at h1 h3
    simp only [Option.map_none] at h1 h3
    rw [h3]
    simp only [Instr.lookup, Sem.run_bind, run_underlying ht, Result.andThen_ok, h2, Sem.run_pure, checkKey_str hkt, h1, zero_run hT hz]
    cases ok <;> simp
  | some q =>
    rw [hq] at h1 h3
    simp only [Option.map_some] at h1 h3
    rw [h3]
    simp only [Instr.lookup, Sem.run_bind, run_underlying ht, Result.andThen_ok, h2, Sem.run_pure, checkKey_str hkt, h1]
    cases ok <;> simp
theorem Ev.lookupS (hT : TOK P T) (i : Nat) {t kt et : TypeId} {x y : Operand} {z : Value} (kvs : List (ByteArray × Value)) {r : Nat} {k : ByteArray} (hx : evo F x = some (.map (some r))) (hy : evo F y = some (.string k)) (hL : L[i]? = some (r, mapS kvs))
    (ht : P.underlying t = some (.map kt et)) (hkt : P.underlying kt = some .string) (hz : lkG T.zero et = some z) :
    Ev P N B w0 ds pu F L ⟨dst, .lookup t x y false, ty, p, af, gd⟩ ((findS kvs k).getD z) :=
  .of_run fun a w hf hw => by
    have := lookupS_run (k := k) (ok := false) hT ht hkt hz (hw.obj hL)
    simp [execOp, hf.eval hx, hf.eval hy, this]
theorem Ev.lookupV (hT : TOK P T) (i : Nat) {t kt et : TypeId} {x y : Operand} {z v : Value} (kvs : List (ByteArray × Value)) {r : Nat} {k : ByteArray} (hx : evo F x = some (.map (some r))) (hy : evo F y = some (.string k)) (hL : L[i]? = some (r, mapS kvs))
    (ht : P.underlying t = some (.map kt et)) (hkt : P.underlying kt = some .string) (hz : lkG T.zero et = some z) (hv : (findS kvs k).getD z = v) :
    Ev P N B w0 ds pu F L ⟨dst, .lookup t x y false, ty, p, af, gd⟩ v := hv ▸ Ev.lookupS hT i kvs hx hy hL ht hkt hz
theorem mapO_push (kvs : List (Value × Value)) (k v : Value) : mapO (kvs ++ [(k, v)]) = .map (((kvs.zipIdx.map fun x => ({ key := x.1.1, val := x.1.2, born := x.2 } : MapEntry)).toArray).push { key := k, val := v, born := kvs.length }) (kvs.length + 1) := by
  simp [mapO, List.zipIdx_append]
theorem setObj_run {r : Nat} {es : Array MapEntry} {c : Nat} {o : Obj} {w : World} (h : w.heap[r]? = some (.map es c)) : (setObj r o).run P w = .ok () { w with heap := w.heap.setIfInBounds r o } := by simp [setObj, Sem.run, h]
theorem Sys.setObj {w : World} (h : Sys B w0 L w) {i g : Nat} {o o' : Obj} (hL : L[i]? = some (g, o)) {L' : Lo} (hL' : L' = L.set i (g, o')) : Sys B w0 L' { w with heap := w.heap.setIfInBounds g o' } := by
  have hlt : g < w.heap.size := h.lt (List.mem_of_getElem? hL)
  refine h.turn hL hL' rfl rfl rfl (by simp) (by simp [hlt]) fun k _ hk => ?_
  show (w.heap.setIfInBounds g o')[k]? = _
  rw [Array.getElem?_setIfInBounds_ne (by omega)]
/-- a key that is not there yet. -/
theorem XL.updateS (i : Nat) {ops : Array Oper} {rest : List Oper} {t kt et : TypeId} {x y u : Operand} (kvs : List (ByteArray × Value)) {r : Nat} {k : ByteArray} {v : Value} {L' : Lo} (hx : evo F x = some (.map (some r))) (hy : evo F y = some (.string k))
    (hu : evo F u = some v) (hL : L[i]? = some (r, mapS kvs)) (ht : P.underlying t = some (.map kt et)) (hkt : P.underlying kt = some .string) (hn : findS kvs k = none) (hL' : setN L i (r, mapS (kvs ++ [(k, v)])) = some L')
    (c : XL P N B w0 ds Q ops rest F L') :
    XL P N B w0 ds Q ops ({ dst := none, op := .mapUpdate t x y u, type := ty, pos := p, after := af, guard := none } :: rest) F L := by
  refine ⟨fun a w hf hs => ?_⟩
  refine wpList_plain rfl fun K hK => ?_
  unfold Oper.wp
  have hh := hs.obj hL
  have h1 := findKey_str hkt kvs k w
  have h2 := getObj_run (P := P) (show w.heap[r]? = some (.map _ _) from hh)
  have hq : (kvs.findIdx? fun e => decide (k = e.1)) = none := by
    rw [findS_idx] at hn
    cases hq : kvs.findIdx? fun e => decide (k = e.1) with
    | none => rfl
    | some q => rw [hq] at hn; cases hn
  rw [hq] at h1
  simp only [Option.map_none] at h1
  have hlen : (strKV kvs).length = kvs.length := by simp [strKV]
  have e1 : mapS (kvs ++ [(k, v)]) = .map ((((strKV kvs).zipIdx.map fun x => ({ key := x.1.1, val := x.1.2, born := x.2 } : MapEntry)).toArray).push { key := .string k, val := v, born := (strKV kvs).length }) ((strKV kvs).length + 1) := by
    rw [← mapO_push]; simp [mapS, strKV]
  have h3 := setObj_run (P := P) (o := mapS (kvs ++ [(k, v)])) (show w.heap[r]? = some (.map _ _) from hh)
  have : (execOp a.eval { dst := none, op := .mapUpdate t x y u, type := ty, pos := p, after := af, guard := none }).run P w = .ok .skip { w with heap := w.heap.setIfInBounds r (mapS (kvs ++ [(k, v)])) } := by
    rw [e1] at h3 ⊢
    simp only [execOp, hf.eval hx, hf.eval hy, hf.eval hu, Instr.mapUpdate, Sem.run_bind, run_underlying ht, Result.andThen_ok, h2, checkKey_str hkt, h1, h3, Sem.run_pure]
  rw [this]
  exact hK _ _ (c.run _ _ hf (hs.setObj hL (setN_spec _ _ _ _ hL').1))
end
end Go.Proofs.YtoiepgcjinccpaaDoor.X
