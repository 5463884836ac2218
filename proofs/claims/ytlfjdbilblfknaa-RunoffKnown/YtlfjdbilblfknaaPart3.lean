/-
  A walk by lemmas (J): in a region that draws its order, reckonings too may be taken first, not only copies and addresses.
-/
import Derived.Test.YtlfjdbilblfknaaPart2
import Derived.Scope
import Derived.Laws.Small
import Derived.DeepKeys3
import Derived.Laws.CopyRow
import Derived.Laws.IdiomCopy
import Derived.OrdersIn
import Derived.Test.YtlfjdbilblfknaaPart1
import Derived.KernelRfl
set_option linter.unusedVariables false
set_option linter.unusedSimpArgs false
namespace Go.Proofs.Ytlfjdbilblfknaa.X
open Go Go.RowKit
set_option linter.unusedVariables false
section
variable {P : Program} {N : Nat} {B : Nat} {wS w0 : World} {ds : List Deferred} {Q : Exit → Act → World → Prop} {F : Fr} {L Ls : Lo} {ops : Array Oper} {rem rem' : List (Nat × Oper)}
/-- operations of slots alone, reckonings among them. -/
def reckOp (o : Oper) : Bool := match o.guard with
  | some _ => false
  | none => match o.op with
    | .move _ | .assign _ | .extract .. | .makeInterface .. | .build .. | .fieldAddr .. | .indexAddr .. | .binOp .. | .convert .. => true
    | .call c => match c.callee with
      | .builtin .min => true
      | .builtin .max => true
      | _ => false
    | _ => false
/-- the first of these that may come up. -/
def firstR (rem : List (Nat × Oper)) : List (Nat × Oper) → Option (Nat × Oper × List (Nat × Oper))
  | [] => none
  | (i, o) :: r => match reckOp o with
    | true => match readyB rem o with
      | true => match dropO rem i with
        | some rem' => some (i, o, rem')
        | none => none
      | false => firstR rem r
    | false => firstR rem r
theorem firstR_spec : ∀ {l : List (Nat × Oper)} {i : Nat} {o : Oper}, firstR rem l = some (i, o, rem') → (i, o) ∈ l ∧ readyB rem o = true ∧ dropO rem i = some rem' := by
  intro l
  induction l with
  | nil => intro i o h; cases h
  | cons e r ih =>
    intro i o h
    obtain ⟨j, p⟩ := e
    simp only [firstR] at h
    split at h
    · split at h
      · rename_i hr
        split at h
        · rename_i r2 hd
          simp only [Option.some.injEq, Prod.mk.injEq] at h
          obtain ⟨rfl, rfl, rfl⟩ := h
          exact ⟨List.mem_cons_self, hr, hd⟩
        · cases h
      · obtain ⟨h1, h2⟩ := ih h; exact ⟨List.mem_cons_of_mem _ h1, h2⟩
    · obtain ⟨h1, h2⟩ := ih h; exact ⟨List.mem_cons_of_mem _ h1, h2⟩
theorem XR.take2 {i : Nat} {o : Oper} (h1 : firstR rem rem = some (i, o, rem')) (hl : loneB ops rem i o = true) (h : Fw P N B wS ds False (fun F' => XR P N B wS w0 ds Q Ls ops rem' F' L) ops Ls [o] F) :
    XR P N B wS w0 ds Q Ls ops rem F L := by
  obtain ⟨hm, hr, hd⟩ := firstR_spec h1
  unfold loneB at hl
  simp only [Bool.and_eq_true] at hl
  obtain ⟨⟨hsel, hein⟩, hap⟩ := hl
  obtain ⟨v, hok, F', hal, hk⟩ := h.run
  refine ⟨fun D fuel a w hD hlen hf hs hS => ?_⟩
  have hrd : i ∈ Region.ready .any ops D := hD.mem_ready hm hr fun e he hb => by
    unfold edgesIn at hein
    have := List.all_eq_true.1 hein _ hm
    have := List.all_eq_true.1 this e (by simpa using he)
    simp only [hb, Bool.not_true, Bool.false_or] at this
    exact Nat.le_of_ble_eq_true this
  obtain ⟨n, rfl, hn⟩ := ready_count hrd hlen
  have hD' := hD.set hm hd
  refine wpAnyH_first (hD.at_ _ hm) (Region.noSelect_spec hsel) (fun c a w q => q.elim) n D a w (fun j oj hj hne hun hno => ?_) hrd (hok.yieldsIf hf) hS ?_
  · have hjs : j < ops.size := (Array.getElem?_eq_some_iff.1 hj).1
    have hon : on D j = false := by
      unfold on
      have hlt' : j < D.size := by rw [hD.size]; exact hjs
      rw [Array.getD_eq_getD_getElem?, Array.getElem?_eq_getElem hlt'] at hun ⊢
      exact hun
    obtain ⟨o', ho'⟩ := inRem_iff.1 ((hD.left j hjs).1 hon)
    have := hD.at_ _ ho'
    rw [hj] at this
    obtain rfl := Option.some.inj this
    have h2 := List.all_eq_true.1 hap _ ho'
    simp only [Bool.or_eq_true] at h2
    rcases h2 with (h2 | h2) | h2
    · exact absurd (Nat.eq_of_beq_eq_true h2) hne
    · obtain ⟨e, he, hb⟩ := Array.any_eq_true'.1 h2
      simp only [Bool.and_eq_true, beq_iff_eq] at hb
      exact absurd hb.2 (hno e he hb.1)
    · exact h2
  · exact hk.run _ n _ w hD' hn (hal.fits (hf.putF hok.1)) hs hS
theorem YO {i : Nat} {o : Oper} (h1 : firstR rem rem = some (i, o, rem') := by first | exact rfl | fail) (hl : loneB ops rem i o = true := by first | kernel_rfl | fail) : Step (Fw P N B wS ds False (fun F' => XR P N B wS w0 ds Q Ls ops rem' F' L) ops Ls [o] F) (XR P N B wS w0 ds Q Ls ops rem F L) := ⟨XR.take2 h1 hl⟩
theorem SRJ {q : Prop} (k : q) (st : Step q (XR P N B wS w0 ds Q Ls ops rem F L) := by first | exact YJ | exact YK | exact YO | exact YL | fail) : XR P N B wS w0 ds Q Ls ops rem F L := st.run k
end
end Go.Proofs.Ytlfjdbilblfknaa.X
/-
  A walk by lemmas (K): bools compared, bits, scopes and labels, type assertions, slices of bools that are made, maps with struct keys.
-/
namespace Go.Proofs.Ytlfjdbilblfknaa.X
open Go
set_option linter.unusedVariables false
section
variable {P : Program} {T : TT} {N : Nat} {B : Nat} {w0 : World} {ds : List Deferred} {Q : Exit → Act → World → Prop} {F : Fr} {L : Lo} {pu : Prop} {ops : Array Oper} {rest : List Oper}
variable {dst : Option Tmp} {ty : TypeId} {p : String} {af : Array Edge} {gd : Option (Nat × Bool)}
theorem eqGuard_bool {op : BinOp} {t : TypeId} {x y : Operand} {a b : Bool} (w : World) : (eqGuard op t x y (.bool a) (.bool b)).run P w = .ok () w := by
  unfold eqGuard
  cases op <;> simp
theorem Ev.eqlB {x y : Operand} {t u : TypeId} {a b : Bool} (ht : P.underlying t = some .bool) (hx : evo F x = some (.bool a)) (hy : evo F y = some (.bool b)) :
    Ev P N B w0 ds pu F L ⟨dst, .binOp .eql t x y u, ty, p, af, gd⟩ (.bool (a == b)) :=
  .of_run fun c w hf hw => by
    have h1 := run_equal_bool (P := P) w t a b ht
    simp [execOp, hf.eval hx, hf.eval hy, Sem.run_bind, eqGuard_bool, binOp, h1] <;> (cases a <;> cases b <;> rfl)
theorem Ev.neqB {x y : Operand} {t u : TypeId} {a b : Bool} (ht : P.underlying t = some .bool) (hx : evo F x = some (.bool a)) (hy : evo F y = some (.bool b)) :
    Ev P N B w0 ds pu F L ⟨dst, .binOp .neq t x y u, ty, p, af, gd⟩ (.bool (a != b)) :=
  .of_run fun c w hf hw => by
    have h1 := run_equal_bool (P := P) w t a b ht
    simp [execOp, hf.eval hx, hf.eval hy, Sem.run_bind, eqGuard_bool, binOp, h1] <;> (cases a <;> cases b <;> rfl)
/-! ### bits -/
theorem Ev.shrN {x y : Operand} {t u : TypeId} {j : IntKind} {m n : Nat} (hx : evo F x = some (.int .i64 (m : Nat))) (hy : evo F y = some (.int j (n : Nat))) (hn : n ≤ 64) :
    Ev P N B w0 ds pu F L ⟨dst, .binOp .shr t x y u, ty, p, af, gd⟩ (.int .i64 ((m >>> n : Nat) : Int)) := by
  refine Ev.shr hx hy (by omega) ?_
  have h1 : Nat.min (n : Int).toNat IntKind.i64.bits = n := by
    show Min.min n 64 = n
    omega
  rw [h1, Nat.shiftRight_eq_div_pow, Int.fdiv_eq_ediv_of_nonneg _ (by exact Int.le_of_lt (Int.pow_pos (by decide)))]
  rw [Int.natCast_ediv, Int.natCast_pow]
  rfl
theorem eqGuard_int {op : BinOp} {t : TypeId} {x y : Operand} {k j : IntKind} {a b : Int} (w : World) (h : op = .and ∨ op = .or ∨ op = .shl) : (eqGuard op t x y (.int k a) (.int j b)).run P w = .ok () w := by
  unfold eqGuard
  rcases h with rfl | rfl | rfl <;> simp
theorem Ev.and1 {x : Operand} {t u : TypeId} {m : Nat} (hx : evo F x = some (.int .i64 (m : Nat))) (hm : m < 4611686018427387904) :
    Ev P N B w0 ds pu F L ⟨dst, .binOp .and t x (.const (.int .i64 1)) u, ty, p, af, gd⟩ (.int .i64 ((m % 2 : Nat) : Int)) :=
  .of_run fun c w hf hw => by
    have h1 : (BitVec.ofInt 64 (m : Int) &&& BitVec.ofInt 64 1).toNat = m % 2 := by
      rw [BitVec.toNat_and]
      have a1 : (BitVec.ofInt 64 (m : Int)).toNat = m := by
        rw [BitVec.toNat_ofInt, Int.emod_eq_of_lt (by omega) (by omega)]; simp
      rw [a1, show (BitVec.ofInt 64 1).toNat = 1 by decide, Nat.and_one_is_mod]
    have h2 : IntKind.i64.wrap ((m % 2 : Nat) : Int) = ((m % 2 : Nat) : Int) := wrap_in (by unfold i64in; omega)
    have h3 : (Op.intBits .and .i64 (m : Int) 1).run P w = .ok (.int .i64 ((m % 2 : Nat) : Int)) w := by
      show (pure (.int .i64 (IntKind.i64.wrap ((BitVec.ofInt 64 (m : Int) &&& BitVec.ofInt 64 1).toNat : Int))) : Sem Value).run P w = _
      rw [h1, h2]; simp
    simp only [execOp, hf.eval hx, hf.eval (x := .const (.int .i64 1)) rfl, Sem.run_bind, eqGuard_int w (.inl rfl), Result.andThen_ok, binOp, ne_eq, not_true_eq_false, if_false, h3, Sem.run_pure]
theorem Ev.shl1 {y : Operand} {t u : TypeId} {j : IntKind} {n : Nat} (hy : evo F y = some (.int j (n : Nat))) (hn : n ≤ 60) :
    Ev P N B w0 ds pu F L ⟨dst, .binOp .shl t (.const (.int .i64 1)) y u, ty, p, af, gd⟩ (.int .i64 ((2 ^ n : Nat) : Int)) :=
  .of_run fun c w hf hw => by
    have h4 : (2 : Nat) ^ n ≤ 2 ^ 60 := Nat.pow_le_pow_right (by decide) hn
    have h2 : IntKind.i64.wrap ((2 ^ n : Nat) : Int) = ((2 ^ n : Nat) : Int) := by
      generalize (2 : Nat) ^ n = q at h4
      exact wrap_in (by unfold i64in; omega)
    have h3 : (Op.shift .shl .i64 1 j (n : Int)).run P w = .ok (.int .i64 ((2 ^ n : Nat) : Int)) w := by
      unfold Op.shift
      rw [if_neg (by omega)]
      show (pure (.int .i64 (IntKind.i64.wrap (1 * 2 ^ (Min.min (n : Int).toNat 64)))) : Sem Value).run P w = _
      rw [Int.toNat_natCast, show Min.min n 64 = n by omega, Int.one_mul, show ((2 : Int) ^ n) = ((2 ^ n : Nat) : Int) by rw [Int.natCast_pow]; rfl, h2]
      simp
    simp only [execOp, hf.eval hy, hf.eval (x := .const (.int .i64 1)) rfl, Sem.run_bind, eqGuard_int w (.inr (.inr rfl)), Result.andThen_ok, binOp, ne_eq, not_true_eq_false, if_false, h3, Sem.run_pure]
theorem Ev.orN {x y : Operand} {t u : TypeId} {a b : Nat} (hx : evo F x = some (.int .i64 (a : Nat))) (hy : evo F y = some (.int .i64 (b : Nat))) (ha : a < 4611686018427387904) (hb : b < 4611686018427387904) :
    Ev P N B w0 ds pu F L ⟨dst, .binOp .or t x y u, ty, p, af, gd⟩ (.int .i64 ((a ||| b : Nat) : Int)) :=
  .of_run fun c w hf hw => by
    have hlt : a ||| b < 2 ^ 62 := Nat.or_lt_two_pow (by simpa using ha) (by simpa using hb)
    have e1 : ∀ m : Nat, m < 4611686018427387904 → (BitVec.ofInt 64 (m : Int)).toNat = m := fun m hm => by
      rw [BitVec.toNat_ofInt, Int.emod_eq_of_lt (by omega) (by omega)]; simp
    have h1 : (BitVec.ofInt 64 (a : Int) ||| BitVec.ofInt 64 (b : Int)).toNat = a ||| b := by
      rw [BitVec.toNat_or, e1 a ha, e1 b hb]
    have h2 : IntKind.i64.wrap ((a ||| b : Nat) : Int) = ((a ||| b : Nat) : Int) := wrap_in (by unfold i64in; omega)
    have h3 : (Op.intBits .or .i64 (a : Int) (b : Int)).run P w = .ok (.int .i64 ((a ||| b : Nat) : Int)) w := by
      show (pure (.int .i64 (IntKind.i64.wrap ((BitVec.ofInt 64 (a : Int) ||| BitVec.ofInt 64 (b : Int)).toNat : Int))) : Sem Value).run P w = _
      rw [h1, h2]; simp
    simp only [execOp, hf.eval hx, hf.eval hy, Sem.run_bind, eqGuard_int w (.inr (.inl rfl)), Result.andThen_ok, binOp, ne_eq, not_true_eq_false, if_false, h3, Sem.run_pure]
/-! ### scopes and labels -/
theorem XC.scope {c : Code} (h : XC P N B w0 ds (Exit.noGoto Q) c F L) : XC P N B w0 ds Q (.scope c) F L := ⟨fun a w hf hw => wp_scope_straight (h.run a w hf hw)⟩
theorem XC.label {l : Nat} (h : XE N B w0 ds Q .normal F L) : XC P N B w0 ds Q (.label l) F L := ⟨fun a w hf hw => wp_label (h.run a w hf hw)⟩
theorem XE.noGoto_ret (h : XE N B w0 ds Q .ret F L) : XE N B w0 ds (Exit.noGoto Q) .ret F L := ⟨fun a w hf hw => h.run a w hf hw⟩
/-! ### type assertions -/
theorem Ev.assertOk {x : Operand} {t u : TypeId} {s : Nat} {v z : Value} (hx : evo F x = some (.iface s v)) (hu : conB (P.underlying u) = true) (hT : TOK P T) (hz : lkG T.zero u = some z) (r : Value) (hr : r = if s = u then .tuple ⟨[v, .bool true]⟩ else .tuple ⟨[z, .bool false]⟩) :
    Ev P N B w0 ds pu F L ⟨dst, .typeAssert x t u true, ty, p, af, gd⟩ r :=
  .of_run fun c w hf hw => by
    subst hr
    have hzr := zero_run hT hz w
    cases h : P.underlying u with
    | none => rw [h] at hu; cases hu
    | some d =>
      rw [h] at hu
      by_cases e : s = u
      · subst e
        cases d <;> first | (simp [execOp, Instr.typeAssert, hf.eval hx, run_underlying h]; done) | cases hu
      · cases d <;> first | (simp [execOp, Instr.typeAssert, hf.eval hx, run_underlying h, e, hzr]; done) | cases hu
/-! ### make([]bool, n) -/
def bools (l : List Bool) : List Value := l.map .bool
theorem bools_len (l : List Bool) : (bools l).length = l.length := by simp [bools]
theorem XL.makeBools {d : Nat} {t e : TypeId} {x y : Operand} {n : Nat} (he : elemOk P t e 1 1 = true) (hz : (P.info? e).bind (·.zero) = some (.bool false)) (hx : evo F x = some (.int .i64 (n : Nat))) (hy : evo F y = some (.int .i64 (n : Nat))) (hd : Nat.blt d N = true) (hn : n ≤ 1000000)
    (k : ∀ g, w0.heap.size ≤ g → XL P N B w0 ds Q ops rest ((1000000 + d, .slice none L.length 0) :: (d, .slice (some ⟨g, 0, none⟩) n n) :: F) ((g, cel e (bools (List.replicate n false))) :: L)) :
    XL P N B w0 ds Q ops ({ dst := some d, op := .makeSlice t x y, type := ty, pos := p, after := af, guard := none } :: rest) F L := by
  refine ⟨fun a w hf hw => ?_⟩
  refine wpList_plain rfl fun Kk hK => ?_
  unfold Oper.wp
  obtain ⟨hu, i, z, hi, hz', e1, e2, e3⟩ := elemOk_spec he
  rw [hi] at hz
  simp only [Option.bind_some] at hz
  have hz2 : z = .bool false := by rw [hz'] at hz; exact Option.some.inj hz
  subst hz2
  have hrun := run_makeSlice (P := P) w t e i (.bool false) hu hi hz' .i64 .i64 (n : Int) (n : Int) (by omega) (Int.le_refl _) (by rw [e1]; simp; omega) (by rw [e2]; omega) (by omega)
  have hmc : madeCells (Value.bool false).cells ((n : Int).toNat * i.size) = ⟨bools (List.replicate n false)⟩ := by
    rw [e1]
    apply Array.ext
    · simp [madeCells, bools]
    · intro j h1 h2
      simp [madeCells, bools, Value.cells, Nat.mod_one]
  rw [hmc] at hrun
  simp only [Int.toNat_natCast] at hrun
  have : (execOp a.eval { dst := some d, op := .makeSlice t x y, type := ty, pos := p, after := af, guard := none }).run P w = .ok (.value (.slice (some ⟨w.heap.size, 0, none⟩) n n)) (w.alloc (cel e (bools (List.replicate n false)))) := by
    simp [execOp, hf.eval hx, hf.eval hy, hrun]
  rw [this]
  exact hK _ _ ((k w.heap.size hw.size).run _ _ ((hf.put hd).hint d _) (hw.box _))
end
end Go.Proofs.Ytlfjdbilblfknaa.X
/-
  A walk by lemmas (L): small words that many walks share.
-/
namespace Go.Proofs.Ytlfjdbilblfknaa.X
open Go Go.RowKit
set_option linter.unusedVariables false
def idxL {α : Type} (l : List α) (P : α → Bool) : Int := match l.findIdx? P with
  | some i => ((i : Nat) : Int)
  | none => -1
theorem idxL_any {α : Type} (l : List α) (P : α → Bool) : decide (0 ≤ idxL l P) = l.any P := by
  unfold idxL
  cases h : l.findIdx? P with
  | none =>
    rw [List.findIdx?_eq_none_iff] at h
    have : l.any P = false := List.any_eq_false.2 fun x hx => by simp [h x hx]
    rw [this]; rfl
  | some i =>
    obtain ⟨hi, h1, _⟩ := List.findIdx?_eq_some_iff_getElem.1 h
    have : l.any P = true := List.any_eq_true.2 ⟨_, List.getElem_mem hi, h1⟩
    rw [this]
    simp
theorem Sys.keyLt {B : Nat} {w0 w : World} {L : Lo} (S : Sys B w0 L w) : ∀ j, j ∈ L.map (·.1) → j < w.heap.size := fun j hj => by
  obtain ⟨e, he, rfl⟩ := List.mem_map.1 hj
  exact S.lt he
theorem Sys.join {B : Nat} {w0 w w' : World} {L L2 L3 : Lo} (S : Sys B w0 L w) (S' : Sys w.heap.size w L2 w') (hs : List.Sublist L3 L) : Sys B w (L2 ++ L3) w' := by
  have hlt : ∀ e, e ∈ L3 → e.1 < w.heap.size := fun e he => S.lt (hs.subset he)
  refine ⟨S'.os, S'.tape, S'.output, S'.size, Nat.le_trans S.base S.size, fun k hk hn => S'.old k hk fun e he => hn e (List.mem_append_left _ he), fun e he => ?_, ?_⟩
  · rcases List.mem_append.1 he with h | h
    · exact ⟨Nat.le_trans (Nat.le_trans S.base S.size) (S'.own e h).1, (S'.own e h).2⟩
    · refine ⟨(S.own e (hs.subset h)).1, ?_⟩
      rw [S'.old e.1 (hlt e h) fun e' he' e1 => by have := (S'.own e' he').1; have := hlt e h; omega]
      exact (S.own e (hs.subset h)).2
  · rw [List.map_append]
    refine List.nodup_append.2 ⟨S'.nd, S.nd.sublist (hs.map _), fun x hx y hy e => ?_⟩
    obtain ⟨e1, he1, rfl⟩ := List.mem_map.1 hx
    obtain ⟨e2, he2, rfl⟩ := List.mem_map.1 hy
    have := (S'.own e1 he1).1
    have := hlt e2 he2
    omega
theorem Sys.ofBelow {w w1 : World} (h : Below w.heap.size w w1) : Sys w.heap.size w [] w1 := ⟨h.os, h.tape, h.output, h.size, Nat.le_refl _, fun k hk _ => h.block k hk, (fun e he => (by cases he)), List.nodup_nil⟩
theorem Free.far {W : World} {b0 : Nat} {ks : List Nat} {rs : List RowX} {L : Lo} {ad : Addr} {j : Nat} (h : Free W b0 ks rs ad.block) (hs : ∀ e, e ∈ L → e.1 ∈ ks ∨ W.heap.size ≤ e.1) : ∀ e, e ∈ L → e.1 ≠ (ad.add j).block := fun e he e1 => by
  rw [add_block] at e1
  rcases hs e he with h1 | h1
  · exact h.2.2.1 (e1 ▸ h1)
  · have := h.2.1; omega
theorem Fam.cap {W : World} {b0 : Nat} {ks : List Nat} {rs : List RowX} {hs : List Held} {α : Type} {K : Kind α} {r : SV} {l : List α} (h : Fam W b0 ks rs hs) (hr : (⟨α, K, svV r, l⟩ : RowX) ∈ rs) (h0 : 0 < l.length) : l.length ≤ r.c := (ReadsP.own (h.row _ hr)).2.2.1 h0
theorem Free.tail {W : World} {b0 : Nat} {ks : List Nat} {x : RowX} {rs : List RowX} {j : Nat} (h : Free W b0 ks (x :: rs) j) : Free W b0 ks rs j := ⟨h.1, h.2.1, h.2.2.1, fun r hr => h.2.2.2 r (.tail _ hr)⟩
/-- a row that grows no more is held. -/
theorem Fam.freeze {W : World} {b0 : Nat} {ks : List Nat} {rs : List RowX} {hs : List Held} {α : Type} {K : Kind α} {r : SV} {l : List α} (h : Fam W b0 ks (⟨α, K, svV r, l⟩ :: rs) hs) : Fam W b0 ks rs (hList K r l :: hs) := by
  refine ⟨h.base, fun x hx => h.row x (.tail _ hx), fun x hx => h.sep x (.tail _ hx), (List.pairwise_cons.1 h.two).2, fun x hx a ha y hy => y.mono (h.ins x (.tail _ hx) a ha y hy) fun j hj => hj.tail, fun y hy => ?_⟩
  rcases List.mem_cons.1 hy with rfl | hy
  · obtain ⟨A, n, c⟩ := r
    have h1 := h.row _ (.head _)
    obtain ⟨a1, a2, a3, a4⟩ := ReadsP.own h1
    simp only at a2 a4
    subst a2
    refine ⟨⟨a1.1, fun h0 => ?_⟩, by simp only [maxLen] at a4; exact a4, fun a ha x hx => x.mono (h.ins _ (.head _) a ha x hx) fun j hj => hj.tail⟩
    obtain ⟨ad, rfl, hb, hc⟩ := a1.2 h0
    exact ⟨ad, rfl, ⟨hb.1, hb.2, h.sep _ (.head _) _ rfl, fun x hx e => (List.pairwise_cons.1 h.two).1 x hx _ rfl e⟩, hc⟩
  · exact y.mono (h.held y hy) fun j hj => hj.tail
theorem Fam.sv {W : World} {b0 : Nat} {ks : List Nat} {rs : List RowX} {hs : List Held} {α : Type} {K : Kind α} {v : Value} {l : List α} (h : Fam W b0 ks rs hs) (hr : (⟨α, K, v, l⟩ : RowX) ∈ rs) : ∃ r : SV, v = svV r ∧ r.n = l.length := owns_sv (h.row _ hr)
theorem ListAt.take {α : Type} {K : Kind α} {w : World} {ok : Nat → Prop} {A : Option Addr} {n c : Nat} {l : List α} (h : ListAt K w ok ⟨A, n, c⟩ l) {k : Nat} (hk : k ≤ l.length) (h0 : 0 < K.m) : ListAt K w ok ⟨A, k, c⟩ (l.take k) := by
  have hn := h.len h0
  simp only at hn
  subst hn
  have e : (l.take k).flatMap K.c = (l.flatMap K.c).take (k * K.m) := by
    have h1 : l.flatMap K.c = (l.take k).flatMap K.c ++ (l.drop k).flatMap K.c := by rw [← List.flatMap_append, List.take_append_drop]
    have h2 : ((l.take k).flatMap K.c).length = k * K.m := by rw [flat_len K.c K.m K.len, List.length_take, Nat.min_eq_left hk]
    conv => rhs; rw [h1, ← h2]
    exact List.take_left.symm
  refine ⟨?_, by have := h.max; simp only at this ⊢; omega, fun a ha => h.ins a (List.mem_of_mem_take ha)⟩
  obtain ⟨h1, h2⟩ := h.rd
  refine ⟨by rw [flat_len K.c K.m K.len, List.length_take, Nat.min_eq_left hk], fun h3 => ?_⟩
  obtain ⟨ad, e1, e2, e3⟩ := h2 (by simp only at h3 ⊢; omega)
  refine ⟨ad, e1, e2, fun j u hj => ?_⟩
  rw [e, List.getElem?_take] at hj
  split at hj
  · exact e3 j u hj
  · cases hj
section
variable {α : Type} {C : α → List Value} {m : Nat} (hC : ∀ a, (C a).length = m)
include hC
end
section
variable {P : Program} {T : TT} {N B : Nat} {w0 : World} {ds : List Deferred} {Q : Exit → Act → World → Prop} {F : Fr} {L : Lo} {ops : Array Oper} {rest : List Oper} {ty : TypeId} {p : String} {af : Array Edge}
theorem Ev.load_at_agg {pu : Prop} {dst : Option Tmp} {gd : Option (Nat × Bool)} (hT : TOK P T) (i : Nat) {t : TypeId} {x : Operand} {g o j n : Nat} {tg : TypeId} {cs vs : List Value} (hx : evo F x = some (.pointer (some ((⟨g, o, none⟩ : Addr).add j)))) (hL : L[i]? = some (g, cel tg cs)) (h1 : lkG T.agg t = some n) (hlen : vs.length = n)
    (hv : ∀ k u, vs[k]? = some u → cs[o + j + k]? = some u) : Ev P N B w0 ds pu F L ⟨dst, .load t x, ty, p, af, gd⟩ (.agg vs.toArray) :=
  .of_run fun a w hf hw => by
    have hc : ∀ k u, vs[k]? = some u → w.cell? (((⟨g, o, none⟩ : Addr).add j).add k) = some u := fun k u hk => by
      rw [add_off, add_off, hw.cell (List.mem_of_getElem? hL)]
      exact hv k u hk
    simp [execOp, Instr.loadAt, Instr.sureAddr, hf.eval hx, run_loadVar_agg (tab_ok hT.agg h1) hlen hc]
/-- a block that is known becomes one more of the own ones. -/
theorem XC.grab {c : Code} {g : Nat} {o : Obj} (hg : w0.heap[g]? = some o) (hB : B ≤ g) (hn : ∀ e, e ∈ L → e.1 ≠ g) (k : ∀ w1, Sys B w0 L w1 → XC P N B w1 ds Q c F ((g, o) :: L)) : XC P N B w0 ds Q c F L :=
  ⟨fun a w hf h => (k w h).run a w hf (Sys.start (Nat.le_trans h.base h.size) (fun e he => by
    rcases List.mem_cons.1 he with rfl | he
    · exact ⟨hB, (h.old g (Array.getElem?_eq_some_iff.1 hg).1 hn).trans hg⟩
    · exact h.own e he) (by
    rw [List.map_cons, List.nodup_cons]
    exact ⟨fun hm => by obtain ⟨e, he, e1⟩ := List.mem_map.1 hm; exact hn e he e1, h.nd⟩))⟩
end
end Go.Proofs.Ytlfjdbilblfknaa.X
/-
  A walk by lemmas (M): maps whose keys are structs.
-/
namespace Go.Proofs.Ytlfjdbilblfknaa.X
open Go Go.RowKit
set_option linter.unusedVariables false
theorem Fam.atEnd {w w0 : World} {B b0 : Nat} {ks : List Nat} {rs : List RowX} {hs : List Held} {L : Lo} (hF : Fam w0 b0 ks rs hs) (S : Sys B w0 L w) (hL : ∀ e, e ∈ L → e.1 ∈ ks ∨ w0.heap.size ≤ e.1) : Fam w b0 (L.map (·.1) ++ ks) rs hs :=
  (hF.add (fun k hk => by
    rcases List.mem_append.1 hk with h | h
    · obtain ⟨e, he, rfl⟩ := List.mem_map.1 h
      exact hL e he
    · exact .inl h)).sys S fun e he => .inl (List.mem_append_left _ (List.mem_map.2 ⟨e, he, rfl⟩))
theorem ReadsP.block {w : World} {g lo n size : Nat} {ty : TypeId} {cs : List Value} (h : w.heap[g]? = some (cel ty cs)) (hg : lo ≤ g) (hl : cs.length = n * size) : ReadsP w (Btw lo w.heap.size) size (some ⟨g, 0, none⟩) n cs :=
  ⟨hl, fun _ => ⟨_, rfl, ⟨hg, (Array.getElem?_eq_some_iff.1 h).1⟩, fun j u hj => by rw [add_off]; simpa [World.cell?, h] using hj⟩⟩
/-- the entries of a map's block. -/
def entO (kvs : List (Value × Value)) : List MapEntry := kvs.zipIdx.map fun x => ({ key := x.1.1, val := x.1.2, born := x.2 } : MapEntry)
theorem entO_at {kvs : List (Value × Value)} {j : Nat} {e : MapEntry} (h : (entO kvs)[j]? = some e) : kvs[j]? = some (e.key, e.val) := by
  unfold entO at h
  rw [List.getElem?_map, List.getElem?_zipIdx] at h
  cases hk : kvs[j]? with
  | none => rw [hk] at h; cases h
  | some x => rw [hk] at h; simp only [Option.map_some, Option.some.injEq] at h; subst h; rfl
theorem entO_mem {kvs : List (Value × Value)} {e : MapEntry} (h : e ∈ entO kvs) : (e.key, e.val) ∈ kvs := by
  obtain ⟨j, hj, rfl⟩ := List.mem_iff_getElem.1 h
  exact List.mem_of_getElem? (entO_at (List.getElem?_eq_getElem hj))
theorem entO_of {kvs : List (Value × Value)} {x : Value × Value} (h : x ∈ kvs) : ∃ e, e ∈ entO kvs ∧ e.key = x.1 ∧ e.val = x.2 := by
  obtain ⟨j, hj, rfl⟩ := List.mem_iff_getElem.1 h
  refine ⟨{ key := kvs[j].1, val := kvs[j].2, born := j }, List.mem_of_getElem? (i := j) ?_, rfl, rfl⟩
  unfold entO
  rw [List.getElem?_map, List.getElem?_zipIdx, List.getElem?_eq_getElem hj]
  simp
/-- all keys can be looked for, and no two are equal. -/
structure KeysOk (P : Program) (kt : TypeId) (kvs : List (Value × Value)) : Prop where
  key : ∀ e, e ∈ kvs → ∃ l, keyOf P kt e.1 = some l
  one : ∀ a b c, (a, b) ∈ kvs → (a, c) ∈ kvs → b = c
theorem KeysOk.nil {P : Program} {kt : TypeId} : KeysOk P kt [] := ⟨fun _ h => (by cases h), fun _ _ _ h => (by cases h)⟩
theorem KeysOk.push {P : Program} {kt : TypeId} {kvs : List (Value × Value)} {k v : Value} (h : KeysOk P kt kvs) (hk : ∃ l, keyOf P kt k = some l) (hn : ∀ e, e ∈ kvs → e.1 ≠ k) : KeysOk P kt (kvs ++ [(k, v)]) := by
  refine ⟨fun e he => ?_, fun a b c h1 h2 => ?_⟩
  · rcases List.mem_append.1 he with h1 | h1
    · exact h.key e h1
    · rw [List.mem_singleton.1 h1]; exact hk
  · rcases List.mem_append.1 h1 with h1 | h1 <;> rcases List.mem_append.1 h2 with h2 | h2
    · exact h.one a b c h1 h2
    · rw [List.mem_singleton, Prod.mk.injEq] at h2; exact absurd h2.1 (hn _ h1)
    · rw [List.mem_singleton, Prod.mk.injEq] at h1; exact absurd h1.1 (hn _ h2)
    · rw [List.mem_singleton, Prod.mk.injEq] at h1 h2; rw [h1.2, h2.2]
def arrB (d : Option TypeDesc) : Option (Nat × TypeId) := match d with
  | some (.array n e) => some (n, e)
  | _ => none
section
variable {P : Program} {T : TT} {N : Nat} {B : Nat} {w0 : World} {ds : List Deferred} {Q : Exit → Act → World → Prop} {F : Fr} {L : Lo} {pu : Prop}
variable {dst : Option Tmp} {ty : TypeId} {p : String} {af : Array Edge} {gd : Option (Nat × Bool)}
theorem findK {kt : TypeId} (K : WideMaps.KeyLaw P kt) {kvs : List (Value × Value)} (hk : KeysOk P kt kvs) {k : Value} (h : ∃ l, keyOf P kt k = some l) (w : World) :
    ((Instr.findKey kt k (entO kvs)).run P w = .ok none w ∧ ∀ e, e ∈ kvs → e.1 ≠ k) ∨ ∃ j v, (Instr.findKey kt k (entO kvs)).run P w = .ok (some (j, v)) w ∧ (k, v) ∈ kvs := by
  obtain ⟨l, hl⟩ := h
  rcases K.find w hl (entO kvs) (fun e he => hk.key _ (entO_mem he)) with ⟨h1, h2⟩ | ⟨j, e, h1, h2, h3⟩
  · refine .inl ⟨h1, fun x hx => ?_⟩
    obtain ⟨e, he, e1, _⟩ := entO_of hx
    rw [← e1]
    exact h2 e he
  · refine .inr ⟨j, e.val, h1, ?_⟩
    rw [← h3]
    exact List.mem_of_getElem? (entO_at h2)
/-- a key that is not there. -/
theorem Ev.lookupNo (hT : TOK P T) (i : Nat) {t kt et : TypeId} {x y : Operand} {z k : Value} (kvs : List (Value × Value)) {r : Nat} (K : WideMaps.KeyLaw P kt) (hx : evo F x = some (.map (some r))) (hy : evo F y = some k) (hL : L[i]? = some (r, mapO kvs))
    (ht : P.underlying t = some (.map kt et)) (hz : lkG T.zero et = some z) (hk : KeysOk P kt kvs) (h : ∃ l, keyOf P kt k = some l) (hn : ∀ e, e ∈ kvs → e.1 ≠ k) :
    Ev P N B w0 ds pu F L ⟨dst, .lookup t x y true, ty, p, af, gd⟩ (.tuple ⟨[z, .bool false]⟩) :=
  .of_run fun a w hf hw => by
    have h2 := getObj_run (P := P) (show w.heap[r]? = some (.map (entO kvs).toArray kvs.length) from hw.obj hL)
    obtain ⟨l, hl⟩ := h
    have hc := fun em => K.check w em hl
    rcases findK K hk ⟨l, hl⟩ w with ⟨h1, _⟩ | ⟨j, v, _, h3⟩
    · simp [execOp, hf.eval hx, hf.eval hy, Instr.lookup, run_underlying ht, h2, hc, h1, zero_run hT hz]
    · exact absurd rfl (hn _ h3)
/-- a key that is there. -/
theorem Ev.lookupYes (i : Nat) {t kt et : TypeId} {x y : Operand} {k v : Value} (kvs : List (Value × Value)) {r : Nat} (K : WideMaps.KeyLaw P kt) (hx : evo F x = some (.map (some r))) (hy : evo F y = some k) (hL : L[i]? = some (r, mapO kvs))
    (ht : P.underlying t = some (.map kt et)) (hk : KeysOk P kt kvs) (h : ∃ l, keyOf P kt k = some l) (hv : (k, v) ∈ kvs) :
    Ev P N B w0 ds pu F L ⟨dst, .lookup t x y true, ty, p, af, gd⟩ (.tuple ⟨[v, .bool true]⟩) :=
  .of_run fun a w hf hw => by
    have h2 := getObj_run (P := P) (show w.heap[r]? = some (.map (entO kvs).toArray kvs.length) from hw.obj hL)
    obtain ⟨l, hl⟩ := h
    have hc := fun em => K.check w em hl
    rcases findK K hk ⟨l, hl⟩ w with ⟨_, h3⟩ | ⟨j, v2, h1, h3⟩
    · exact absurd rfl (h3 _ hv)
    · have := hk.one _ _ _ h3 hv
      subst this
      simp [execOp, hf.eval hx, hf.eval hy, Instr.lookup, run_underlying ht, h2, hc, h1]
/-- a key that is not there yet is set. -/
theorem XL.updateK (i : Nat) {ops : Array Oper} {rest : List Oper} {t kt et : TypeId} {x y u : Operand} (kvs : List (Value × Value)) {r : Nat} {k v : Value} {L' : Lo} (K : WideMaps.KeyLaw P kt) (hx : evo F x = some (.map (some r))) (hy : evo F y = some k)
    (hu : evo F u = some v) (hL : L[i]? = some (r, mapO kvs)) (ht : P.underlying t = some (.map kt et)) (hk : KeysOk P kt kvs) (h : ∃ l, keyOf P kt k = some l) (hn : ∀ e, e ∈ kvs → e.1 ≠ k) (hL' : setN L i (r, mapO (kvs ++ [(k, v)])) = some L')
    (c : XL P N B w0 ds Q ops rest F L') :
    XL P N B w0 ds Q ops ({ dst := none, op := .mapUpdate t x y u, type := ty, pos := p, after := af, guard := none } :: rest) F L := by
  refine ⟨fun a w hf hs => ?_⟩
  refine wpList_plain rfl fun Kk hK => ?_
  unfold Oper.wp
  have hh := hs.obj hL
  have h2 := getObj_run (P := P) (show w.heap[r]? = some (.map (entO kvs).toArray kvs.length) from hh)
  obtain ⟨l, hl⟩ := h
  have hc := fun em => K.check w em hl
  rcases findK K hk ⟨l, hl⟩ w with ⟨h1, _⟩ | ⟨j, v2, _, h3⟩
  · have e1 : mapO (kvs ++ [(k, v)]) = .map ((entO kvs).toArray.push { key := k, val := v, born := kvs.length }) (kvs.length + 1) := mapO_push kvs k v
    have h3 := setObj_run (P := P) (o := mapO (kvs ++ [(k, v)])) (show w.heap[r]? = some (.map (entO kvs).toArray kvs.length) from hh)
    have : (execOp a.eval { dst := none, op := .mapUpdate t x y u, type := ty, pos := p, after := af, guard := none }).run P w = .ok .skip { w with heap := w.heap.setIfInBounds r (mapO (kvs ++ [(k, v)])) } := by
      rw [e1] at h3 ⊢
      simp only [execOp, hf.eval hx, hf.eval hy, hf.eval hu, Instr.mapUpdate, Sem.run_bind, run_underlying ht, Result.andThen_ok, h2, hc, h1, h3, Sem.run_pure]
    rw [this]
    exact hK _ _ (c.run _ _ hf (hs.setObj hL (setN_spec _ _ _ _ hL').1))
  · exact absurd rfl (hn _ h3)
/-! ### arrays -/
/-- a[:], of an array with n > 0 elements of one cell. -/
theorem Ev.sliceArr {t e : TypeId} {x : Operand} {ad : Addr} {m : Nat} {sz : Nat} (hx : evo F x = some (.pointer (some ad))) (ht : arrB (P.underlying t) = some (m, e)) (he : (P.info? e).map (·.size) = some sz) (h0 : 0 < m) :
    Ev P N B w0 ds pu F L ⟨dst, .slice t x none none none, ty, p, af, gd⟩ (.slice (some ad) m m) :=
  .of_run fun a w hf hw => by
    have hu : P.underlying t = some (.array m e) := by
      unfold arrB at ht
      split at ht
      · rename_i h; simp only [Option.some.injEq, Prod.mk.injEq] at ht; obtain ⟨rfl, rfl⟩ := ht; exact h
      · cases ht
    cases hi : P.info? e with
    | none => rw [hi] at he; cases he
    | some i =>
      have h1 : ad.add 0 = ad := by cases ad; rfl
      simp [execOp, hf.eval hx, Instr.sliceAt, Instr.sureAddr, run_underlying hu, Instr.sliceBounds, Instr.sliceBound, sizeOf_run hi, h1]
theorem setRow_obj {w : World} {g : Nat} {cs vs : List Value} {t : TypeId} (h : w.heap[g]? = some (cel t cs)) : w.setRow g vs.toArray = { w with heap := w.heap.setIfInBounds g (cel t vs) } := by
  unfold World.setRow
  congr 1
  obtain ⟨hlt, he⟩ := Array.getElem?_eq_some_iff.1 h
  apply Array.ext (by simp)
  intro j h1 h2
  rw [Array.getElem_modify, Array.getElem_setIfInBounds (by simpa using h2)]
  by_cases e : g = j
  · subst e
    simp [he]
  · simp [e]
/-- copy(own row, a slice that is not longer). -/
theorem XL.copyIn (i : Nat) {ops : Array Oper} {rest : List Oper} {d : Nat} {dT sT el : TypeId} {x y : Operand} {g o dLen dCap sLen sCap bytes : Nat} {A : Option Addr} {tg : TypeId} {cs vs : List Value} {L' : Lo} (he : elemOk P dT el 1 bytes = true)
    (hx : evo F x = some (.slice (some ⟨g, o, none⟩) dLen dCap)) (hy : evo F y = some (.slice A sLen sCap)) (hd : Nat.blt d N = true) (hL : L[i]? = some (g, cel tg cs)) (hrd : ∀ w, Sys B w0 L w → ReadsP w (Lt w.heap.size) 1 A sLen vs) (hle : sLen ≤ dLen) (hfit : o + sLen ≤ cs.length)
    (h1 : ∀ v, v ∈ vs → v.oneCell' = true) (hL' : setN L i (g, cel tg (cs.take o ++ vs ++ cs.drop (o + sLen))) = some L') (k : XL P N B w0 ds Q ops rest ((d, .int .i64 (sLen : Nat)) :: F) L') :
    XL P N B w0 ds Q ops ({ dst := some d, op := .call { callee := .builtin .copy, args := #[x, y], argTypes := #[dT, sT] }, type := ty, pos := p, after := af, guard := none } :: rest) F L := by
  refine ⟨fun a w hf hs => ?_⟩
  refine wpList_plain rfl fun Kk hK => ?_
  unfold Oper.wp
  obtain ⟨hu, q, z, hi, hz, e1, e2, e3⟩ := elemOk_spec he
  have hr := hrd w hs
  have hlen : sLen = vs.length := by have := hr.1; omega
  subst hlen
  have hsz : (P.info? el).map (·.size) = some 1 := by rw [hi]; simp [e1]
  have hg := hs.obj hL
  have hset := hs.setObj hL (setN_spec _ _ _ _ hL').1
  have hmn : Nat.min vs.length dLen = vs.length := Nat.min_eq_left hle
  have hrun : (Builtin.copy_ #[dT, sT] ty #[.slice (some ⟨g, o, none⟩) dLen dCap, .slice A vs.length sCap]).run P w = .ok (.int .i64 (vs.length : Nat)) { w with heap := w.heap.setIfInBounds g (cel tg (cs.take o ++ vs ++ cs.drop (o + vs.length))) } := by
    rcases Nat.eq_zero_or_pos vs.length with h0 | h0
    · have hv : vs = [] := List.length_eq_zero_iff.1 h0
      subst hv
      have h2 := run_copy_none (P := P) w dT sT ty el (some ⟨g, o, none⟩) A dLen dCap 0 sCap hu hsz (by omega)
      have h4 : cs.take o ++ [] ++ cs.drop (o + ([] : List Value).length) = cs := by simp
      have h5 : w.heap.setIfInBounds g (cel tg cs) = w.heap := by
        obtain ⟨hlt, he⟩ := Array.getElem?_eq_some_iff.1 hg
        rw [← he]
        apply Array.ext (by simp)
        intro j h1 h2
        rw [Array.getElem_setIfInBounds (by simpa using h2)]
        split
        · rename_i e; subst e; rfl
        · rfl
      rw [h4, h5]
      exact h2
    · obtain ⟨ad, rfl, _, hc⟩ := hr.at_ h0
      have h2 := run_copy_row (P := P) w dT sT ty el g o dLen dCap ad vs.length sCap cs.toArray tg vs hu hsz hg hmn.symm hc (by simpa using hfit) h1
      simp only [List.toList_toArray] at h2
      rw [setRow_obj hg] at h2
      exact h2
  have : (execOp a.eval { dst := some d, op := .call { callee := .builtin .copy, args := #[x, y], argTypes := #[dT, sT] }, type := ty, pos := p, after := af, guard := none }).run P w = .ok (.value (.int .i64 (vs.length : Nat))) { w with heap := w.heap.setIfInBounds g (cel tg (cs.take o ++ vs ++ cs.drop (o + vs.length))) } := by
    have hm : (#[x, y] : Array Operand).map a.eval = #[.slice (some ⟨g, o, none⟩) dLen dCap, .slice A vs.length sCap] := by simp [hf.eval hx, hf.eval hy]
    simp only [execOp, resolve, Sem.run_bind, Sem.run_pure, Result.andThen_ok, invoke, builtin, hm, hrun]
  rw [this]
  exact hK _ _ (k.run _ _ (hf.put hd) hset)
end
end Go.Proofs.Ytlfjdbilblfknaa.X
/-
  A walk by lemmas (N): a function that holds a range over a function and is handed own blocks; its early returns; one loop variable.
-/
namespace Go.Proofs.Ytlfjdbilblfknaa.X
open Go Go.RowKit
set_option linter.unusedVariables false
section
variable {P : Program} {T : TT} {N : Nat} {B : Nat} {w0 : World} {ds : List Deferred} {Q : Exit → Act → World → Prop} {F : Fr} {L L' : Lo}
theorem enterML {f : FuncId} {fn : Func} {c : Code} {vs : List Value} {w : World} {R : Ending → World → Prop} {n : Nat} (hf : P.funcs[f]? = some fn) (hb : fn.body = some c) (hN : fn.ntmps = n)
    (hn : Nat.ble vs.length n = true) (S : Sys B w L w) (h : XC P n B w [] (bodyPostM Fence.wide 0 P fn R) c (frame 0 vs) L) : Calls P f vs.toArray w R := by
  subst hN
  have hn' := Nat.le_of_ble_eq_true hn
  refine (callsIn_wide (n := 0)).1 (callsIn_of_wp_marks (F := Fence.wide) hf hb trivial ((wpIn_wide (n := 0)).2 (h.run _ w ⟨?_, rfl, fun t v _ hv => ?_⟩ S)))
  · simp; omega
  · obtain ⟨_, h2⟩ := lk_frame vs 0 t v hv
    have hlt : t < vs.length := (List.getElem?_eq_some_iff.1 h2).1
    simp only [Array.getD_eq_getD_getElem?]
    rw [Array.getElem?_append_left (by simpa using hlt)]
    simp at h2 ⊢
    rw [h2]; rfl
theorem XE.retM0 (hT : TOK P T) {fn : Func} {R : Ending → World → Prop} {rs : List ResultVar} {vs : List Value} {c : Prop} (h : fn.results = ⟨rs⟩) (hv : resO T F L rs = some (vs, c)) (hc : c)
    (hR : ∀ w, Sys B w0 L w → R (.returned (tupV vs)) w) : XE N B w0 [] (bodyPostM Fence.wide 0 P fn R) .ret F L :=
  ⟨fun a w hf hw => by
    show LeavesInM Fence.wide 0 P fn a.tmps R a.defers .returning w
    rw [hf.defers]
    exact ⟨_, by
      have h1 := resO_run hT hf hw hv hc
      have h2 : (results fn a.tmps).run P w = .ok (tupV vs) w := by
        unfold results
        rw [h, Array.mapM_eq_mapM_toList]
        simp only [Sem.run_bind, Sem.run_map]
        refine (congrArg (fun r : Result (List Value) => (r.andThen fun a w' => Result.ok a.toArray w').andThen fun a w' => Sem.run P (pure (if h : a.size = 1 then a[0] else Value.tuple a)) w') h1).trans ?_
        simp only [Result.andThen_ok, Sem.run_pure]
        cases vs with
        | nil => rfl
        | cons v vs => cases vs with
          | nil => rfl
          | cons u vs => simp [tupV]
      exact h2, hR w hw⟩⟩
/-- one of the own blocks alone; the others are new. -/
theorem Sys.only {g : Nat} {o : Obj} {w : World} (S : Sys B w0 L w) (hm : (g, o) ∈ L) (h : ∀ e, e ∈ L → e.1 ∈ [g] ∨ w0.heap.size ≤ e.1) : Sys B w0 [(g, o)] w :=
  ⟨S.os, S.tape, S.output, S.size, S.base, fun k hk hn => S.old k hk fun e he e1 => by
    rcases h e he with h1 | h1
    · exact hn _ (.head _) (by rw [← e1]; exact (List.mem_singleton.1 h1).symm)
    · omega, fun e he => by rw [List.mem_singleton.1 he]; exact S.own _ hm, by simp⟩
/-- what stands, gm aside. -/
def Ng' (gm : Nat) (w : World) : Nat → Prop := fun j => j < w.heap.size ∧ j ≠ gm
/-- what was there at w stands, gm aside. -/
structure Kp (gm : Nat) (w W : World) : Prop where
  below : Below gm w W
  old : ∀ j, Ng' gm w j → W.heap[j]? = w.heap[j]?
theorem Kp.refl {gm : Nat} {w : World} : Kp gm w w := ⟨Below.refl _ _, fun _ _ => rfl⟩
theorem Kp.mono {gm : Nat} {w W : World} (h : Kp gm w W) : ∀ k, Ng' gm w k → Ng' gm W k := fun k hk => ⟨Nat.lt_of_lt_of_le hk.1 h.below.size, hk.2⟩
theorem Kp.lt {gm : Nat} {w W : World} (h : Kp gm w W) : ∀ k, Ng' gm w k → Lt W.heap.size k := fun k hk => Nat.lt_of_lt_of_le hk.1 h.below.size
theorem Kp.sys {gm : Nat} {w W w' : World} (h : Kp gm w W) (S : Sys gm W L w') (hL : ∀ e, e ∈ L → e.1 ∈ [gm] ∨ w.heap.size ≤ e.1) : Kp gm w w' :=
  ⟨h.below.trans S.toBelow, fun j hj => by
    rw [S.old j (Nat.lt_of_lt_of_le hj.1 h.below.size) fun e he e1 => by
      rcases hL e he with h1 | h1
      · exact hj.2 (by rw [← e1]; exact List.mem_singleton.1 h1)
      · have := hj.1; omega]
    exact h.old j hj⟩
theorem Kp.made {gm : Nat} {w W w' : World} (h : Kp gm w W) (hb : Below W.heap.size W w') (hg : gm ≤ W.heap.size) : Kp gm w w' :=
  ⟨h.below.trans ⟨hb.os, hb.tape, hb.output, hb.size, fun k hk => hb.block k (by omega)⟩, fun j hj => (hb.block j (Nat.lt_of_lt_of_le hj.1 h.below.size)).trans (h.old j hj)⟩
theorem Kp.grow {gm : Nat} {w W W' : World} (h : Kp gm w W) (hB : Below gm W W') (ho : ∀ j, j < W.heap.size → (∀ e, e ∈ L → e.1 ≠ j) → W'.heap[j]? = W.heap[j]?) (hL : ∀ e, e ∈ L → e.1 ∈ [gm] ∨ w.heap.size ≤ e.1) : Kp gm w W' :=
  ⟨h.below.trans hB, fun j hj => (ho j (Nat.lt_of_lt_of_le hj.1 h.below.size) fun e he e1 => by
    rcases hL e he with h1 | h1
    · exact hj.2 (by rw [← e1]; exact List.mem_singleton.1 h1)
    · have := hj.1; omega).trans (h.old j hj)⟩
/-- the blocks below B alone. -/
def trunc (w : World) (n : Nat) : World := { w with heap := w.heap.extract 0 n }
theorem Sys.anchorT {wE W w' : World} {L' : Lo} (hB : Below B wE W) (S : Sys B W L w') (hs : ∀ e, e ∈ L' → e ∈ L) (hn : (L'.map (·.1)).Nodup) (hle : B ≤ wE.heap.size) : Sys B (trunc wE B) L' w' := by
  have hsz : (trunc wE B).heap.size = B := by simp [trunc]; omega
  refine ⟨S.os.trans hB.os, S.tape.trans hB.tape, S.output.trans hB.output, ?_, ?_, fun k hk _ => ?_, fun e he => S.own e (hs e he), hn⟩
  · rw [hsz]; exact Nat.le_trans S.base S.size
  · rw [hsz]; exact Nat.le_refl _
  · rw [hsz] at hk
    have h1 := S.toBelow.block k hk
    have h2 := hB.block k hk
    rw [h1, h2]
    simp [trunc, Array.getElem?_extract]
    omega
/-- at the call's end: nothing but gm has changed. -/
theorem Kp.end_ {gm : Nat} {w W w' : World} {o : Obj} (h : Kp gm w W) (S : Sys gm W L w') (hm : (gm, o) ∈ L) (hL : ∀ e, e ∈ L → e.1 ∈ [gm] ∨ w.heap.size ≤ e.1) (h0 : gm ≤ w.heap.size) : Sys gm w [(gm, o)] w' :=
  have h1 := h.sys S hL
  ⟨h1.below.os, h1.below.tape, h1.below.output, h1.below.size, h0, fun k hk hn => h1.old k ⟨hk, fun e => hn (gm, o) (.head _) e.symm⟩, fun e he => by rw [List.mem_singleton.1 he]; exact S.own _ hm, by simp⟩
/-- behind a call that only makes new things. -/
theorem Sys.made {w w' : World} (S : Sys B w0 L w) (hb : Below w.heap.size w w') : Sys B w' L w' :=
  ⟨rfl, rfl, rfl, Nat.le_refl _, Nat.le_trans S.base (Nat.le_trans S.size hb.size), fun _ _ _ => rfl, fun e he => ⟨(S.own e he).1, (hb.block e.1 (S.lt he)).trans (S.own e he).2⟩, S.nd⟩
/-- what another call, that may have changed gm, left: what was held is still held. -/
theorem Fam.after {w w' : World} {gm b : Nat} {o : Obj} {ks : List Nat} {hs hs' : List Held} (h : Fam w gm ks [] hs) (S : Sys b w [(gm, o)] w') (hk : gm ∈ ks) (h' : Fam w' gm ks [] hs') : Fam w' gm ks [] (hs' ++ hs) := by
  have h1 := h.sys S fun e he => .inl (by rw [List.mem_singleton.1 he]; exact hk)
  exact ⟨h1.base, h1.row, h1.sep, h1.two, h1.ins, fun x hx => by
    rcases List.mem_append.1 hx with h2 | h2
    · exact h'.held x h2
    · exact h1.held x h2⟩
end
section
variable {P : Program} {T : TT} {N : Nat} {B : Nat} {w0 : World} {ds : List Deferred} {Q : Exit → Act → World → Prop} {F : Fr} {L : Lo} {pu : Prop} {ops : Array Oper} {rest : List Oper} {ty : TypeId} {p : String} {af : Array Edge}
/-- append(row, a whole list). -/
theorem XL.pushLW {α : Type} {K : Kind α} {d : Nat} {t : TypeId} {x y : Operand} {v : Value} {l l2 : List α} {r2 : SV} {bytes b0 : Nat} {ks : List Nat} {rs : List RowX} {hs : List Held} {wE : World} (i : Nat) (he : elemOk P t K.ty K.m bytes = true) (h0 : 0 < K.m)
    (hx : evo F x = some v) (hy : evo F y = some (.slice r2.A r2.n r2.c)) (hd : Nat.blt d N = true) (hF : Fam w0 b0 ks rs hs) (hi : rs[i]? = some ⟨α, K, v, l⟩) (hks : ∀ k, k ∈ ks → k < w0.heap.size) (hbl : Below B wE w0) (hB : B ≤ b0)
    (hr : ∀ w, Sys B w0 L w → ListAt K w (Lt w.heap.size) r2 l2) (ha : ∀ a, a ∈ l2 → ∀ x, x ∈ K.sl a → x.p w0 (Free w0 b0 ks rs)) (h1 : ∀ a : α, (K.c a).all Value.oneCell' = true) (h63 : l.length + l2.length ≤ 10000000) (hb : bytes ≤ 10000000)
    (k : ∀ w' v', w0.heap.size ≤ w'.heap.size → (∀ j, j < w0.heap.size → (∀ e, e ∈ L → e.1 ≠ j) → v.ownBlock ≠ some j → w'.heap[j]? = w0.heap[j]?) → Fam w' b0 (L.map (·.1) ++ ks) (rs.set i ⟨α, K, v', l ++ l2⟩) hs → Below B wE w' → (∀ k, k ∈ L.map (·.1) ++ ks → k < w'.heap.size) → XL P N B w' ds Q ops rest ((d, v') :: F) L)
    (hL : ∀ e, e ∈ L → e.1 ∈ ks ∨ w0.heap.size ≤ e.1 := by (intro e he; repeat (first | (cases he; done) | (rcases List.mem_cons.1 he with rfl | he; · first | (right; assumption) | (left; simp <;> fail)))) <;> fail) :
    XL P N B w0 ds Q ops ({ dst := some d, op := .call { callee := .builtin .append, args := #[x, y], argTypes := #[t, t] }, type := ty, pos := p, after := af, guard := none } :: rest) F L := by
  obtain ⟨A, m, c⟩ := r2
  have hri : (⟨α, K, v, l⟩ : RowX) ∈ rs := List.mem_of_getElem? hi
  have hk2 : ∀ k, k ∈ L.map (·.1) ++ ks → k ∈ ks ∨ w0.heap.size ≤ k := fun k hk => by
    rcases List.mem_append.1 hk with h | h
    · obtain ⟨e, he, rfl⟩ := List.mem_map.1 h
      exact hL e he
    · exact .inl h
  have hk3 : ∀ w, Sys B w0 L w → ∀ k, k ∈ L.map (·.1) ++ ks → k < w.heap.size := fun w S k hk => by
    rcases List.mem_append.1 hk with h | h
    · obtain ⟨e, he, rfl⟩ := List.mem_map.1 h
      exact S.lt he
    · exact Nat.lt_of_lt_of_le (hks k h) S.size
  have hsepL : ∀ k, v.ownBlock = some k → ∀ e, e ∈ L → e.1 ≠ k := fun k hk e he e1 => by
    rcases hL e he with h | h
    · exact hF.sep _ hri k hk (e1 ▸ h)
    · have := (hF.lt hri hk).2; omega
  cases A with
  | none =>
    refine ⟨fun a w hf S => ?_⟩
    refine wpList_plain rfl fun Kk hK => ?_
    unfold Oper.wp
    have hl := hr w S
    have hm := hl.len h0
    simp only at hm
    have hm0 : m = 0 := by
      rcases Nat.eq_zero_or_pos m with h | h
      · exact h
      · obtain ⟨ad, e, _⟩ := hl.rd.at_ (by simpa using h)
        cases e
    subst hm0
    have hl2 : l2 = [] := List.length_eq_zero_iff.1 hm.symm
    subst hl2
    have hrun := append_none_run (ty := ty) (c := c) he (owns_sys (hF.row _ hri) S hsepL)
    have : (execOp a.eval { dst := some d, op := .call { callee := .builtin .append, args := #[x, y], argTypes := #[t, t] }, type := ty, pos := p, after := af, guard := none }).run P w = .ok (.value v) w := by
      have hm : (#[x, y] : Array Operand).map a.eval = #[v, .slice none 0 c] := by simp [hf.eval hx, hf.eval hy]
      simp only [execOp, resolve, Sem.run_bind, Sem.run_pure, Result.andThen_ok, invoke, builtin, hm, hrun]
    rw [this]
    refine hK _ _ ((k w v S.size (fun j h1 h2 _ => S.old j h1 h2) ?_ (hbl.trans S.toBelow) (hk3 w S)).run _ _ (hf.put hd) (S.rebase (List.Sublist.refl _)))
    have h2 := (hF.add (ks' := L.map (·.1) ++ ks) hk2).sys S fun e he => .inl (List.mem_append_left _ (List.mem_map.2 ⟨e, he, rfl⟩))
    obtain ⟨hil, hie⟩ := List.getElem?_eq_some_iff.1 hi
    have h3 : rs.set i ⟨α, K, v, l ++ []⟩ = rs := by
      rw [List.append_nil, ← hie]
      exact List.set_getElem_self hil
    rw [h3]
    exact h2
  | some A =>
    by_cases hex : ∃ w, Sys B w0 L w
    · obtain ⟨wx, Sx⟩ := hex
      have hm := (hr wx Sx).len h0
      simp only at hm
      subst hm
      refine XL.append2 (v := v) (m := l2.length) (n := l.length) (size := K.m) (bytes := bytes) (base := b0) (A := A) (xs := l.flatMap K.c) (news := l2.flatMap K.c) (L' := L) he h0 hx hy hd (hF.row _ hri) hsepL (by rw [flat_len K.c K.m K.len])
        (fun w S j u hj => ?_) ?_ (by unfold maxLen; omega) (Nat.le_trans (Nat.mul_le_mul h63 hb) (by decide)) hF.base (List.Sublist.refl _) (fun w v' w' S ho hg _ hfr => ?_)
      · have h2 := hr w S
        have hjl := (List.getElem?_eq_some_iff.1 hj).1
        rw [flat_len K.c K.m K.len] at hjl
        have hpos : 0 < l2.length := by
          rcases Nat.eq_zero_or_pos l2.length with h | h
          · rw [h] at hjl; omega
          · exact h
        obtain ⟨ad, e, _, h3⟩ := h2.rd.at_ hpos
        cases e
        exact h3 j u hj
      · rw [List.all_eq_true]
        intro u hu
        obtain ⟨a, ha', hu'⟩ := List.mem_flatMap.1 hu
        exact List.all_eq_true.1 (h1 a) u hu'
      · have hsz := hg.size
        have hS := S.size
        refine k w' v' (Nat.le_trans hS hsz) (fun j h1 h2 h3 => grown_old S hg h1 h2 fun e1 => h3 e1.symm) ?_ (hbl.trans (grown_below S hg fun k hk => Nat.le_trans hB (hF.lt hri hk).1)) fun q hq => Nat.lt_of_lt_of_le (hk3 w S q hq) hsz
        have hfa : ∀ j, Free w0 b0 ks rs j → Free w0 b0 (L.map (·.1) ++ ks) rs j := fun j hj => ⟨hj.1, hj.2.1, fun h => by
          rcases hk2 j h with h4 | h4
          · exact hj.2.2.1 h4
          · have := hj.2.1; omega, hj.2.2.2⟩
        refine (hF.add (ks' := L.map (·.1) ++ ks) hk2).pushL hi (fun a h4 x hx => x.mono (ha a h4 x hx) hfa) ho (Nat.le_trans hS hsz) (fun j hj hn hv => ?_) (fun k hk => ?_)
        · exact grown_old S hg hj (fun e he e1 => hn (List.mem_append_left _ (List.mem_map.2 ⟨e, he, e1⟩))) fun e1 => hv e1.symm
        · rcases hfr k hk with h | h
          · exact .inl h
          · exact .inr ⟨Nat.le_trans hS h, fun h2 => by have := hk3 w S k h2; omega⟩
    · exact ⟨fun a w hf S => absurd ⟨w, S⟩ hex⟩
/-- a slice literal is a new row. -/
theorem XL.newRowW (hT : TOK P T) {α : Type} {K : Kind α} {l : List α} {d : Nat} {t e : TypeId} {n size b0 : Nat} {ps : List (Nat × Operand)} {z : Value} {zs cs : List Value} {ks : List Nat} {rs : List RowX} {hs : List Held} {wE : World}
    (hs' : lkG T.sl t = some (e, size)) (hz : lkG T.zero e = some z) (hzs : cellsO z = some zs) (hsz : Nat.beq zs.length size = true) (h0 : Nat.blt 0 size = true) (hbig : Nat.ble (n * size) 16777216 = true) {zl : List Value} (hzl : zerosO zs n = some zl) (hc : fillS F size zl ps = some cs) (hd : Nat.blt d N = true)
    (hK : K.ty = e ∧ K.m = size) (hcs : cs = l.flatMap K.c) (hn : l.length = n) (hF : Fam w0 b0 ks rs hs) (hks : ∀ k, k ∈ ks → k < w0.heap.size) (hbl : Below B wE w0) (hb0 : b0 ≤ w0.heap.size) (ha : ∀ a, a ∈ l → ∀ x, x ∈ K.sl a → x.p w0 (Free w0 b0 ks rs))
    (k : ∀ w' g, w0.heap.size ≤ w'.heap.size → w0.heap.size ≤ g → (∀ j, j < w0.heap.size → (∀ e, e ∈ L → e.1 ≠ j) → w'.heap[j]? = w0.heap[j]?) → Fam w' b0 (L.map (·.1) ++ ks) (⟨α, K, .slice (some ⟨g, 0, none⟩) n n, l⟩ :: rs) hs → Below B wE w' → (∀ k, k ∈ L.map (·.1) ++ ks → k < w'.heap.size) → XL P N B w' ds Q ops rest ((d, .slice (some ⟨g, 0, none⟩) n n) :: F) L)
    (hL : ∀ e, e ∈ L → e.1 ∈ ks ∨ w0.heap.size ≤ e.1 := by (intro e he; repeat (first | (cases he; done) | (rcases List.mem_cons.1 he with rfl | he; · first | (right; assumption) | (left; simp <;> fail)))) <;> fail) :
    XL P N B w0 ds Q ops ({ dst := some d, op := .buildSlice t n ps.toArray, type := ty, pos := p, after := af, guard := none } :: rest) F L := by
  refine XL.buildSlice hT hs' hz hzs hsz h0 hbig hzl hc hd fun g hg => ?_
  refine XL.rebase (List.sublist_cons_self _ _) fun w1 S => ?_
  have hk2 : ∀ k, k ∈ L.map (·.1) ++ ks → k ∈ ks ∨ w0.heap.size ≤ k := fun k hk => by
    rcases List.mem_append.1 hk with h | h
    · obtain ⟨e, he, rfl⟩ := List.mem_map.1 h
      exact hL e he
    · exact .inl h
  have hk3 : ∀ k, k ∈ L.map (·.1) ++ ks → k < w1.heap.size := fun k hk => by
    rcases List.mem_append.1 hk with h | h
    · obtain ⟨e, he, rfl⟩ := List.mem_map.1 h
      exact S.lt (List.mem_cons_of_mem _ he)
    · exact Nat.lt_of_lt_of_le (hks k h) S.size
  have hgL : g ∉ L.map (·.1) := by have := S.nd; simp only [List.map_cons, List.nodup_cons] at this; exact this.1
  have hfa : ∀ j, Free w0 b0 ks rs j → Free w0 b0 (L.map (·.1) ++ ks) rs j := fun j hj => ⟨hj.1, hj.2.1, fun h => by
    rcases hk2 j h with h4 | h4
    · exact hj.2.2.1 h4
    · have := hj.2.1; omega, hj.2.2.2⟩
  obtain ⟨hK1, hK2⟩ := hK
  have hrow : w1.ownsRow b0 K.ty K.m (.slice (some ⟨g, 0, none⟩) n n) l.length (l.flatMap K.c) := by
    have h5 := (S.own (g, _) List.mem_cons_self).2
    have h6 : (l.flatMap K.c).length = n * K.m := by rw [flat_len K.c K.m K.len, hn]
    have hsz' : 0 < K.m := by rw [hK2]; exact Nat.le_of_ble_eq_true h0
    have hbig' : n * K.m ≤ 16777216 := by rw [hK2]; exact Nat.le_of_ble_eq_true hbig
    have hnm : n ≤ n * K.m := Nat.le_mul_of_pos_right n hsz'
    refine ⟨by rw [h6, hn], .inr ⟨g, n, ⟨l.flatMap K.c⟩, by rw [hn], Nat.le_trans hb0 hg, ?_, by omega, by unfold maxLen; omega, by simpa using h6, ?_⟩⟩
    · rw [hK1, ← hcs]; exact h5
    · rw [hn, ← h6]
      simp only [List.take_length]
  refine XL.weak1 (k w1 g S.size hg (fun j h1 h2 => S.old j h1 fun e he e1 => by
    rcases List.mem_cons.1 he with rfl | he
    · simp only at e1; omega
    · exact h2 e he e1) ((hF.add (ks' := L.map (·.1) ++ ks) hk2).fresh S.size (fun j hj hn' => ?_) hrow (fun q hq => ?_) fun a h4 x hx => x.mono (ha a h4 x hx) hfa) (hbl.trans S.toBelow) hk3)
  · exact S.old j hj fun e he e1 => by
      rcases List.mem_cons.1 he with rfl | he
      · simp only at e1; omega
      · exact hn' (List.mem_append_left _ (List.mem_map.2 ⟨e, he, e1⟩))
  · simp only [Value.ownBlock, Option.some.injEq] at hq
    subst hq
    refine ⟨hg, fun h7 => ?_⟩
    rcases List.mem_append.1 h7 with h8 | h8
    · exact hgL h8
    · have := hks _ h8; omega
end
section
variable {P : Program} {N B : Nat} {wS w0 : World} {ds : List Deferred} {Q : Exit → Act → World → Prop} {F : Fr} {L Ls : Lo} {ops : Array Oper} {rem : List (Nat × Oper)} {r : Option Nat} {n : Nat}
theorem XH.ofRS {l : List Oper} (wS : World) (Ls : Lo) (p q : List Nat) (hr : pickR l q = some rem)
    (hp : (pureOk l.toArray (Array.replicate l.length false) p && partB l.length p q) = true)
    (h : Fw P N B wS ds False (fun F' => XR P N B wS w0 ds Q Ls l.toArray rem F' L) l.toArray Ls (pickO l.toArray p) F) : XH P N B wS w0 ds Q Ls l.toArray (Array.replicate l.toArray.size false) F L := by
  simp only [Bool.and_eq_true] at hp
  refine XH.pure p (by simpa using hp.1) ?_
  have key : ∀ F', XR P N B wS w0 ds Q Ls l.toArray rem F' L → XH P N B wS w0 ds Q Ls l.toArray (setAll (Array.replicate l.toArray.size false) p) F' L := by
    intro F' hx
    have hset : ∀ (p : List Nat) (D : Array Bool) (i : Nat), i < D.size → on (setAll D p) i = (on D i || p.contains i) := by
      intro p
      induction p with
      | nil => intro D i _; simp [setAll]
      | cons j r ih =>
        intro D i hi
        rw [setAll, ih _ _ (by simpa using hi)]
        by_cases hj : j < D.size
        · rw [on_set hj]
          simp only [List.contains_cons]
          cases on D i <;> simp
        · have : D.setIfInBounds j true = D := Array.setIfInBounds_eq_of_size_le (by omega)
          rw [this]
          have hne : ¬ i = j := by omega
          simp [List.contains_cons, hne]
    have hsz : ∀ (p : List Nat) (D : Array Bool), (setAll D p).size = D.size := by
      intro p
      induction p with
      | nil => intro D; rfl
      | cons j r ih => intro D; rw [setAll, ih]; simp
    obtain ⟨h1, h2⟩ := pickR_spec hr
    have hpart := hp.2
    unfold partB at hpart
    simp only [Bool.and_eq_true, List.all_eq_true, List.mem_range, decide_eq_true_eq] at hpart
    obtain ⟨⟨h3, h4⟩, h5⟩ := hpart
    have hD : RemOk l.toArray (setAll (Array.replicate l.toArray.size false) p) rem := by
      refine ⟨by rw [hsz]; simp, fun e he => by simpa using h2 e he, fun i hi => ?_, by rw [h1]; exact h5⟩
      have hi' : i < l.length := by simpa using hi
      rw [hset _ _ _ (by simpa using hi')]
      have h6 : on (Array.replicate l.toArray.size false) i = false := by unfold on; simp [hi']
      rw [h6, Bool.false_or]
      have h7 := h3 i hi'
      have h8 : inRem rem i = q.contains i := by
        rw [Bool.eq_iff_iff, inRem_iff, List.contains_iff_mem, ← h1]
        simp only [List.mem_map, Prod.exists, exists_and_right, exists_eq_right]
      rw [h8]
      cases h9 : p.contains i <;> cases h10 : q.contains i <;> rw [h9, h10] at h7 <;> simp_all
    exact ⟨fun fuel a w hc hf hs hS => hx.run _ fuel a w hD hc hf hs hS⟩
  exact ⟨by
    have := h.run
    exact (show ∀ (ops : List Oper) (F : Fr) (K K' : Fr → Prop), (∀ F', K F' → K' F') → Fw0 P N B wS ds False l.toArray Ls K ops F → Fw0 P N B wS ds False l.toArray Ls K' ops F from by
      intro ops
      induction ops with
      | nil => intro F K K' hk h; exact hk _ h
      | cons o r ih => rintro F K K' hk ⟨v, h1, h2⟩; exact ⟨v, h1, ih _ _ _ hk h2⟩) _ _ _ _ (fun F' ⟨G', h1, h2⟩ => ⟨G', h1, key _ h2⟩) this⟩
/-- a region that draws its order, in a round's frame. -/
theorem wpAnyIn_of {md : Region.Mode} {K : Act → World → Prop} {Q' : Exit → Act → World → Prop} (hd : ∀ (i : Nat) (o : Oper), ops[i]? = some o → notDefer o = true) (hK : ∀ a w, K a w → Q' .normal a w) : ∀ (fuel : Nat) (listed : Array Bool) (a : Act) (w : World), wpAny P md ops (only K) fuel listed a w → wpAnyIn (fen r) n P md ops Q' fuel listed a w := by
  intro fuel
  induction fuel with
  | zero => intro listed a w h; exact ⟨h.1, hK _ _ h.2⟩
  | succ fuel ih =>
    intro listed a w h
    refine ⟨fun h0 => hK _ _ (h.1 h0), fun i hi => ?_⟩
    have h1 := h.2 i hi
    unfold wpOp at h1
    unfold wpOpIn
    split
    · rename_i ho
      rw [ho] at h1
      exact ih _ _ _ h1
    · rename_i o ho
      rw [ho] at h1
      simp only at h1
      split
      · rename_i hw
        rw [if_pos hw] at h1
        rcases h1 with h1 | ⟨_, a0, w0, q⟩
        · refine ⟨fun f _ => fen_fn r f, ?_⟩
          rw [fen_round]
          rw [Oper.semAt_eq r a.eval o (fun c e => by have := hd i o ho; simp [notDefer, e] at this)]
          refine upon_in (Q := only K) only_normal ?_
          have h2 : o.wp P a w (wpAnyIn (fen r) n P md ops Q' fuel (listed.setIfInBounds i true)) (only K) := Oper.wp_mono (fun a w h => ih _ _ _ h) h1
          exact h2
        · exact q.elim
      · rename_i hw
        rw [if_neg hw] at h1
        exact ⟨fun f _ => fen_fn r f, ih _ _ _ h1⟩
theorem XR'.drawRS {id : Nat} {l : List Oper} (wS : World) (Ls : Lo) (p q : List Nat) (hm : P.follows .mixedOrders = true) (hL : ∀ w, Sys B w0 L w → Sys B wS Ls w) (hr : pickR l q = some rem) (hnd : l.all notDefer = true)
    (hp : (pureOk l.toArray (Array.replicate l.length false) p && partB l.length p q) = true)
    (h : Fw P N B wS ds False (fun F' => XR P N B wS w0 ds (only fun a w => Q .normal a w) Ls l.toArray rem F' L) l.toArray Ls (pickO l.toArray p) F) : XR' P N B w0 ds Q r n (.region id l.toArray true) F L :=
  ⟨fun a w hf hs => by
    have h1 := (XH.ofRS (Q := only fun a w => Q .normal a w) wS Ls p q hr hp h).run l.toArray.size a { w with drawn := w.drawn + 1 } (by simp) hf hs.drew (hL _ hs.drew)
    refine wpIn_region_any hm (wpAnyIn_of (K := fun a w => Q .normal a w) (fun i o ho => ?_) (fun _ _ h => h) _ _ _ _ (wpAny_of_held _ _ _ _ h1))
    exact List.all_eq_true.1 hnd o (List.mem_of_getElem? (by simpa using ho))⟩
theorem XR'.exit {id : Nat} (h : XE N B w0 ds Q (.exit id) F L) : XR' P N B w0 ds Q r n (.exit id) F L := ⟨fun a w hf hs => wpIn_exit (h.run a w hf hs)⟩
theorem XE.onlyN (h : XE N B w0 ds Q .normal F L) : XE N B w0 ds (only fun a w => Q .normal a w) .normal F L := ⟨h.run⟩
end
end Go.Proofs.Ytlfjdbilblfknaa.X
/-
  A call that makes new things, of which it is kept what it left as it was; a drawn region with such a call whose reads are of things made by this call's caller.
-/
namespace Go.Proofs.Ytlfjdbilblfknaa.X
open Go Go.RowKit
set_option linter.unusedVariables false
section
variable {P : Program} {T : TT} {N : Nat} {B : Nat} {wS w0 : World} {ds : List Deferred} {Q : Exit → Act → World → Prop} {F : Fr} {L L' Ls : Lo} {ops : Array Oper} {rest : List Oper} {rem : List (Nat × Oper)} {ty : TypeId} {p : String} {af : Array Edge}
theorem XL.callFW {f : FuncId} {d : Nat} {args : Array Operand} {vs : List Value} {ats : Array TypeId} {b0 : Nat} {ks : List Nat} {rs : List RowX} {hs : List Held} {wE : World} (R : Value → List Held → Prop) (h : callOk P f = true)
    (ha : evos F args.toList = some vs) (hd : Nat.blt d N = true) (hF : Fam w0 b0 ks rs hs) (hks : ∀ k, k ∈ ks → k < w0.heap.size) (hbl : Below B wE w0)
    (hc : ∀ w, Sys B w0 L w → Fam w b0 (L.map (·.1) ++ ks) rs hs → Below B wE w → Calls P f vs.toArray w (Made w R))
    (k : ∀ w' v new, R v new → Fam w' b0 (L.map (·.1) ++ ks) rs (new ++ hs) → Below B wE w' → (∀ k, k ∈ L.map (·.1) ++ ks → k < w'.heap.size) → Sys B w0 L w' → XL P N B w' ds Q ops rest ((d, v) :: F) L)
    (hL : ∀ e, e ∈ L → e.1 ∈ ks ∨ w0.heap.size ≤ e.1 := by (intro e he; repeat (first | (cases he; done) | (rcases List.mem_cons.1 he with rfl | he; · first | (right; assumption) | (left; simp <;> fail)))) <;> fail) :
    XL P N B w0 ds Q ops ({ dst := some d, op := .call { callee := .value (.func f), args := args, argTypes := ats }, type := ty, pos := p, after := af, guard := none } :: rest) F L := by
  refine XL.call (fst := []) (cap := []) (vs := vs) h rfl ha hd (List.Sublist.refl _) (fun w v w' => ∃ new, R v new ∧ (∀ x, x ∈ new → x.p w' (Btw w.heap.size w'.heap.size)) ∧ Below w.heap.size w w') (fun w S => ?_) (fun w v w' S hR hb S' => ?_)
  · have h1 := hF.call S (Below.refl _ _) hL hks (new := []) fun _ h => by cases h
    simp only [List.nil_append, List.append_nil] at h1 ⊢
    exact (hc w S h1.1 (hbl.trans S.toBelow)).mono fun e w' ⟨v, new, e1, e2, e3, e4⟩ => ⟨v, e1, ⟨new, e2, e3, e4⟩, e4⟩
  · obtain ⟨new, e2, e3, e4⟩ := hR
    have h1 := hF.call S hb hL hks e3
    exact k w' v new e2 h1.1 (hbl.trans S'.toBelow) h1.2 S'
theorem Sys.anchor3 {W w2 w : World} {L2 : Lo} (S' : Sys B W L w2) (h : Sys B w2 L2 w) (hs : List.Sublist L L2) (hn : ∀ e, e ∈ L2 → e.1 ∈ L.map (·.1) ∨ W.heap.size ≤ e.1) : Sys B W L w :=
  ⟨h.os.trans S'.os, h.tape.trans S'.tape, h.output.trans S'.output, Nat.le_trans S'.size h.size, S'.base, fun k hk hk2 => by
    rw [h.old k (Nat.lt_of_lt_of_le hk S'.size) (fun e he e1 => by
      rcases hn e he with h1 | h1
      · obtain ⟨e', h3, h4⟩ := List.mem_map.1 h1
        exact hk2 e' h3 (by rw [h4, e1])
      · omega), S'.old k hk hk2], fun e he => ⟨(S'.own e he).1, (h.own e (hs.subset he)).2⟩, h.nd.sublist (hs.map _)⟩
theorem z5 {W w0 : World} (k : XR P N B W w0 ds Q Ls ops rem F L) (S' : Sys B W Ls w0 := by assumption) (hs : List.Sublist Ls L := by (repeat (first | exact List.Sublist.refl _ | exact List.nil_sublist _ | refine List.Sublist.cons_cons _ ?_ | refine List.Sublist.cons _ ?_)) <;> fail)
    (hn : ∀ e, e ∈ L → e.1 ∈ Ls.map (·.1) ∨ W.heap.size ≤ e.1 := by (intro e he; repeat (first | (cases he; done) | (rcases List.mem_cons.1 he with rfl | he; · first | (left; simp <;> fail) | (right; simp only; omega)))) <;> fail) :
    XE N B w0 ds (heldR P B W Q Ls ops rem) .normal F L := XE.heldR (fun _ h => Sys.anchor3 S' h hs hn) k
/-- W keeps all that stood in W0, but for block g. -/
structure Since (W0 : World) (g : Nat) (W : World) : Prop where
  os : W.os = W0.os
  tape : W.tape = W0.tape
  output : W.output = W0.output
  size : W0.heap.size ≤ W.heap.size
  old : ∀ k, k < W0.heap.size → k ≠ g → W.heap[k]? = W0.heap[k]?
def hOld (b0 : Nat) (W0 : World) (g : Nat) : Held := ⟨fun W ok => ∀ k, b0 ≤ k → k < W0.heap.size → k ≠ g → ok k ∧ W.heap[k]? = W0.heap[k]?, fun h hk k h1 h2 h3 => ⟨(h k h1 h2 h3).1, (hk k (h k h1 h2 h3).1).trans (h k h1 h2 h3).2⟩, fun h hk k h1 h2 h3 => ⟨hk k (h k h1 h2 h3).1, (h k h1 h2 h3).2⟩⟩
theorem Sys.anchor4 {W0 W w : World} {g : Nat} {o : Obj} (hS : Since W0 g W) (hB : B ≤ W0.heap.size) (h : Sys B W L w) (hs : List.Sublist [(g, o)] L) (hn : ∀ e, e ∈ L → e.1 = g ∨ W0.heap.size ≤ e.1) : Sys B W0 [(g, o)] w :=
  ⟨h.os.trans hS.os, h.tape.trans hS.tape, h.output.trans hS.output, Nat.le_trans hS.size h.size, hB, fun k hk hk2 => by
    have hkg : k ≠ g := fun e => hk2 (g, o) (.head _) e.symm
    rw [h.old k (Nat.lt_of_lt_of_le hk hS.size) (fun e he e1 => by
      rcases hn e he with h1 | h1
      · exact hkg (e1.symm.trans h1)
      · omega), hS.old k hk hkg], fun e he => h.own e (hs.subset he), h.nd.sublist (hs.map _)⟩
theorem z6 {W0 w0 : World} {g : Nat} {o : Obj} (k : XR P N B W0 w0 ds Q [(g, o)] ops rem F L) (hS : Since W0 g w0 := by assumption) (hB : B ≤ W0.heap.size := by assumption) (hs : List.Sublist [(g, o)] L := by (repeat (first | exact List.Sublist.refl _ | exact List.nil_sublist _ | refine List.Sublist.cons_cons _ ?_ | refine List.Sublist.cons _ ?_)) <;> fail)
    (hn : ∀ e, e ∈ L → e.1 = g ∨ W0.heap.size ≤ e.1 := by (intro e he; repeat (first | (cases he; done) | (rcases List.mem_cons.1 he with rfl | he; · first | (left; rfl) | (right; simp only; omega)))) <;> fail) :
    XE N B w0 ds (heldR P B W0 Q [(g, o)] ops rem) .normal F L := XE.heldR (fun _ h => Sys.anchor4 hS hB h hs hn) k
variable {dst : Option Tmp} {gd : Option (Nat × Bool)} {pu : Prop}
end
end Go.Proofs.Ytlfjdbilblfknaa.X
/-
  The plain words of layer 4: levels of volumes and volumes of levels, and that both are in order.
-/
namespace Go.Proofs.Ytlfjdbilblfknaa.Bs
set_option linter.unusedVariables false
/-- the piece in which a level lies. -/
def lsegTo (b : Bas) (l : Int) : Nat → Nat
  | 0 => 0
  | k + 1 => if (b.row (k + 1)).level ≤ l then k + 1 else lsegTo b l k
def lseg (b : Bas) (l : Int) : Nat := lsegTo b l (b.rows.length - 2)
/-- the greatest volume whose level is at most l, as the program reckons it. -/
def volAt (b : Bas) (l : Int) : Int := (b.row (lseg b l)).vol + (l - (b.row (lseg b l)).level) * ((b.row (lseg b l + 1)).vol - (b.row (lseg b l)).vol) / ((b.row (lseg b l + 1)).level - (b.row (lseg b l)).level)
def volOf (b : Bas) (l : Int) : Int := min 1000000000 (volAt b l)
def levLo (b : Bas) (v : Int) : Int := num b v / den b v
def levHi (b : Bas) (v : Int) : Int := -((-(num b v)) / den b v)
section
variable {b : Bas} (h : RowsOk b)
include h
end
end Go.Proofs.Ytlfjdbilblfknaa.Bs
/-
  The plain words of layer 7 (runoff): devices, tasks, what Check says, what a choice does.
-/
namespace Go.Proofs.Ytlfjdbilblfknaa.Bs
open Go Go.Proofs.Ytlfjdbilblfknaa.X
set_option linter.unusedVariables false
structure Slu where
  name : ByteArray
  width : Int
  move : Int
structure Pmp where
  name : ByteArray
  rate : Int
  base : Int
  lift : Int
  start : Int
inductive Dev where
  | slu (x : Slu)
  | pmp (x : Pmp)
structure RTk where
  b : Bas
  s : Sta
  outer : List Int
  river : List Int
  prices : List Int
  low : Int
  high : Int
  slu : List Slu
  pmp : List Pmp
  on : List Bool
def Dev.name : Dev → ByteArray
  | .slu x => x.name
  | .pmp x => x.name
def sluWild (x : Slu) : Bool := outB x.width 0 10000 || outB x.move 0 100000
def pmpWild (x : Pmp) : Bool := outB x.rate 0 10000000 || (outB x.base 0 100000 || (outB x.lift 0 100000 || outB x.start 0 100000))
def Dev.wild : Dev → Bool
  | .slu x => sluWild x
  | .pmp x => pmpWild x
def RTk.devs (t : RTk) : List Dev := t.slu.map .slu ++ t.pmp.map .pmp
def d0 : Dev := .slu ⟨ByteArray.empty, 0, 0⟩
def RTk.dev (t : RTk) (i : Nat) : Dev := t.devs[i]?.getD d0
def RTk.many (t : RTk) : Nat := t.slu.length + t.pmp.length
theorem RTk.devs_len (t : RTk) : t.devs.length = t.many := by simp [RTk.devs, RTk.many]
def tickErr (t : RTk) (i : Nat) : Int := if outB (at0 t.outer i) (-20000) 20000 || (outB (at0 t.river i) 0 10000000 || outB (at0 t.prices i) 0 10000) then 7 else 0
def devErr (l : List Dev) (i : Nat) : Int :=
  if nameB (l[i]?.getD d0).name = false then 6 else if ∃ k, k < i ∧ (l[k]?.getD d0).name = (l[i]?.getD d0).name then 5 else if (l[i]?.getD d0).wild = true then 7 else 0
open Classical in
noncomputable def chkT (t : RTk) : Int × Int × Int :=
  if chkE t.b ≠ 0 then (1, 0, chkE t.b) else
  if staErr t.b t.s ≠ 0 then (1, 1, staErr t.b t.s) else
  if 6 < t.outer.length then (2, 0, 3) else
  if t.river.length ≠ t.outer.length ∨ t.prices.length ≠ t.outer.length then (2, 0, 2) else
  match firstN (tickErr t) t.outer.length with
  | some i => (2, i, 7)
  | none =>
    if outB t.high (-20000) 20000 || outB t.low (t.b.row 0).level t.high then (3, 0, 7) else
    if 2 < t.slu.length ∨ 2 < t.pmp.length then (4, 0, 3) else
    match firstN (devErr t.devs) t.devs.length with
    | some i => (4, i, devErr t.devs i)
    | none => if t.on.length ≠ t.devs.length then (5, 0, 2) else (0, 0, 0)
noncomputable def rtE (t : RTk) : Int := (chkT t).2.2
/-- a device's numbers are fine. -/
def DevOk : Dev → Prop
  | .slu x => (0 ≤ x.width ∧ x.width ≤ 10000) ∧ (0 ≤ x.move ∧ x.move ≤ 100000)
  | .pmp x => (0 ≤ x.rate ∧ x.rate ≤ 10000000) ∧ (0 ≤ x.base ∧ x.base ≤ 100000) ∧ (0 ≤ x.lift ∧ x.lift ≤ 100000) ∧ (0 ≤ x.start ∧ x.start ≤ 100000)
structure RtOk (t : RTk) : Prop where
  ok : Ok t.b
  sta : StaOk t.b t.s
  n6 : t.outer.length ≤ 6
  river : t.river.length = t.outer.length
  prices : t.prices.length = t.outer.length
  out_ : ∀ i, i < t.outer.length → -20000 ≤ at0 t.outer i ∧ at0 t.outer i ≤ 20000
  riv_ : ∀ i, i < t.outer.length → 0 ≤ at0 t.river i ∧ at0 t.river i ≤ 10000000
  pri_ : ∀ i, i < t.outer.length → 0 ≤ at0 t.prices i ∧ at0 t.prices i ≤ 10000
  high : t.high ≤ 20000
  low : (t.b.row 0).level ≤ t.low ∧ t.low ≤ t.high
  s2 : t.slu.length ≤ 2
  p2 : t.pmp.length ≤ 2
  dev : ∀ d, d ∈ t.devs → DevOk d
  on : t.on.length = t.devs.length
theorem firstN_val {f : Nat → Int} {n i : Nat} (h : firstN f n = some i) : i < n ∧ f i ≠ 0 ∧ ∀ j, j < i → f j = 0 := by
  induction n with
  | zero => cases h
  | succ n ih =>
    simp only [firstN] at h
    cases hx : firstN f n with
    | some j =>
      rw [hx] at h
      cases h
      obtain ⟨a, b, c⟩ := ih hx
      exact ⟨by omega, b, c⟩
    | none =>
      rw [hx] at h
      simp only at h
      by_cases hf : f n = 0
      · rw [if_pos hf] at h; cases h
      · rw [if_neg hf] at h
        cases h
        exact ⟨by omega, hf, firstN_none_iff hx⟩
theorem dev_ok {d : Dev} (h : d.wild = false) : DevOk d := by
  cases d with
  | slu x =>
    simp only [Dev.wild, sluWild, Bool.or_eq_false_iff] at h
    exact ⟨outB_f.1 h.1, outB_f.1 h.2⟩
  | pmp x =>
    simp only [Dev.wild, pmpWild, Bool.or_eq_false_iff] at h
    exact ⟨outB_f.1 h.1, outB_f.1 h.2.1, outB_f.1 h.2.2.1, outB_f.1 h.2.2.2⟩
theorem rtOk_of {t : RTk} (h : rtE t = 0) : RtOk t := by
  unfold rtE chkT at h
  split at h
  · rename_i h1; exact absurd h h1
  rename_i h1
  split at h
  · rename_i h2; exact absurd h h2
  rename_i h2
  have hs0 : staErr t.b t.s = 0 := by simpa using h2
  obtain ⟨ho, hs⟩ := staOk_of hs0
  split at h
  · cases h
  rename_i h3
  split at h
  · cases h
  rename_i h4
  split at h
  · cases h
  rename_i h5
  split at h
  · cases h
  rename_i h6
  split at h
  · cases h
  rename_i h7
  split at h
  · rename_i i hi
    obtain ⟨_, b1, _⟩ := firstN_val hi
    exact absurd h b1
  rename_i h8
  split at h
  · cases h
  rename_i h9
  have h5' := firstN_none_iff h5
  have ht : ∀ i, i < t.outer.length → (-20000 ≤ at0 t.outer i ∧ at0 t.outer i ≤ 20000) ∧ (0 ≤ at0 t.river i ∧ at0 t.river i ≤ 10000000) ∧ (0 ≤ at0 t.prices i ∧ at0 t.prices i ≤ 10000) := fun i hi => by
    have := h5' i hi
    unfold tickErr at this
    split at this
    · cases this
    · rename_i h10
      simp only [Bool.or_eq_true, not_or, Bool.not_eq_true] at h10
      exact ⟨outB_f.1 h10.1, outB_f.1 h10.2.1, outB_f.1 h10.2.2⟩
  simp only [Bool.or_eq_true, not_or, Bool.not_eq_true] at h6
  have hl := outB_f.1 h6.2
  have hh := outB_f.1 h6.1
  have h8' := firstN_none_iff h8
  refine ⟨ho, hs, by omega, by omega, by omega, fun i hi => (ht i hi).1, fun i hi => (ht i hi).2.1, fun i hi => (ht i hi).2.2, hh.2, hl, by omega, by omega, fun d hd => ?_, by simpa using h9⟩
  obtain ⟨i, hi, rfl⟩ := List.mem_iff_getElem.1 hd
  have h10 := h8' i hi
  unfold devErr at h10
  rw [List.getElem?_eq_getElem hi] at h10
  simp only [Option.getD_some] at h10
  split at h10
  · cases h10
  · split at h10
    · cases h10
    · split at h10
      · cases h10
      · rename_i h11
        exact dev_ok (by simpa using h11)
/-! ### what a choice does -/
/-- n / d: the level inside; o: the level outside. -/
def Dev.flow (n d o : Int) : Dev → Option Int
  | .slu x => if n - o * d ≤ 0 then none else some ((x.width * (n - o * d)).tdiv d)
  | .pmp x => some x.rate
def Dev.energy (n d o : Int) (before on : Bool) : Dev → Int
  | .slu x => if before = on then 0 else x.move
  | .pmp x => if on = true then x.base + (x.lift * max 0 (-(n - o * d)) + d - 1).tdiv d + (if before = true then 0 else x.start) else 0
def bl (l : List Bool) (i : Nat) : Bool := l[i]?.getD false
/-- the first k devices: what runs off, and the energy; none: a sluice is on that must not be. -/
def useTo (n d o : Int) (ds : List Dev) (before on : List Bool) : Nat → Option (Int × Int)
  | 0 => some (0, 0)
  | k + 1 => match useTo n d o ds before on k with
    | none => none
    | some (f, e) => if bl on k = true then
        match (ds[k]?.getD d0).flow n d o with
        | none => none
        | some x => some (f + x, e + (ds[k]?.getD d0).energy n d o (bl before k) true)
      else some (f, e + (ds[k]?.getD d0).energy n d o (bl before k) false)
def RTk.use (t : RTk) (v : Int) (tick : Nat) (before on : List Bool) : Option (Int × Int) :=
  match useTo (num t.b v) (den t.b v) (at0 t.outer tick) t.devs before on t.devs.length with
  | none => none
  | some (f, e) => some (min f 10000000, e)
/-- what happens in a tick: the state after it, what was to run off, the energy, the cost. -/
structure Done where
  s : Sta
  out : Int
  energy : Int
  cost : Int
def Done.zero : Done := ⟨⟨0, []⟩, 0, 0, 0⟩
/-- the tick that a choice makes. -/
def RTk.tickOf (t : RTk) (i : Nat) (f : Int) : Tick := ⟨at0 t.outer i, at0 t.river i, f⟩
/-- the fault of a choice; what happens. -/
def RTk.doE (t : RTk) (s : Sta) (i : Nat) (before on : List Bool) : Int :=
  match t.use s.vol i before on with
  | none => 170
  | some (f, _) =>
    if stepE t.b s (t.tickOf i f) ≠ 0 then 173
    else if num t.b (outS t.b s (t.tickOf i f)).vol < t.low * den t.b (outS t.b s (t.tickOf i f)).vol then 171
    else if t.high * den t.b (outS t.b s (t.tickOf i f)).vol < num t.b (outS t.b s (t.tickOf i f)).vol then 172 else 0
def RTk.doD (t : RTk) (s : Sta) (i : Nat) (before on : List Bool) : Done :=
  if t.doE s i before on = 0 then
    match t.use s.vol i before on with
    | none => Done.zero
    | some (f, e) => ⟨outS t.b s (t.tickOf i f), f, e, e * at0 t.prices i⟩
  else Done.zero
/-! ### choices, plans -/
/-- choice number i of m devices. -/
def chc (m i : Nat) : List Bool := (List.range m).map fun j => i.testBit (m - 1 - j)
abbrev Plan := List (List Bool)
/-- a plan that was found, and its cost. -/
abbrev Fd := Option (Int × Plan)
/-- of two the cheaper one; of two alike the first. -/
def better : Fd → Fd → Fd
  | none, y => y
  | some x, none => some x
  | some x, some y => if y.1 < x.1 then some y else some x
def pick (g : Nat → Fd) : Nat → Fd
  | 0 => none
  | n + 1 => better (pick g n) (g n)
def RTk.m (t : RTk) : Nat := t.devs.length
def RTk.n (t : RTk) : Nat := t.outer.length
/-- a choice and the best rest. -/
def RTk.one (t : RTk) (more : Sta → List Bool → Fd) (s : Sta) (i : Nat) (before on : List Bool) : Fd :=
  if t.doE s i before on = 0 then
    match more (t.doD s i before on).s on with
    | none => none
    | some (c, p) => some ((t.doD s i before on).cost + c, on :: p)
  else none
/-- the first one of the cheapest rests of a plan: k ticks are left. -/
def RTk.rest (t : RTk) : Nat → Sta → List Bool → Fd
  | 0, _, _ => some (0, [])
  | k + 1, s, before => pick (fun i => t.one (t.rest k) s (t.n - (k + 1)) before (chc t.m i)) (2 ^ t.m)
/-- what happens along a plan from a tick on, up to the first fault; the fault. -/
def RTk.flw (t : RTk) : Nat → Sta → List Bool → Plan → List Done × Int
  | _, _, _, [] => ([], 0)
  | i, s, before, on :: r => if t.doE s i before on = 0 then ((t.doD s i before on) :: (t.flw (i + 1) (t.doD s i before on).s on r).1, (t.flw (i + 1) (t.doD s i before on).s on r).2) else ([], t.doE s i before on)
def costs (l : List Done) : Int := (l.map (·.cost)).foldl (· + ·) 0
def RTk.shaped (t : RTk) (p : Plan) : Bool := decide (p.length = t.n) && p.all fun on => decide (on.length = t.m)
end Go.Proofs.Ytlfjdbilblfknaa.Bs
/-
  The plain law of layer 7 (runoff): the choices in order; the first one of the cheapest plans.
-/
namespace Go.Proofs.Ytlfjdbilblfknaa.Bs
open Go Go.Proofs.Ytlfjdbilblfknaa.X
set_option linter.unusedVariables false
/-! ### the choices -/
theorem chc_len (m i : Nat) : (chc m i).length = m := by simp [chc]
/-- the first difference: off in p, on in q. -/
def Bef (p q : List Bool) : Prop := ∃ k : Nat, (∀ j : Nat, j < k → p[j]? = q[j]?) ∧ p[k]? = some false ∧ q[k]? = some true
/-! ### the first one of the cheapest -/
theorem pick_none {g : Nat → Fd} : ∀ {n : Nat}, pick g n = none → ∀ i, i < n → g i = none := by
  intro n
  induction n with
  | zero => intro _ i h; omega
  | succ n ih =>
    intro h i hi
    unfold pick at h
    cases h1 : pick g n with
    | none =>
      rw [h1] at h
      simp only [better] at h
      rcases Nat.lt_or_ge i n with h2 | h2
      · exact ih h1 i h2
      · rw [show i = n by omega]; exact h
    | some x =>
      rw [h1] at h
      cases h2 : g n with
      | none => rw [h2] at h; simp [better] at h
      | some y => rw [h2] at h; simp only [better] at h; split at h <;> cases h
theorem pick_some {g : Nat → Fd} : ∀ {n : Nat} {x : Int × Plan}, pick g n = some x → ∃ i, i < n ∧ g i = some x ∧ (∀ j y, j < n → g j = some y → x.1 ≤ y.1) ∧ (∀ j y, j < i → g j = some y → x.1 < y.1) := by
  intro n
  induction n with
  | zero => intro x h; cases h
  | succ n ih =>
    intro x h
    unfold pick at h
    cases h1 : pick g n with
    | none =>
      rw [h1] at h
      simp only [better] at h
      have h2 := pick_none h1
      refine ⟨n, by omega, h, fun j y hj hy => ?_, fun j y hj hy => ?_⟩
      · rcases Nat.lt_or_ge j n with h3 | h3
        · rw [h2 j h3] at hy; cases hy
        · rw [show j = n by omega, h] at hy; cases hy; exact Int.le_refl _
      · rw [h2 j hj] at hy; cases hy
    | some z =>
      rw [h1] at h
      obtain ⟨i, a1, a2, a3, a4⟩ := ih h1
      cases h2 : g n with
      | none =>
        rw [h2] at h
        simp only [better, Option.some.injEq] at h
        subst h
        refine ⟨i, by omega, a2, fun j y hj hy => ?_, a4⟩
        rcases Nat.lt_or_ge j n with h3 | h3
        · exact a3 j y h3 hy
        · rw [show j = n by omega, h2] at hy; cases hy
      | some y0 =>
        rw [h2] at h
        simp only [better] at h
        by_cases h3 : y0.1 < z.1
        · rw [if_pos h3] at h
          cases h
          refine ⟨n, by omega, h2, fun j y hj hy => ?_, fun j y hj hy => ?_⟩
          · rcases Nat.lt_or_ge j n with h4 | h4
            · have := a3 j y h4 hy; omega
            · rw [show j = n by omega, h2] at hy; cases hy; exact Int.le_refl _
          · have := a3 j y hj hy; omega
        · rw [if_neg h3] at h
          cases h
          refine ⟨i, by omega, a2, fun j y hj hy => ?_, a4⟩
          rcases Nat.lt_or_ge j n with h4 | h4
          · exact a3 j y h4 hy
          · rw [show j = n by omega, h2] at hy; cases hy; omega
theorem costs_go (l : List Done) : ∀ a : Int, (l.map (·.cost)).foldl (· + ·) a = a + costs l := by
  induction l with
  | nil => intro a; simp [costs]
  | cons x l ih =>
    intro a
    have h1 := ih (a + x.cost)
    have h2 := ih (0 + x.cost)
    unfold costs
    simp only [List.map_cons, List.foldl_cons] at h1 h2 ⊢
    rw [h1, h2]; omega
theorem costs_cons (x : Done) (l : List Done) : costs (x :: l) = x.cost + costs l := by
  have := costs_go l (0 + x.cost)
  unfold costs at *
  simp only [List.map_cons, List.foldl_cons] at this ⊢
  rw [this]; omega
theorem costs_nil : costs [] = 0 := rfl
theorem costs_snoc (x : Done) (l : List Done) : costs (l ++ [x]) = costs l + x.cost := by
  unfold costs
  rw [List.map_append, List.foldl_append]; rfl
section
variable {t : RTk}
/-- a plan for the last k ticks that is good: all have a choice, and no fault. -/
structure GoodP (t : RTk) (k : Nat) (s : Sta) (before : List Bool) (p : Plan) : Prop where
  len : p.length = k
  row : ∀ on, on ∈ p → on.length = t.m
  ok : (t.flw (t.n - k) s before p).2 = 0
theorem one_some {more : Sta → List Bool → Fd} {s : Sta} {i : Nat} {before on : List Bool} {x : Int × Plan} (h : t.one more s i before on = some x) : t.doE s i before on = 0 ∧ ∃ c p, more (t.doD s i before on).s on = some (c, p) ∧ x = ((t.doD s i before on).cost + c, on :: p) := by
  unfold RTk.one at h
  by_cases h0 : t.doE s i before on = 0
  · rw [if_pos h0] at h
    cases h1 : more (t.doD s i before on).s on with
    | none => rw [h1] at h; cases h
    | some y => rw [h1] at h; cases h; exact ⟨h0, _, _, rfl, rfl⟩
  · rw [if_neg h0] at h; cases h
theorem one_of {more : Sta → List Bool → Fd} {s : Sta} {i : Nat} {before on : List Bool} {c : Int} {p : Plan} (h0 : t.doE s i before on = 0) (h1 : more (t.doD s i before on).s on = some (c, p)) : t.one more s i before on = some ((t.doD s i before on).cost + c, on :: p) := by
  unfold RTk.one
  rw [if_pos h0, h1]
theorem flw_eq (i : Nat) (s : Sta) (before on : List Bool) (r : Plan) : t.flw i s before (on :: r) = if t.doE s i before on = 0 then ((t.doD s i before on) :: (t.flw (i + 1) (t.doD s i before on).s on r).1, (t.flw (i + 1) (t.doD s i before on).s on r).2) else ([], t.doE s i before on) := rfl
theorem flw_cons {i : Nat} {s : Sta} {before on : List Bool} {r : Plan} (h : (t.flw i s before (on :: r)).2 = 0) : t.doE s i before on = 0 ∧ (t.flw (i + 1) (t.doD s i before on).s on r).2 = 0 ∧ (t.flw i s before (on :: r)).1 = t.doD s i before on :: (t.flw (i + 1) (t.doD s i before on).s on r).1 := by
  rw [flw_eq] at h ⊢
  by_cases h0 : t.doE s i before on = 0
  · rw [if_pos h0] at h ⊢; exact ⟨h0, h, rfl⟩
  · rw [if_neg h0] at h; exact absurd h h0
theorem flw_cons_of {i : Nat} {s : Sta} {before on : List Bool} {r : Plan} (h0 : t.doE s i before on = 0) : t.flw i s before (on :: r) = (t.doD s i before on :: (t.flw (i + 1) (t.doD s i before on).s on r).1, (t.flw (i + 1) (t.doD s i before on).s on r).2) := by
  rw [flw_eq, if_pos h0]
/-- what rest finds is a good plan of that cost. -/
theorem rest_good : ∀ {k : Nat} {s : Sta} {before : List Bool} {c : Int} {p : Plan}, k ≤ t.n → t.rest k s before = some (c, p) → GoodP t k s before p ∧ costs (t.flw (t.n - k) s before p).1 = c := by
  intro k
  induction k with
  | zero =>
    intro s before c p _ h
    cases h
    exact ⟨GoodP.mk rfl (fun _ h => nomatch h) rfl, rfl⟩
  | succ k ih =>
    intro s before c p hk h
    unfold RTk.rest at h
    obtain ⟨i, hi, h1, _, _⟩ := pick_some h
    obtain ⟨h0, c', p', h2, e⟩ := one_some h1
    cases e
    obtain ⟨g, hc⟩ := ih (by omega) h2
    have e1 : t.n - (k + 1) + 1 = t.n - k := by omega
    refine ⟨⟨by simp [g.len], fun on hon => ?_, ?_⟩, ?_⟩
    · rcases List.mem_cons.1 hon with rfl | hon
      · exact chc_len _ _
      · exact g.row on hon
    · rw [flw_cons_of h0, e1]; exact g.ok
    · rw [flw_cons_of h0, e1, costs_cons, hc]
/-- no good plan costs less; one that costs as little is this one, or comes behind it. -/
def PBef (p q : Plan) : Prop := ∃ i : Nat, (∀ j : Nat, j < i → p[j]? = q[j]?) ∧ ∃ a b, p[i]? = some a ∧ q[i]? = some b ∧ Bef a b
/-- the first tick of what rest finds, and the rest of it. -/
theorem rest_next {k : Nat} {s : Sta} {before : List Bool} {c : Int} {p : Plan} (h : t.rest (k + 1) s before = some (c, p)) : ∃ on p', p = on :: p' ∧ t.doE s (t.n - (k + 1)) before on = 0 ∧ t.rest k (t.doD s (t.n - (k + 1)) before on).s on = some (c - (t.doD s (t.n - (k + 1)) before on).cost, p') := by
  unfold RTk.rest at h
  obtain ⟨i, hi, h1, _, _⟩ := pick_some h
  obtain ⟨h0, c', p', h2, e⟩ := one_some h1
  cases e
  exact ⟨_, p', rfl, h0, by rw [h2]; congr 2; omega⟩
end
end Go.Proofs.Ytlfjdbilblfknaa.Bs
/-
  How a task of run-off lies in memory.
-/
namespace Go.Proofs.Ytlfjdbilblfknaa.X
open Go Go.RowKit Go.Proofs.Ytlfjdbilblfknaa.Bs
set_option linter.unusedVariables false
def boolK : Kind Bool := ⟨4, 1, fun b => [.bool b], fun _ => [], fun _ => rfl⟩
def sluC (x : Slu) : List Value := [.string x.name, .int .i64 x.width, .int .i64 x.move]
def pmpC (x : Pmp) : List Value := [.string x.name, .int .i64 x.rate, .int .i64 x.base, .int .i64 x.lift, .int .i64 x.start]
def sluK : Kind Slu := ⟨93, 3, sluC, fun _ => [], fun _ => rfl⟩
def pmpK : Kind Pmp := ⟨35, 5, pmpC, fun _ => [], fun _ => rfl⟩
def _root_.Go.Proofs.Ytlfjdbilblfknaa.Bs.Dev.ty : Dev → Nat
  | .slu _ => 120
  | .pmp _ => 121
def _root_.Go.Proofs.Ytlfjdbilblfknaa.Bs.Dev.c : Dev → List Value
  | .slu x => sluC x
  | .pmp x => pmpC x
def devV (d : Dev) : Value := .iface d.ty (.agg ⟨d.c⟩)
def devK : Kind Dev := ⟨86, 1, fun d => [devV d], fun _ => [], fun _ => rfl⟩
structure RTV where
  p : BV
  q : SV
  o : SV
  r : SV
  c : SV
  su : SV
  pu : SV
  on : SV
def RTV.n (v : RTV) : List Value := [.slice v.o.A v.o.n v.o.c, .slice v.r.A v.r.n v.r.c, .slice v.c.A v.c.n v.c.c]
def tskC (v : RTV) (t : RTk) : List Value :=
  [.slice v.p.A v.p.n v.p.c, .int .i64 t.b.leak, .int .i64 t.b.crest, .int .i64 t.b.over, .slice v.p.A2 v.p.n2 v.p.c2, .int .i64 t.s.vol, .slice v.q.A v.q.n v.q.c, .slice v.o.A v.o.n v.o.c, .slice v.r.A v.r.n v.r.c, .slice v.c.A v.c.n v.c.c, .int .i64 t.low, .int .i64 t.high, .slice v.su.A v.su.n v.su.c, .slice v.pu.A v.pu.n v.pu.c, .slice v.on.A v.on.n v.on.c]
def tskV (v : RTV) (t : RTk) : Value := .agg ⟨tskC v t⟩
structure TskAt (w : World) (B : Nat) (v : RTV) (t : RTk) : Prop where
  bas : BasAt w B v.p t.b
  fil : IntsAt w (Lt B) v.q t.s.fil
  outer : IntsAt w (Lt B) v.o t.outer
  river : IntsAt w (Lt B) v.r t.river
  prices : IntsAt w (Lt B) v.c t.prices
  slu : ListAt sluK w (Lt B) v.su t.slu
  pmp : ListAt pmpK w (Lt B) v.pu t.pmp
  on : ListAt boolK w (Lt B) v.on t.on
  names : ∀ d, d ∈ t.devs → d.name.size ≤ 9223372036854775807
section
variable {w w' w0 : World} {B B' : Nat} {v : RTV} {t : RTk} {L : Lo}
theorem TskAt.below (h : TskAt w B v t) (hb : Below B w w') : TskAt w' B v t :=
  ⟨h.bas.below hb, h.fil.keep fun k hk => hb.block k hk, h.outer.keep fun k hk => hb.block k hk, h.river.keep fun k hk => hb.block k hk, h.prices.keep fun k hk => hb.block k hk, h.slu.below hb, h.pmp.below hb, h.on.below hb, h.names⟩
theorem TskAt.more (h : TskAt w B v t) (hB : B ≤ B') : TskAt w B' v t :=
  ⟨h.bas.more hB, h.fil.mono fun k hk => Nat.lt_of_lt_of_le hk hB, h.outer.mono fun k hk => Nat.lt_of_lt_of_le hk hB, h.river.mono fun k hk => Nat.lt_of_lt_of_le hk hB, h.prices.mono fun k hk => Nat.lt_of_lt_of_le hk hB, h.slu.mono fun k hk => Nat.lt_of_lt_of_le hk hB, h.pmp.mono fun k hk => Nat.lt_of_lt_of_le hk hB, h.on.mono fun k hk => Nat.lt_of_lt_of_le hk hB, h.names⟩
theorem TskAt.sys (h : TskAt w0 B v t) (S : Sys B w0 L w) : TskAt w w.heap.size v t := (h.below S.toBelow).more (Nat.le_trans S.base S.size)
end
end Go.Proofs.Ytlfjdbilblfknaa.X
/-
  The walks of the devices' methods (runoff).
-/
namespace Go.Proofs.Ytlfjdbilblfknaa.X
open Go Go.RowKit Go.Proofs.Ytlfjdbilblfknaa.Bs
set_option linter.unusedVariables false
/-- a level inside, n / d, and one outside. -/
structure HeadOk (n d o : Int) : Prop where
  hd : 1 ≤ d ∧ d ≤ 1000000000
  hn : -20000000000000 ≤ n ∧ n ≤ 60000000000000
  hlo : -20000 * d ≤ n
  ho : -20000 ≤ o ∧ o ≤ 20000
section
variable {n d o : Int} (h : HeadOk n d o)
include h
theorem HeadOk.od : -20000000000000 ≤ o * d ∧ o * d ≤ 20000000000000 ∧ o * d ≤ 20000 * d := by
  have h1 := mul_bd (X := 20000) (Y := 1000000000) (x := o) (y := d) h.ho (by have := h.hd; omega)
  have h2 : o * d ≤ 20000 * d := Int.mul_le_mul_of_nonneg_right h.ho.2 (by have := h.hd; omega)
  omega
theorem HeadOk.ins : -40000000000000 ≤ n - o * d ∧ n - o * d ≤ 80000000000000 ∧ -(n - o * d) ≤ 40000 * d := by
  have h1 := h.od
  have h2 := h.hn
  have h3 := h.hlo
  omega
end
def headC (n d o : Int) : List Value := [.int .i64 n, .int .i64 d, .int .i64 o]
theorem rnout_any (n lo hi : Int) (w : World) :
    Calls Try.prog 24 #[.int .i64 n, .int .i64 lo, .int .i64 hi] w fun e w' => e = .returned (.bool (outB n lo hi)) ∧ Below w.heap.size w w' := by
  refine enter Try.func24 rfl Try.ntmps24 rfl ?_; simp only [frame, Nat.zero_add, Nat.reduceAdd]
  repeat (first | (refine M0 ?_; first | refine SL ?_ | refine SB fun _ _ => ?_) | (refine M1 ?_; first | refine SC ?_ | refine SD ?_) | (refine M2 ?_; refine SE ?_) | (refine M3 ?_; first | refine SG ?_ | refine SF ?_) | (refine M4 ?_; refine SR ?_) | (refine M5 ?_; first | exact M7 | refine YM ?_ | refine YN ?_ ?_))
  refine XL.split _ _ rfl (fun h => ?_) (fun h => ?_) <;> rw [h]
  · repeat (first | (refine M0 ?_; first | refine SL ?_ | refine SB fun _ _ => ?_) | (refine M1 ?_; first | refine SC ?_ | refine SD ?_) | (refine M2 ?_; refine SE ?_) | (refine M3 ?_; first | refine SG ?_ | refine SF ?_) | (refine M4 ?_; refine SR ?_) | (refine M5 ?_; first | exact M7 | refine YM ?_ | refine YN ?_ ?_))
    refine XE.retg tok Try.results24 rfl (by simp only [and_self, and_true]) (fun w' S => ?_)
    exact ⟨by unfold outB; rw [h]; rfl, S.toBelow⟩
  · repeat (first | (refine M0 ?_; first | refine SL ?_ | refine SB fun _ _ => ?_) | (refine M1 ?_; first | refine SC ?_ | refine SD ?_) | (refine M2 ?_; refine SE ?_) | (refine M3 ?_; first | refine SG ?_ | refine SF ?_) | (refine M4 ?_; refine SR ?_) | (refine M5 ?_; first | exact M7 | refine YM ?_ | refine YN ?_ ?_))
    refine XE.retg tok Try.results24 rfl (by simp only [and_self, and_true]) (fun w' S => ?_)
    exact ⟨by unfold outB; rw [h]; rfl, S.toBelow⟩
theorem inside_any {n d o : Int} (h : HeadOk n d o) (w : World) :
    Calls Try.prog 85 #[.agg ⟨headC n d o⟩] w fun e w' => e = .returned (.int .i64 (n - o * d)) ∧ Below w.heap.size w w' := by
  have h1 := h.od
  have h2 := h.ins
  simp only [headC]
  refine enter Try.func85 rfl Try.ntmps85 rfl ?_; simp only [frame, Nat.zero_add, Nat.reduceAdd]
  repeat (first | (refine M0 ?_; first | refine SL ?_ | refine SB fun _ _ => ?_) | (refine M1 ?_; first | refine SC ?_ | refine SD ?_) | (refine M2 ?_; refine SE ?_) | (refine M3 ?_; first | refine SG ?_ | refine SF ?_) | (refine M4 ?_; refine SR ?_) | (refine M5 ?_; first | exact M7 | refine YM ?_ | refine YN ?_ ?_))
  refine XE.retg tok Try.results85 rfl (by simp only [and_self, and_true]) (fun w' S => ?_)
  exact ⟨rfl, S.toBelow⟩
theorem sname_any (x : Slu) (w : World) :
    Calls Try.prog 83 #[.agg ⟨sluC x⟩] w fun e w' => e = .returned (.string x.name) ∧ Below w.heap.size w w' := by
  simp only [sluC]
  refine enter Try.func83 rfl Try.ntmps83 rfl ?_; simp only [frame, Nat.zero_add, Nat.reduceAdd]
  repeat (first | (refine M0 ?_; first | refine SL ?_ | refine SB fun _ _ => ?_) | (refine M1 ?_; first | refine SC ?_ | refine SD ?_) | (refine M2 ?_; refine SE ?_) | (refine M3 ?_; first | refine SG ?_ | refine SF ?_) | (refine M4 ?_; refine SR ?_) | (refine M5 ?_; first | exact M7 | refine YM ?_ | refine YN ?_ ?_))
  refine XE.retg tok Try.results83 rfl (by simp only [and_self, and_true]) (fun w' S => ?_)
  exact ⟨rfl, S.toBelow⟩
theorem pname_any (x : Pmp) (w : World) :
    Calls Try.prog 88 #[.agg ⟨pmpC x⟩] w fun e w' => e = .returned (.string x.name) ∧ Below w.heap.size w w' := by
  simp only [pmpC]
  refine enter Try.func88 rfl Try.ntmps88 rfl ?_; simp only [frame, Nat.zero_add, Nat.reduceAdd]
  repeat (first | (refine M0 ?_; first | refine SL ?_ | refine SB fun _ _ => ?_) | (refine M1 ?_; first | refine SC ?_ | refine SD ?_) | (refine M2 ?_; refine SE ?_) | (refine M3 ?_; first | refine SG ?_ | refine SF ?_) | (refine M4 ?_; refine SR ?_) | (refine M5 ?_; first | exact M7 | refine YM ?_ | refine YN ?_ ?_))
  refine XE.retg tok Try.results88 rfl (by simp only [and_self, and_true]) (fun w' S => ?_)
  exact ⟨rfl, S.toBelow⟩
theorem outP {n lo hi : Int} {b : Bool} (e : outB n lo hi = b) (w : World) :
    Calls Try.prog 24 #[.int .i64 n, .int .i64 lo, .int .i64 hi] w fun e w' => e = .returned (.bool b) ∧ Below w.heap.size w w' := by
  subst e; exact rnout_any n lo hi w
theorem swild_any (x : Slu) (w : World) :
    Calls Try.prog 84 #[.agg ⟨sluC x⟩] w fun e w' => e = .returned (.bool (sluWild x)) ∧ Below w.heap.size w w' := by
  simp only [sluC]
  refine enter Try.func84 rfl Try.ntmps84 rfl ?_; simp only [frame, Nat.zero_add, Nat.reduceAdd]
  cases e0 : outB x.width 0 10000 with
  | true =>
    repeat (first | (refine M0 ?_; first | refine SL ?_ | refine SB fun _ _ => ?_ | refine Y4 (Ev.call (f := 24) (vs := [.int .i64 x.width, .int .i64 0, .int .i64 10000]) (ck rfl) rfl (fun w S => outP e0 w)) ?_) | (refine M1 ?_; first | refine SC ?_ | refine SD ?_) | (refine M2 ?_; refine SE ?_) | (refine M3 ?_; first | refine SG ?_ | refine SF ?_ | refine YF (Ev.call (f := 24) (vs := [.int .i64 x.width, .int .i64 0, .int .i64 10000]) (ck rfl) rfl (fun w S => outP e0 w)) ?_) | (refine M4 ?_; refine SR ?_) | (refine M5 ?_; first | exact M7 | refine YM ?_ | refine YN ?_ ?_))
    refine XE.retg tok Try.results84 rfl (by simp only [and_self, and_true]) (fun w' S => ?_)
    exact ⟨by rw [show sluWild x = true by simp only [sluWild, e0, Bool.true_or]]; rfl, S.toBelow⟩
  | false =>
    repeat (first | (refine M0 ?_; first | refine SL ?_ | refine SB fun _ _ => ?_ | refine Y4 (Ev.call (f := 24) (vs := [.int .i64 x.width, .int .i64 0, .int .i64 10000]) (ck rfl) rfl (fun w S => outP e0 w)) ?_ | refine Y4 (Ev.call (f := 24) (vs := [.int .i64 x.move, .int .i64 0, .int .i64 100000]) (ck rfl) rfl (fun w S => rnout_any _ _ _ w)) ?_) | (refine M1 ?_; first | refine SC ?_ | refine SD ?_) | (refine M2 ?_; refine SE ?_) | (refine M3 ?_; first | refine SG ?_ | refine SF ?_ | refine YF (Ev.call (f := 24) (vs := [.int .i64 x.width, .int .i64 0, .int .i64 10000]) (ck rfl) rfl (fun w S => outP e0 w)) ?_ | refine YF (Ev.call (f := 24) (vs := [.int .i64 x.move, .int .i64 0, .int .i64 100000]) (ck rfl) rfl (fun w S => rnout_any _ _ _ w)) ?_) | (refine M4 ?_; refine SR ?_) | (refine M5 ?_; first | exact M7 | refine YM ?_ | refine YN ?_ ?_))
    refine XE.retg tok Try.results84 rfl (by simp only [and_self, and_true]) (fun w' S => ?_)
    exact ⟨by rw [show sluWild x = outB x.move 0 100000 by simp only [sluWild, e0, Bool.false_or]]; rfl, S.toBelow⟩
theorem pwild_any (x : Pmp) (w : World) :
    Calls Try.prog 89 #[.agg ⟨pmpC x⟩] w fun e w' => e = .returned (.bool (pmpWild x)) ∧ Below w.heap.size w w' := by
  simp only [pmpC]
  refine enter Try.func89 rfl Try.ntmps89 rfl ?_; simp only [frame, Nat.zero_add, Nat.reduceAdd]
  cases e0 : outB x.rate 0 10000000 with
  | true =>
    repeat (first | (refine M0 ?_; first | refine SL ?_ | refine SB fun _ _ => ?_ | refine Y4 (Ev.call (f := 24) (vs := [.int .i64 x.rate, .int .i64 0, .int .i64 10000000]) (ck rfl) rfl (fun w S => outP e0 w)) ?_) | (refine M1 ?_; first | refine SC ?_ | refine SD ?_) | (refine M2 ?_; refine SE ?_) | (refine M3 ?_; first | refine SG ?_ | refine SF ?_ | refine YF (Ev.call (f := 24) (vs := [.int .i64 x.rate, .int .i64 0, .int .i64 10000000]) (ck rfl) rfl (fun w S => outP e0 w)) ?_) | (refine M4 ?_; refine SR ?_) | (refine M5 ?_; first | exact M7 | refine YM ?_ | refine YN ?_ ?_))
    refine XE.retg tok Try.results89 rfl (by simp only [and_self, and_true]) (fun w' S => ?_)
    exact ⟨by rw [show pmpWild x = true by simp only [pmpWild, e0, Bool.true_or]]; rfl, S.toBelow⟩
  | false =>
  cases e1 : outB x.base 0 100000 with
  | true =>
    repeat (first | (refine M0 ?_; first | refine SL ?_ | refine SB fun _ _ => ?_ | refine Y4 (Ev.call (f := 24) (vs := [.int .i64 x.rate, .int .i64 0, .int .i64 10000000]) (ck rfl) rfl (fun w S => outP e0 w)) ?_ | refine Y4 (Ev.call (f := 24) (vs := [.int .i64 x.base, .int .i64 0, .int .i64 100000]) (ck rfl) rfl (fun w S => outP e1 w)) ?_) | (refine M1 ?_; first | refine SC ?_ | refine SD ?_) | (refine M2 ?_; refine SE ?_) | (refine M3 ?_; first | refine SG ?_ | refine SF ?_ | refine YF (Ev.call (f := 24) (vs := [.int .i64 x.rate, .int .i64 0, .int .i64 10000000]) (ck rfl) rfl (fun w S => outP e0 w)) ?_ | refine YF (Ev.call (f := 24) (vs := [.int .i64 x.base, .int .i64 0, .int .i64 100000]) (ck rfl) rfl (fun w S => outP e1 w)) ?_) | (refine M4 ?_; refine SR ?_) | (refine M5 ?_; first | exact M7 | refine YM ?_ | refine YN ?_ ?_))
    refine XE.retg tok Try.results89 rfl (by simp only [and_self, and_true]) (fun w' S => ?_)
    exact ⟨by rw [show pmpWild x = true by simp only [pmpWild, e0, e1, Bool.true_or, Bool.false_or]]; rfl, S.toBelow⟩
  | false =>
  cases e2 : outB x.lift 0 100000 with
  | true =>
    repeat (first | (refine M0 ?_; first | refine SL ?_ | refine SB fun _ _ => ?_ | refine Y4 (Ev.call (f := 24) (vs := [.int .i64 x.rate, .int .i64 0, .int .i64 10000000]) (ck rfl) rfl (fun w S => outP e0 w)) ?_ | refine Y4 (Ev.call (f := 24) (vs := [.int .i64 x.base, .int .i64 0, .int .i64 100000]) (ck rfl) rfl (fun w S => outP e1 w)) ?_ | refine Y4 (Ev.call (f := 24) (vs := [.int .i64 x.lift, .int .i64 0, .int .i64 100000]) (ck rfl) rfl (fun w S => outP e2 w)) ?_) | (refine M1 ?_; first | refine SC ?_ | refine SD ?_) | (refine M2 ?_; refine SE ?_) | (refine M3 ?_; first | refine SG ?_ | refine SF ?_ | refine YF (Ev.call (f := 24) (vs := [.int .i64 x.rate, .int .i64 0, .int .i64 10000000]) (ck rfl) rfl (fun w S => outP e0 w)) ?_ | refine YF (Ev.call (f := 24) (vs := [.int .i64 x.base, .int .i64 0, .int .i64 100000]) (ck rfl) rfl (fun w S => outP e1 w)) ?_ | refine YF (Ev.call (f := 24) (vs := [.int .i64 x.lift, .int .i64 0, .int .i64 100000]) (ck rfl) rfl (fun w S => outP e2 w)) ?_) | (refine M4 ?_; refine SR ?_) | (refine M5 ?_; first | exact M7 | refine YM ?_ | refine YN ?_ ?_))
    refine XE.retg tok Try.results89 rfl (by simp only [and_self, and_true]) (fun w' S => ?_)
    exact ⟨by rw [show pmpWild x = true by simp only [pmpWild, e0, e1, e2, Bool.true_or, Bool.false_or]]; rfl, S.toBelow⟩
  | false =>
    repeat (first | (refine M0 ?_; first | refine SL ?_ | refine SB fun _ _ => ?_ | refine Y4 (Ev.call (f := 24) (vs := [.int .i64 x.rate, .int .i64 0, .int .i64 10000000]) (ck rfl) rfl (fun w S => outP e0 w)) ?_ | refine Y4 (Ev.call (f := 24) (vs := [.int .i64 x.base, .int .i64 0, .int .i64 100000]) (ck rfl) rfl (fun w S => outP e1 w)) ?_ | refine Y4 (Ev.call (f := 24) (vs := [.int .i64 x.lift, .int .i64 0, .int .i64 100000]) (ck rfl) rfl (fun w S => outP e2 w)) ?_ | refine Y4 (Ev.call (f := 24) (vs := [.int .i64 x.start, .int .i64 0, .int .i64 100000]) (ck rfl) rfl (fun w S => rnout_any _ _ _ w)) ?_) | (refine M1 ?_; first | refine SC ?_ | refine SD ?_) | (refine M2 ?_; refine SE ?_) | (refine M3 ?_; first | refine SG ?_ | refine SF ?_ | refine YF (Ev.call (f := 24) (vs := [.int .i64 x.rate, .int .i64 0, .int .i64 10000000]) (ck rfl) rfl (fun w S => outP e0 w)) ?_ | refine YF (Ev.call (f := 24) (vs := [.int .i64 x.base, .int .i64 0, .int .i64 100000]) (ck rfl) rfl (fun w S => outP e1 w)) ?_ | refine YF (Ev.call (f := 24) (vs := [.int .i64 x.lift, .int .i64 0, .int .i64 100000]) (ck rfl) rfl (fun w S => outP e2 w)) ?_ | refine YF (Ev.call (f := 24) (vs := [.int .i64 x.start, .int .i64 0, .int .i64 100000]) (ck rfl) rfl (fun w S => rnout_any _ _ _ w)) ?_) | (refine M4 ?_; refine SR ?_) | (refine M5 ?_; first | exact M7 | refine YM ?_ | refine YN ?_ ?_))
    refine XE.retg tok Try.results89 rfl (by simp only [and_self, and_true]) (fun w' S => ?_)
    exact ⟨by rw [show pmpWild x = outB x.start 0 100000 by simp only [pmpWild, e0, e1, e2, Bool.false_or]]; rfl, S.toBelow⟩
/-- what flow answers. -/
def flowV : Option Int → Value
  | none => .tuple ⟨[.int .i64 0, .bool false]⟩
  | some f => .tuple ⟨[.int .i64 f, .bool true]⟩
theorem tdiv_sml {a b : Int} (hb : 1 ≤ b) (ha : 0 ≤ a) : 0 ≤ a.tdiv b ∧ a.tdiv b ≤ a := by
  have h1 := tdiv_bd (a := a) hb
  have h2 := Int.tdiv_nonneg ha (by omega : 0 ≤ b)
  omega
theorem sflow_any {x : Slu} {n d o : Int} (h : HeadOk n d o) (hx : DevOk (.slu x)) (w : World) :
    Calls Try.prog 82 #[.agg ⟨sluC x⟩, .agg ⟨headC n d o⟩] w fun e w' => e = .returned (flowV ((Dev.slu x).flow n d o)) ∧ Below w.heap.size w w' := by
  have h2 := h.ins
  have hd := h.hd
  simp only [sluC, headC]
  refine enter Try.func82 rfl Try.ntmps82 rfl ?_; simp only [frame, Nat.zero_add, Nat.reduceAdd]
  repeat (first | (refine M0 ?_; first | refine SL ?_ | refine SB fun _ _ => ?_ | refine Y4 (Ev.call (f := 85) (ck rfl) rfl (fun w S => inside_any h w)) ?_) | (refine M1 ?_; first | refine SC ?_ | refine SD ?_) | (refine M2 ?_; refine SE ?_) | (refine M3 ?_; first | refine SG ?_ | refine SF ?_ | refine YF (Ev.call (f := 85) (ck rfl) rfl (fun w S => inside_any h w)) ?_) | (refine M4 ?_; refine SR ?_) | (refine M5 ?_; first | exact M7 | refine YM ?_ | refine YN ?_ ?_))
  refine XC.cond _ rfl (fun h1 => ?_) (fun h1 => ?_)
  · repeat (first | (refine M0 ?_; first | refine SL ?_ | refine SB fun _ _ => ?_) | (refine M1 ?_; first | refine SC ?_ | refine SD ?_) | (refine M2 ?_; refine SE ?_) | (refine M3 ?_; first | refine SG ?_ | refine SF ?_) | (refine M4 ?_; refine SR ?_) | (refine M5 ?_; first | exact M7 | refine YM ?_ | refine YN ?_ ?_))
    refine XE.retg tok Try.results82 rfl (by simp only [and_self, and_true]) (fun w' S => ?_)
    exact ⟨by rw [show (Dev.slu x).flow n d o = none by simp only [Dev.flow]; rw [if_pos (of_decide_eq_true h1)]]; rfl, S.toBelow⟩
  · have h3 : ¬ n - o * d ≤ 0 := of_decide_eq_false h1
    have h4 := mul_bd (X := 10000) (Y := 80000000000000) (x := x.width) (y := n - o * d) (by have := hx.1; omega) (by omega)
    have h5 : 0 ≤ x.width * (n - o * d) := Int.mul_nonneg hx.1.1 (by omega)
    have h6 := tdiv_sml hd.1 h5
    repeat (first | (refine M0 ?_; first | refine SL ?_ | refine SB fun _ _ => ?_ | refine Y4 (Ev.call (f := 85) (ck rfl) rfl (fun w S => inside_any h w)) ?_) | (refine M1 ?_; first | refine SC ?_ | refine SD ?_) | (refine M2 ?_; refine SE ?_) | (refine M3 ?_; first | refine SG ?_ | refine SF ?_ | refine YF (Ev.call (f := 85) (ck rfl) rfl (fun w S => inside_any h w)) ?_) | (refine M4 ?_; refine SR ?_) | (refine M5 ?_; first | exact M7 | refine YM ?_ | refine YN ?_ ?_))
    refine XE.retg tok Try.results82 rfl (by simp only [and_self, and_true]) (fun w' S => ?_)
    exact ⟨by rw [show (Dev.slu x).flow n d o = some ((x.width * (n - o * d)).tdiv d) by simp only [Dev.flow]; rw [if_neg h3]]; rfl, S.toBelow⟩
theorem pflow_any {x : Pmp} {n d o : Int} (w : World) :
    Calls Try.prog 87 #[.agg ⟨pmpC x⟩, .agg ⟨headC n d o⟩] w fun e w' => e = .returned (flowV ((Dev.pmp x).flow n d o)) ∧ Below w.heap.size w w' := by
  simp only [pmpC, headC]
  refine enter Try.func87 rfl Try.ntmps87 rfl ?_; simp only [frame, Nat.zero_add, Nat.reduceAdd]
  repeat (first | (refine M0 ?_; first | refine SL ?_ | refine SB fun _ _ => ?_) | (refine M1 ?_; first | refine SC ?_ | refine SD ?_) | (refine M2 ?_; refine SE ?_) | (refine M3 ?_; first | refine SG ?_ | refine SF ?_) | (refine M4 ?_; refine SR ?_) | (refine M5 ?_; first | exact M7 | refine YM ?_ | refine YN ?_ ?_))
  refine XE.retg tok Try.results87 rfl (by simp only [and_self, and_true]) (fun w' S => ?_)
  exact ⟨rfl, S.toBelow⟩
theorem senergy_any {x : Slu} {n d o : Int} {before on : Bool} (w : World) :
    Calls Try.prog 81 #[.agg ⟨sluC x⟩, .agg ⟨headC n d o⟩, .bool before, .bool on] w fun e w' => e = .returned (.int .i64 ((Dev.slu x).energy n d o before on)) ∧ Below w.heap.size w w' := by
  simp only [sluC, headC]
  refine enter Try.func81 rfl Try.ntmps81 rfl ?_; simp only [frame, Nat.zero_add, Nat.reduceAdd]
  repeat (first | (refine M0 ?_; first | refine SL ?_ | refine SB fun _ _ => ?_ | refine Y4 (Ev.eqlB Try.underlying4 rfl rfl) ?_) | (refine M1 ?_; first | refine SC ?_ | refine SD ?_) | (refine M2 ?_; refine SE ?_) | (refine M3 ?_; first | refine SG ?_ | refine SF ?_ | refine YF (Ev.eqlB Try.underlying4 rfl rfl) ?_) | (refine M4 ?_; refine SR ?_) | (refine M5 ?_; first | exact M7 | refine YM ?_ | refine YN ?_ ?_))
  refine XC.cond _ rfl (fun h1 => ?_) (fun h1 => ?_)
  · repeat (first | (refine M0 ?_; first | refine SL ?_ | refine SB fun _ _ => ?_) | (refine M1 ?_; first | refine SC ?_ | refine SD ?_) | (refine M2 ?_; refine SE ?_) | (refine M3 ?_; first | refine SG ?_ | refine SF ?_) | (refine M4 ?_; refine SR ?_) | (refine M5 ?_; first | exact M7 | refine YM ?_ | refine YN ?_ ?_))
    refine XE.retg tok Try.results81 rfl (by simp only [and_self, and_true]) (fun w' S => ?_)
    exact ⟨by simp only [Dev.energy]; rw [if_pos (by simpa using h1)]; rfl, S.toBelow⟩
  · repeat (first | (refine M0 ?_; first | refine SL ?_ | refine SB fun _ _ => ?_) | (refine M1 ?_; first | refine SC ?_ | refine SD ?_) | (refine M2 ?_; refine SE ?_) | (refine M3 ?_; first | refine SG ?_ | refine SF ?_) | (refine M4 ?_; refine SR ?_) | (refine M5 ?_; first | exact M7 | refine YM ?_ | refine YN ?_ ?_))
    refine XE.retg tok Try.results81 rfl (by simp only [and_self, and_true]) (fun w' S => ?_)
    exact ⟨by simp only [Dev.energy]; rw [if_neg (by simpa using h1)]; rfl, S.toBelow⟩
/-- what the lift takes. -/
theorem lift_bd {x l d : Int} (hd : 1 ≤ d ∧ d ≤ 1000000000) (hl : 0 ≤ l ∧ l ≤ 100000) (hx : 0 ≤ x ∧ x ≤ 40000000000000 ∧ x ≤ 40000 * d) : (0 ≤ l * x ∧ l * x ≤ 4000000000000000000) ∧ 0 ≤ (l * x + d - 1).tdiv d ∧ (l * x + d - 1).tdiv d ≤ 4000000001 := by
  have h1 := mul_bd (X := 100000) (Y := 40000000000000) (x := l) (y := x) (by omega) (by omega)
  have h2 : 0 ≤ l * x := Int.mul_nonneg hl.1 hx.1
  have h3 : l * x ≤ 100000 * (40000 * d) := Int.le_trans (Int.mul_le_mul_of_nonneg_right hl.2 hx.1) (Int.mul_le_mul_of_nonneg_left hx.2.2 (by omega))
  have h4 : 0 ≤ (l * x + d - 1).tdiv d := Int.tdiv_nonneg (by omega) (by omega)
  refine ⟨by omega, h4, ?_⟩
  have h5 := (tdiv_mul (a := l * x + d - 1) hd.1).2.2.1 (by omega)
  have h6 : (l * x + d - 1).tdiv d * d ≤ 4000000001 * d := by omega
  exact Int.le_of_mul_le_mul_right h6 (by omega)
theorem penergy_any {x : Pmp} {n d o : Int} {before on : Bool} (h : HeadOk n d o) (hx : DevOk (.pmp x)) (w : World) :
    Calls Try.prog 86 #[.agg ⟨pmpC x⟩, .agg ⟨headC n d o⟩, .bool before, .bool on] w fun e w' => e = .returned (.int .i64 ((Dev.pmp x).energy n d o before on)) ∧ Below w.heap.size w w' := by
  have h2 := h.ins
  have hd := h.hd
  obtain ⟨_, x1, x2, x3⟩ := hx
  have h3 := lift_bd (x := max 0 (-(n - o * d))) (l := x.lift) hd x2 (by omega)
  simp only [pmpC, headC]
  refine enter Try.func86 rfl Try.ntmps86 rfl ?_; simp only [frame, Nat.zero_add, Nat.reduceAdd]
  cases on
  · repeat (first | (refine M0 ?_; first | refine SL ?_ | refine SB fun _ _ => ?_) | (refine M1 ?_; first | refine SC ?_ | refine SD ?_) | (refine M2 ?_; refine SE ?_) | (refine M3 ?_; first | refine SG ?_ | refine SF ?_) | (refine M4 ?_; refine SR ?_) | (refine M5 ?_; first | exact M7 | refine YM ?_ | refine YN ?_ ?_))
    refine XE.retg tok Try.results86 rfl (by simp only [and_self, and_true]) (fun w' S => ?_)
    exact ⟨rfl, S.toBelow⟩
  cases before
  all_goals
    repeat (first | (refine M0 ?_; first | refine SL ?_ | refine SB fun _ _ => ?_ | refine Y4 (Ev.call (f := 85) (ck rfl) rfl (fun w S => inside_any h w)) ?_) | (refine M1 ?_; first | refine SC ?_ | refine SD ?_) | (refine M2 ?_; refine SE ?_) | (refine M3 ?_; first | refine SG ?_ | refine SF ?_ | refine YF (Ev.call (f := 85) (ck rfl) rfl (fun w S => inside_any h w)) ?_) | (refine M4 ?_; refine SR ?_) | (refine M5 ?_; first | exact M7 | refine YM ?_ | refine YN ?_ ?_))
    refine XE.retg tok Try.results86 rfl (by simp only [and_self, and_true]) (fun w' S => ?_)
    exact ⟨by first | rfl | (simp only [Dev.energy, if_true, Bool.false_eq_true, if_false, Int.add_zero]; rfl), S.toBelow⟩
/-! ### a device, whichever it is -/
theorem dev_name (x : Dev) : ∃ f, methO Try.prog x.ty "barrage/runoff.name" = some f ∧ callOk Try.prog f = true ∧ ∀ w, Calls Try.prog f (Value.agg ⟨x.c⟩ :: []).toArray w fun e w' => e = .returned (.string x.name) ∧ Below w.heap.size w w' := by
  cases x with
  | slu x => exact ⟨83, by kernel_rfl, ck rfl, fun w => sname_any x w⟩
  | pmp x => exact ⟨88, by kernel_rfl, ck rfl, fun w => pname_any x w⟩
theorem dev_wild (x : Dev) : ∃ f, methO Try.prog x.ty "barrage/runoff.wild" = some f ∧ callOk Try.prog f = true ∧ ∀ w, Calls Try.prog f (Value.agg ⟨x.c⟩ :: []).toArray w fun e w' => e = .returned (.bool x.wild) ∧ Below w.heap.size w w' := by
  cases x with
  | slu x => exact ⟨84, by kernel_rfl, ck rfl, fun w => swild_any x w⟩
  | pmp x => exact ⟨89, by kernel_rfl, ck rfl, fun w => pwild_any x w⟩
theorem dev_flow {x : Dev} {n d o : Int} (h : HeadOk n d o) (hx : DevOk x) : ∃ f, methO Try.prog x.ty "barrage/runoff.flow" = some f ∧ callOk Try.prog f = true ∧ ∀ w, Calls Try.prog f (Value.agg ⟨x.c⟩ :: [.agg ⟨headC n d o⟩]).toArray w fun e w' => e = .returned (flowV (x.flow n d o)) ∧ Below w.heap.size w w' := by
  cases x with
  | slu x => exact ⟨82, by kernel_rfl, ck rfl, fun w => sflow_any h hx w⟩
  | pmp x => exact ⟨87, by kernel_rfl, ck rfl, fun w => pflow_any w⟩
theorem dev_energy {x : Dev} {n d o : Int} (before on : Bool) (h : HeadOk n d o) (hx : DevOk x) : ∃ f, methO Try.prog x.ty "barrage/runoff.energy" = some f ∧ callOk Try.prog f = true ∧ ∀ w, Calls Try.prog f (Value.agg ⟨x.c⟩ :: [.agg ⟨headC n d o⟩, .bool before, .bool on]).toArray w fun e w' => e = .returned (.int .i64 (x.energy n d o before on)) ∧ Below w.heap.size w w' := by
  cases x with
  | slu x => exact ⟨81, by kernel_rfl, ck rfl, fun w => senergy_any w⟩
  | pmp x => exact ⟨86, by kernel_rfl, ck rfl, fun w => penergy_any h hx w⟩
/-- bounds. -/
theorem flow_bd {x : Dev} {n d o f : Int} (h : HeadOk n d o) (hx : DevOk x) (e : x.flow n d o = some f) : 0 ≤ f ∧ f ≤ 800000000000000000 := by
  cases x with
  | slu x =>
    simp only [Dev.flow] at e
    split at e
    · cases e
    · rename_i h3
      cases e
      have h2 := h.ins
      have h4 := mul_bd (X := 10000) (Y := 80000000000000) (x := x.width) (y := n - o * d) (by have := hx.1; omega) (by omega)
      have h5 : 0 ≤ x.width * (n - o * d) := Int.mul_nonneg hx.1.1 (by omega)
      have h6 := tdiv_sml h.hd.1 h5
      omega
  | pmp x => simp only [Dev.flow, Option.some.injEq] at e; have := hx.1; omega
theorem energy_bd {x : Dev} {n d o : Int} (before on : Bool) (h : HeadOk n d o) (hx : DevOk x) : 0 ≤ x.energy n d o before on ∧ x.energy n d o before on ≤ 5000000000 := by
  have h2 := h.ins
  have hd := h.hd
  cases x with
  | slu x => have := hx.2; simp only [Dev.energy]; split <;> omega
  | pmp x =>
    obtain ⟨_, x1, x2, x3⟩ := hx
    have h3 := lift_bd (x := max 0 (-(n - o * d))) (l := x.lift) h.hd x2 (by omega)
    simp only [Dev.energy]
    split
    · split <;> omega
    · omega
end Go.Proofs.Ytlfjdbilblfknaa.X
/-
  The walks of devices, kinds and Check's closure (runoff).
-/
namespace Go.Proofs.Ytlfjdbilblfknaa.X
open Go Go.RowKit Go.Proofs.Ytlfjdbilblfknaa.Bs
set_option linter.unusedVariables false
theorem dev_el : elemOk Try.prog 81 devK.ty devK.m 16 = true := by kernel_rfl
theorem slu_con : conB (Try.prog.underlying 120) = true := by kernel_rfl
theorem pmp_con : conB (Try.prog.underlying 121) = true := by kernel_rfl
def DevsV (ds : List Dev) (v : Value) (new : List Held) : Prop := ∃ r : SV, v = svV r ∧ new = [hList devK r ds] ∧ (0 < ds.length → ds.length ≤ r.c)
theorem take_map_succ {α β : Type} (f : α → β) {l : List α} {k : Nat} (h : k < l.length) : (l.take (k + 1)).map f = (l.take k).map f ++ [f l[k]] := by
  rw [List.take_add_one, List.getElem?_eq_getElem h, List.map_append]; rfl
set_option maxHeartbeats 8000000 in
theorem devices_made {v : RTV} {t : RTk} {w : World} (ht : TskAt w w.heap.size v t) (hn : t.slu.length + t.pmp.length ≤ 5000000) :
    Calls Try.prog 25 #[tskV v t] w (Made w (DevsV t.devs)) := by
  obtain ⟨p, q, o, r, c, ⟨As, ns, cs⟩, ⟨Ap, np, cp⟩, on⟩ := v
  have hls := ht.slu.len (by decide)
  have hlp := ht.pmp.len (by decide)
  simp only at hls hlp
  subst hls hlp
  have hsl := ht.slu
  have hpl := ht.pmp
  simp only at hsl hpl
  simp only [tskV, tskC]
  refine enter Try.func25 rfl Try.ntmps25 rfl ?_; simp only [frame, Nat.zero_add, Nat.reduceAdd]
  repeat (first | (refine M0 ?_; first | refine SL ?_ | refine SB fun _ _ => ?_) | (refine M1 ?_; first | refine SC ?_ | refine SD ?_) | (refine M2 ?_; refine SE ?_) | (refine M3 ?_; first | refine SG ?_ | refine SF ?_) | (refine M4 ?_; refine SR ?_) | (refine M5 ?_; first | exact M7 | refine YM ?_ | refine YN ?_ ?_))
  rename_i g1 hg1
  refine XC.rebase (List.Sublist.refl _) (fun W0 S0 => ?_)
  have hl1 : ∀ (l : List Dev), l.length ≤ 5000000 → l.length + 1 ≤ 10000000 := fun l h => by omega
  have ha1 : ∀ (d : Dev) x, x ∈ devK.sl d → x ∈ ([] : List Held) := fun d x hx => hx
  refine XC.loopk [1, 8, 9] rfl (fun s : Nat × World × Value => [(10, .int .i64 (s.1 : Nat)), (2, s.2.2)]) (fun s => [(g1, _)]) (fun s => s.2.1)
    (fun s => s.1 ≤ t.slu.length ∧ Fam s.2.1 w.heap.size [g1] [⟨Dev, devK, s.2.2, (t.slu.take s.1).map Dev.slu⟩] [] ∧ Below w.heap.size w s.2.1 ∧ g1 < s.2.1.heap.size)
    (fun s => t.slu.length - s.1) (0, W0, .slice none 0 0) ⟨Nat.zero_le _, (Fam.start (ks := [g1]) S0.size).nil devK, S0.toBelow, S0.keyLt g1 (by simp)⟩ ZZSUB (fun _ h => h) ?_
  · rintro ⟨k, W, v⟩ ⟨hk, hF, hBW, hgW⟩
    simp only at hk hF hBW hgW
    dsimp only [List.cons_append, List.nil_append]
    repeat (first | (refine M0 ?_; first | refine SL ?_ | refine SB fun _ _ => ?_) | (refine M1 ?_; first | refine SC ?_ | refine SD ?_) | (refine M2 ?_; refine SE ?_) | (refine M3 ?_; first | refine SG ?_ | refine SF ?_) | (refine M4 ?_; refine SR ?_) | (refine M5 ?_; first | exact M7 | refine YM ?_ | refine YN ?_ ?_))
    refine XC.cond _ rfl (fun h1 => ?_) (fun h1 => ?_)
    · have hkn : k < t.slu.length := by simpa using h1
      obtain ⟨ad, rfl, hlt⟩ := hsl.addr (by decide) (by omega)
      obtain ⟨x, hx⟩ : ∃ x, x = t.slu[k] := ⟨_, rfl⟩
      have hcell : ∀ j u, (sluC x)[j]? = some u → W.cell? ((ad.add (k * 3)).add j) = some u := by rw [hx]; exact (hsl.below hBW).elem (List.getElem?_eq_getElem hkn)
      have hks : ∀ j, j ∈ [g1] → j < W.heap.size := fun j hj => by rw [List.mem_singleton.1 hj]; exact hgW
      simp only [sluC] at hcell
      repeat (first | (refine M0 ?_; first | refine SL ?_ | refine SB fun _ _ => ?_ | refine Y4 (Ev.load_old_agg tok _ rfl rfl rfl (add_lt hlt) hcell) ?_ | refine Y4 (Ev.makeI slu_con rfl) ?_ | refine XL.buildSlice tok rfl rfl rfl rfl rfl rfl rfl rfl rfl (fun _ _ => ?_)) | (refine M1 ?_; first | refine SC ?_ | refine SD ?_) | (refine M2 ?_; refine SE ?_) | (refine M3 ?_; first | refine SG ?_ | refine SF ?_ | refine YF (Ev.load_old_agg tok _ rfl rfl rfl (add_lt hlt) hcell) ?_ | refine YF (Ev.makeI slu_con rfl) ?_) | (refine M4 ?_; refine SR ?_) | (refine M5 ?_; first | exact M7 | refine YM ?_ | refine YN ?_ ?_))
      refine XL.push (K := devK) (a := Dev.slu x) (wE := w) 0 dev_el (by decide) rfl rfl rfl hF rfl hks hBW (Nat.le_refl _) rfl (hl1 _ (by rw [List.length_map, List.length_take]; omega)) (by decide) (ha1 _) (fun W1 u1 hF1 hB1 hk1 => ?_)
      repeat (first | (refine M0 ?_; first | refine SL ?_ | refine SB fun _ _ => ?_) | (refine M1 ?_; first | refine SC ?_ | refine SD ?_) | (refine M2 ?_; refine SE ?_) | (refine M3 ?_; first | refine SG ?_ | refine SF ?_) | (refine M4 ?_; refine SR ?_) | (refine M5 ?_; first | exact M7 | refine YM ?_ | refine YN ?_ ?_))
      refine XE.roundW (s := (k, W, v)) (fun w6 S6 => ⟨(k + 1, w6, u1), ⟨hkn, ?_, hB1.trans S6.toBelow, S6.keyLt g1 (by simp)⟩, by simp only; omega, ZZSUB, S6.rebase ZZSL⟩)
      simp only [take_map_succ Dev.slu hkn, ← hx]
      exact Fam.add (Fam.sys hF1 S6 ZZHL) ZZHK
    · have hkn : k = t.slu.length := by have : ¬ (k < t.slu.length) := by simpa using h1
                                        omega
      subst hkn
      rw [List.take_length] at hF
      repeat (first | (refine M0 ?_; first | refine SL ?_ | refine SB fun _ _ => ?_) | (refine M1 ?_; first | refine SC ?_ | refine SD ?_) | (refine M2 ?_; refine SE ?_) | (refine M3 ?_; first | refine SG ?_ | refine SF ?_) | (refine M4 ?_; refine SR ?_) | (refine M5 ?_; first | exact M7 | refine YM ?_ | refine YN ?_ ?_))
      refine XC.rebase (List.Sublist.refl _) (fun W2 S2 => ?_)
      refine XC.loopk [21, 22] rfl (fun s : Nat × World × Value => [(23, .int .i64 (s.1 : Nat)), (2, s.2.2)]) (fun s => [(g1, _)]) (fun s => s.2.1)
        (fun s => s.1 ≤ t.pmp.length ∧ Fam s.2.1 w.heap.size [g1] [⟨Dev, devK, s.2.2, t.slu.map Dev.slu ++ (t.pmp.take s.1).map Dev.pmp⟩] [] ∧ Below w.heap.size w s.2.1 ∧ g1 < s.2.1.heap.size)
        (fun s => t.pmp.length - s.1) (0, W2, v) ⟨Nat.zero_le _, by simpa using hF.sys S2 ZZHL, hBW.trans S2.toBelow, S2.keyLt g1 (by simp)⟩ ZZSUB (fun _ h => h) ?_
      rintro ⟨k, W, v⟩ ⟨hk, hF, hBW, hgW⟩
      simp only at hk hF hBW hgW
      dsimp only [List.cons_append, List.nil_append]
      repeat (first | (refine M0 ?_; first | refine SL ?_ | refine SB fun _ _ => ?_) | (refine M1 ?_; first | refine SC ?_ | refine SD ?_) | (refine M2 ?_; refine SE ?_) | (refine M3 ?_; first | refine SG ?_ | refine SF ?_) | (refine M4 ?_; refine SR ?_) | (refine M5 ?_; first | exact M7 | refine YM ?_ | refine YN ?_ ?_))
      refine XC.cond _ rfl (fun h1 => ?_) (fun h1 => ?_)
      · have hkn : k < t.pmp.length := by simpa using h1
        obtain ⟨ad, rfl, hlt⟩ := hpl.addr (by decide) (by omega)
        obtain ⟨x, hx⟩ : ∃ x, x = t.pmp[k] := ⟨_, rfl⟩
        have hcell : ∀ j u, (pmpC x)[j]? = some u → W.cell? ((ad.add (k * 5)).add j) = some u := by rw [hx]; exact (hpl.below hBW).elem (List.getElem?_eq_getElem hkn)
        have hks : ∀ j, j ∈ [g1] → j < W.heap.size := fun j hj => by rw [List.mem_singleton.1 hj]; exact hgW
        simp only [pmpC] at hcell
        repeat (first | (refine M0 ?_; first | refine SL ?_ | refine SB fun _ _ => ?_ | refine Y4 (Ev.load_old_agg tok _ rfl rfl rfl (add_lt hlt) hcell) ?_ | refine Y4 (Ev.makeI pmp_con rfl) ?_ | refine XL.buildSlice tok rfl rfl rfl rfl rfl rfl rfl rfl rfl (fun _ _ => ?_)) | (refine M1 ?_; first | refine SC ?_ | refine SD ?_) | (refine M2 ?_; refine SE ?_) | (refine M3 ?_; first | refine SG ?_ | refine SF ?_ | refine YF (Ev.load_old_agg tok _ rfl rfl rfl (add_lt hlt) hcell) ?_ | refine YF (Ev.makeI pmp_con rfl) ?_) | (refine M4 ?_; refine SR ?_) | (refine M5 ?_; first | exact M7 | refine YM ?_ | refine YN ?_ ?_))
        refine XL.push (K := devK) (a := Dev.pmp x) (wE := w) 0 dev_el (by decide) rfl rfl rfl hF rfl hks hBW (Nat.le_refl _) rfl (hl1 _ (by rw [List.length_append, List.length_map, List.length_map, List.length_take]; omega)) (by decide) (ha1 _) (fun W1 u1 hF1 hB1 hk1 => ?_)
        repeat (first | (refine M0 ?_; first | refine SL ?_ | refine SB fun _ _ => ?_) | (refine M1 ?_; first | refine SC ?_ | refine SD ?_) | (refine M2 ?_; refine SE ?_) | (refine M3 ?_; first | refine SG ?_ | refine SF ?_) | (refine M4 ?_; refine SR ?_) | (refine M5 ?_; first | exact M7 | refine YM ?_ | refine YN ?_ ?_))
        refine XE.roundW (s := (k, W, v)) (fun w6 S6 => ⟨(k + 1, w6, u1), ⟨hkn, ?_, hB1.trans S6.toBelow, S6.keyLt g1 (by simp)⟩, by simp only; omega, ZZSUB, S6.rebase ZZSL⟩)
        simp only [take_map_succ Dev.pmp hkn, ← hx, ← List.append_assoc]
        exact Fam.add (Fam.sys hF1 S6 ZZHL) ZZHK
      · have hkn : k = t.pmp.length := by have : ¬ (k < t.pmp.length) := by simpa using h1
                                          omega
        subst hkn
        rw [List.take_length] at hF
        repeat (first | (refine M0 ?_; first | refine SL ?_ | refine SB fun _ _ => ?_) | (refine M1 ?_; first | refine SC ?_ | refine SD ?_) | (refine M2 ?_; refine SE ?_) | (refine M3 ?_; first | refine SG ?_ | refine SF ?_) | (refine M4 ?_; refine SR ?_) | (refine M5 ?_; first | exact M7 | refine YM ?_ | refine YN ?_ ?_))
        refine XE.retg tok Try.results25 rfl (by simp only [and_self, and_true]) (fun w' S => ?_)
        have hF6 := hF.sys S ZZHL
        obtain ⟨r1, rfl, h5⟩ := hF6.list (.head _)
        exact ⟨_, _, rfl, ⟨r1, rfl, rfl, fun h0 => hF6.cap (r := r1) (.head _) h0⟩, fun x hx => by rw [List.mem_singleton.1 hx]; exact h5, hBW.trans S.toBelow⟩
/-! ### kinds -/
def isS : Dev → Bool
  | .slu _ => true
  | .pmp _ => false
def isP (d : Dev) : Bool := !isS d
theorem countP_succ (f : Dev → Bool) {l : List Dev} {k : Nat} (h : k < l.length) : (l.take (k + 1)).countP f = (l.take k).countP f + (if f l[k] = true then 1 else 0) := by
  rw [List.take_add_one, List.getElem?_eq_getElem h, List.countP_append]
  congr 1
  simp [List.countP_cons]
theorem count_devs (t : RTk) : t.devs.countP isS = t.slu.length ∧ t.devs.countP isP = t.pmp.length := by
  unfold RTk.devs
  rw [List.countP_append, List.countP_append, List.countP_map, List.countP_map, List.countP_map, List.countP_map]
  have e1 : t.slu.countP (isS ∘ Dev.slu) = t.slu.length := List.countP_eq_length.2 fun _ _ => rfl
  have e2 : t.pmp.countP (isS ∘ Dev.pmp) = 0 := List.countP_eq_zero.2 fun _ _ => by simp [isS]
  have e3 : t.slu.countP (isP ∘ Dev.slu) = 0 := List.countP_eq_zero.2 fun _ _ => by simp [isP, isS]
  have e4 : t.pmp.countP (isP ∘ Dev.pmp) = t.pmp.length := List.countP_eq_length.2 fun _ _ => rfl
  omega
set_option maxHeartbeats 4000000 in
theorem kinds_any {r : SV} {ds : List Dev} {w : World} (hr : ListAt devK w (Lt w.heap.size) r ds) (hn : ds.length ≤ 10000000) :
    Calls Try.prog 26 #[svV r] w fun e w' => e = .returned (.tuple ⟨[.int .i64 (ds.countP isS : Nat), .int .i64 (ds.countP isP : Nat)]⟩) ∧ Below w.heap.size w w' := by
  obtain ⟨A, n, c⟩ := r
  have hln := hr.len (by decide)
  simp only at hln
  subst hln
  simp only [svV]
  refine enter Try.func26 rfl Try.ntmps26 rfl ?_; simp only [frame, Nat.zero_add, Nat.reduceAdd]
  repeat (first | (refine M0 ?_; first | refine SL ?_ | refine SB fun _ _ => ?_) | (refine M1 ?_; first | refine SC ?_ | refine SD ?_) | (refine M2 ?_; refine SE ?_) | (refine M3 ?_; first | refine SG ?_ | refine SF ?_) | (refine M4 ?_; refine SR ?_) | (refine M5 ?_; first | exact M7 | refine YM ?_ | refine YN ?_ ?_))
  refine XC.loopk [6, 7] rfl (fun k : Nat => [(2, .int .i64 ((ds.take k).countP isS : Nat)), (3, .int .i64 ((ds.take k).countP isP : Nat)), (8, .int .i64 (k : Nat))]) (fun _ => []) (fun _ => w) (fun k => k ≤ ds.length) (fun k => ds.length - k) 0 (Nat.zero_le _) ZZSUB (fun _ h => h) ?_
  intro k hk
  dsimp only [List.cons_append, List.nil_append]
  repeat (first | (refine M0 ?_; first | refine SL ?_ | refine SB fun _ _ => ?_) | (refine M1 ?_; first | refine SC ?_ | refine SD ?_) | (refine M2 ?_; refine SE ?_) | (refine M3 ?_; first | refine SG ?_ | refine SF ?_) | (refine M4 ?_; refine SR ?_) | (refine M5 ?_; first | exact M7 | refine YM ?_ | refine YN ?_ ?_))
  refine XC.cond _ rfl (fun h1 => ?_) (fun h1 => ?_)
  · have hkn : k < ds.length := by simpa using h1
    obtain ⟨ad, rfl, hlt⟩ := hr.addr (by decide) (by omega)
    have h9 := hr.elem (List.getElem?_eq_getElem hkn) 0 (devV ds[k]) rfl
    rw [add_add, Nat.add_zero] at h9
    have h9' : w.cell? (ad.add (k * 1)) = some (devV ds[k]) := h9
    have b1 := List.countP_le_length (p := isS) (l := ds.take k)
    have b2 := List.countP_le_length (p := isP) (l := ds.take k)
    have b3 : (ds.take k).length ≤ ds.length := by rw [List.length_take]; omega
    have c1 := countP_succ isS hkn
    have c2 := countP_succ isP hkn
    cases hd : ds[k] with
    | slu x =>
      rw [hd] at h9' c1 c2
      simp only [isS, isP, if_true, Bool.not_true, Bool.false_eq_true, if_false, Nat.add_zero] at c1 c2
      repeat (first | (refine M0 ?_; first | refine SL ?_ | refine SB fun _ _ => ?_ | refine Y4 (Ev.load_old tok rfl rfl (add_lt hlt) h9') ?_ | refine Y4 (Ev.assertOk (s := 120) (v := .agg ⟨sluC x⟩) rfl slu_con tok rfl (.tuple ⟨[.agg ⟨sluC x⟩, .bool true]⟩) (if_pos rfl).symm) ?_) | (refine M1 ?_; first | refine SC ?_ | refine SD ?_) | (refine M2 ?_; refine SE ?_) | (refine M3 ?_; first | refine SG ?_ | refine SF ?_ | refine YF (Ev.load_old tok rfl rfl (add_lt hlt) h9') ?_ | refine YF (Ev.assertOk (s := 120) (v := .agg ⟨sluC x⟩) rfl slu_con tok rfl (.tuple ⟨[.agg ⟨sluC x⟩, .bool true]⟩) (if_pos rfl).symm) ?_) | (refine M4 ?_; refine SR ?_) | (refine M5 ?_; first | exact M7 | refine YM ?_ | refine YN ?_ ?_))
      exact XE.round (k + 1) hkn (by omega) (by rw [c1, c2]; repeat (first | exact Sub.nil | refine Sub.cons rfl ?_)) (fun _ h => h)
    | pmp x =>
      rw [hd] at h9' c1 c2
      simp only [isS, isP, if_true, Bool.not_false, Bool.false_eq_true, if_false, Nat.add_zero] at c1 c2
      repeat (first | (refine M0 ?_; first | refine SL ?_ | refine SB fun _ _ => ?_ | refine Y4 (Ev.load_old tok rfl rfl (add_lt hlt) h9') ?_ | refine Y4 (Ev.assertOk (u := 120) (s := 121) (v := .agg ⟨pmpC x⟩) rfl slu_con tok rfl (.tuple ⟨[_, .bool false]⟩) (if_neg (by decide)).symm) ?_ | refine Y4 (Ev.assertOk (u := 121) (s := 121) (v := .agg ⟨pmpC x⟩) rfl pmp_con tok rfl (.tuple ⟨[.agg ⟨pmpC x⟩, .bool true]⟩) (if_pos rfl).symm) ?_) | (refine M1 ?_; first | refine SC ?_ | refine SD ?_) | (refine M2 ?_; refine SE ?_) | (refine M3 ?_; first | refine SG ?_ | refine SF ?_ | refine YF (Ev.load_old tok rfl rfl (add_lt hlt) h9') ?_ | refine YF (Ev.assertOk (u := 120) (s := 121) (v := .agg ⟨pmpC x⟩) rfl slu_con tok rfl (.tuple ⟨[_, .bool false]⟩) (if_neg (by decide)).symm) ?_ | refine YF (Ev.assertOk (u := 121) (s := 121) (v := .agg ⟨pmpC x⟩) rfl pmp_con tok rfl (.tuple ⟨[.agg ⟨pmpC x⟩, .bool true]⟩) (if_pos rfl).symm) ?_) | (refine M4 ?_; refine SR ?_) | (refine M5 ?_; first | exact M7 | refine YM ?_ | refine YN ?_ ?_))
      exact XE.round (k + 1) hkn (by omega) (by rw [c1, c2]; repeat (first | exact Sub.nil | refine Sub.cons rfl ?_)) (fun _ h => h)
  · have hkn : k = ds.length := by have : ¬ (k < ds.length) := by simpa using h1
                                   omega
    subst hkn
    rw [List.take_length]
    repeat (first | (refine M0 ?_; first | refine SL ?_ | refine SB fun _ _ => ?_) | (refine M1 ?_; first | refine SC ?_ | refine SD ?_) | (refine M2 ?_; refine SE ?_) | (refine M3 ?_; first | refine SG ?_ | refine SF ?_) | (refine M4 ?_; refine SR ?_) | (refine M5 ?_; first | exact M7 | refine YM ?_ | refine YN ?_ ?_))
    refine XE.retg tok Try.results26 rfl (by simp only [and_self, and_true]) (fun w' S => ?_)
    exact ⟨rfl, S.toBelow⟩
/-! ### is it there already -/
set_option maxHeartbeats 4000000 in
theorem rncheck1_any {g : Nat} {c d : Dev} {w : World} (h : w.heap[g]? = some (cel 86 [devV d])) :
    Calls Try.prog 29 #[devV c, .pointer (some ⟨g, 0, none⟩)] w fun e w' => e = .returned (.bool (decide (c.name = d.name))) ∧ Below w.heap.size w w' := by
  have hl := (Array.getElem?_eq_some_iff.1 h).1
  have d0 : w.cell? ⟨g, 0, none⟩ = some (devV d) := by simp [World.cell?, h]
  obtain ⟨f1, m1, k1, c1⟩ := dev_name c
  obtain ⟨f2, m2, k2, c2⟩ := dev_name d
  refine enter Try.func29 rfl Try.ntmps29 rfl ?_; simp only [frame, Nat.zero_add, Nat.reduceAdd]
  repeat (first | (refine M0 ?_; first | refine SL ?_ | refine SB fun _ _ => ?_ | refine Y4 (Ev.load_old tok rfl rfl hl d0) ?_ | refine Y4 (Ev.invoke (t := c.ty) (v := .agg ⟨c.c⟩) m1 k1 rfl rfl (fun w S => c1 w)) ?_ | refine Y4 (Ev.invoke (t := d.ty) (v := .agg ⟨d.c⟩) m2 k2 rfl rfl (fun w S => c2 w)) ?_ | refine Y4 (Ev.eql_str rfl rfl) ?_) | (refine M1 ?_; first | refine SC ?_ | refine SD ?_) | (refine M2 ?_; refine SE ?_) | (refine M3 ?_; first | refine SG ?_ | refine SF ?_ | refine YF (Ev.load_old tok rfl rfl hl d0) ?_ | refine YF (Ev.invoke (t := c.ty) (v := .agg ⟨c.c⟩) m1 k1 rfl rfl (fun w S => c1 w)) ?_ | refine YF (Ev.invoke (t := d.ty) (v := .agg ⟨d.c⟩) m2 k2 rfl rfl (fun w S => c2 w)) ?_ | refine YF (Ev.eql_str rfl rfl) ?_) | (refine M4 ?_; refine SR ?_) | (refine M5 ?_; first | exact M7 | refine YM ?_ | refine YN ?_ ?_))
  refine XE.retg tok Try.results29 rfl (by simp only [and_self, and_true]) (fun w' S => ?_)
  exact ⟨rfl, S.toBelow⟩
theorem idxDev {f : FuncId} {cap : List Value} {P : Dev → Bool} {r : SV} {ms : List Dev} {w : World} (hck : callOk Try.prog f = true) (hr : ListAt devK w (Lt w.heap.size) r ms) (hn : ms.length ≤ 1000)
    (hc : ∀ m, m ∈ ms → ∀ w', Below w.heap.size w w' → Calls Try.prog f ([] ++ [devV m] ++ cap).toArray w' fun e w'' => e = .returned (.bool (P m)) ∧ Below w'.heap.size w' w'') :
    Calls Try.prog 43 #[svV r, .func (.func f) #[] cap.toArray] w fun e w' => e = .returned (.int .i64 (idxL ms P)) ∧ Below w.heap.size w w' := by
  obtain ⟨A, n, c⟩ := r
  have hln := hr.len (by decide)
  simp only at hln
  subst hln
  simp only [svV]
  refine enter Try.func43 rfl Try.ntmps43 rfl ?_; simp only [frame, Nat.zero_add, Nat.reduceAdd]
  repeat (first | (refine M0 ?_; first | refine SL ?_ | refine SB fun _ _ => ?_) | (refine M1 ?_; first | refine SC ?_ | refine SD ?_) | (refine M2 ?_; refine SE ?_) | (refine M3 ?_; first | refine SG ?_ | refine SF ?_) | (refine M4 ?_; refine SR ?_) | (refine M5 ?_; first | exact M7 | refine YM ?_ | refine YN ?_ ?_))
  refine XC.loopk [0, 1, 7] rfl (fun k : Nat => [(8, .int .i64 (k : Nat))]) (fun _ => []) (fun _ => w) (fun k => k ≤ ms.length ∧ ∀ j m, j < k → ms[j]? = some m → P m = false) (fun k => ms.length - k) 0 ⟨Nat.zero_le _, fun j m h => absurd h (by omega)⟩ ZZSUB (fun _ h => h) ?_
  rintro k ⟨hk, h0⟩
  dsimp only [List.cons_append, List.nil_append]
  repeat (first | (refine M0 ?_; first | refine SL ?_ | refine SB fun _ _ => ?_) | (refine M1 ?_; first | refine SC ?_ | refine SD ?_) | (refine M2 ?_; refine SE ?_) | (refine M3 ?_; first | refine SG ?_ | refine SF ?_) | (refine M4 ?_; refine SR ?_) | (refine M5 ?_; first | exact M7 | refine YM ?_ | refine YN ?_ ?_))
  refine XC.cond _ rfl (fun h3 => ?_) (fun h3 => ?_)
  · have hkn : k < ms.length := by simpa using h3
    obtain ⟨ad, rfl, hlt⟩ := hr.addr (by decide) (by omega)
    have hmk : ms[k]? = some ms[k] := List.getElem?_eq_getElem hkn
    have h9 := hr.elem hmk 0 (devV ms[k]) rfl
    rw [add_add, Nat.add_zero] at h9
    have hcell : w.cell? (ad.add (k * 1)) = some (devV ms[k]) := h9
    repeat (first | (refine M0 ?_; first | refine SL ?_ | refine SB fun _ _ => ?_ | refine Y4 (Ev.load_old tok rfl rfl (add_lt hlt) hcell) ?_ | refine Y4 (Ev.callv (f := f) (fst := []) (cap := cap) hck rfl rfl (fun w S => hc _ (List.getElem_mem hkn) w S.toBelow)) ?_) | (refine M1 ?_; first | refine SC ?_ | refine SD ?_) | (refine M2 ?_; refine SE ?_) | (refine M3 ?_; first | refine SG ?_ | refine SF ?_ | refine YF (Ev.load_old tok rfl rfl (add_lt hlt) hcell) ?_ | refine YF (Ev.callv (f := f) (fst := []) (cap := cap) hck rfl rfl (fun w S => hc _ (List.getElem_mem hkn) w S.toBelow)) ?_) | (refine M4 ?_; refine SR ?_) | (refine M5 ?_; first | exact M7 | refine YM ?_ | refine YN ?_ ?_))
    refine XC.cond _ rfl (fun h4 => ?_) (fun h4 => ?_)
    · repeat (first | (refine M0 ?_; first | refine SL ?_ | refine SB fun _ _ => ?_) | (refine M1 ?_; first | refine SC ?_ | refine SD ?_) | (refine M2 ?_; refine SE ?_) | (refine M3 ?_; first | refine SG ?_ | refine SF ?_) | (refine M4 ?_; refine SR ?_) | (refine M5 ?_; first | exact M7 | refine YM ?_ | refine YN ?_ ?_))
      refine XE.retg tok Try.results43 rfl (by simp only [and_self, and_true]) (fun w' S => ?_)
      have : ms.findIdx? P = some k := by
        rw [List.findIdx?_eq_some_iff_getElem]
        exact ⟨hkn, h4, fun j hj => by simpa using h0 j _ hj (List.getElem?_eq_getElem (by omega))⟩
      unfold idxL
      rw [this]
      exact ⟨rfl, S.toBelow⟩
    · repeat (first | (refine M0 ?_; first | refine SL ?_ | refine SB fun _ _ => ?_) | (refine M1 ?_; first | refine SC ?_ | refine SD ?_) | (refine M2 ?_; refine SE ?_) | (refine M3 ?_; first | refine SG ?_ | refine SF ?_) | (refine M4 ?_; refine SR ?_) | (refine M5 ?_; first | exact M7 | refine YM ?_ | refine YN ?_ ?_))
      refine XE.round (k + 1) ⟨hkn, fun j m hj hm => ?_⟩ (by omega) ZZSUB (fun _ h => h)
      rcases Nat.lt_or_ge j k with h5 | h5
      · exact h0 j m h5 hm
      · have : j = k := by omega
        subst this
        rw [hmk] at hm
        cases hm
        exact h4
  · have hkn : ¬ k < ms.length := by simpa using h3
    repeat (first | (refine M0 ?_; first | refine SL ?_ | refine SB fun _ _ => ?_) | (refine M1 ?_; first | refine SC ?_ | refine SD ?_) | (refine M2 ?_; refine SE ?_) | (refine M3 ?_; first | refine SG ?_ | refine SF ?_) | (refine M4 ?_; refine SR ?_) | (refine M5 ?_; first | exact M7 | refine YM ?_ | refine YN ?_ ?_))
    refine XE.retg tok Try.results43 rfl (by simp only [and_self, and_true]) (fun w' S => ?_)
    have : ms.findIdx? P = none := by
      rw [List.findIdx?_eq_none_iff]
      intro m hm
      obtain ⟨j, hj, e⟩ := List.mem_iff_getElem.1 hm
      exact h0 j m (by omega) (by rw [List.getElem?_eq_getElem hj, e])
    unfold idxL
    rw [this]
    exact ⟨rfl, S.toBelow⟩
theorem contDev {f : FuncId} {cap : List Value} {P : Dev → Bool} {r : SV} {ms : List Dev} {w : World} (hck : callOk Try.prog f = true) (hr : ListAt devK w (Lt w.heap.size) r ms) (hn : ms.length ≤ 1000)
    (hc : ∀ m, m ∈ ms → ∀ w', Below w.heap.size w w' → Calls Try.prog f ([] ++ [devV m] ++ cap).toArray w' fun e w'' => e = .returned (.bool (P m)) ∧ Below w'.heap.size w' w'') :
    Calls Try.prog 28 #[svV r, .func (.func f) #[] cap.toArray] w fun e w' => e = .returned (.bool (ms.any P)) ∧ Below w.heap.size w w' := by
  obtain ⟨A, n, c⟩ := r
  simp only [svV]
  refine enter Try.func28 rfl Try.ntmps28 rfl ?_; simp only [frame, Nat.zero_add, Nat.reduceAdd]
  repeat (first | (refine M0 ?_; first | refine SL ?_ | refine SB fun _ _ => ?_ | refine Y4 (Ev.call (f := 43) (ck rfl) rfl (fun w5 S5 => (idxDev (f := f) (cap := cap) (P := P) (r := ⟨A, n, c⟩) (ms := ms) hck (hr.arg S5) hn (fun m hm w' hb => hc m hm w' (S5.toBelow.trans (hb.mono S5.size))) :))) ?_) | (refine M1 ?_; first | refine SC ?_ | refine SD ?_) | (refine M2 ?_; refine SE ?_) | (refine M3 ?_; first | refine SG ?_ | refine SF ?_ | refine YF (Ev.call (f := 43) (ck rfl) rfl (fun w5 S5 => (idxDev (f := f) (cap := cap) (P := P) (r := ⟨A, n, c⟩) (ms := ms) hck (hr.arg S5) hn (fun m hm w' hb => hc m hm w' (S5.toBelow.trans (hb.mono S5.size))) :))) ?_) | (refine M4 ?_; refine SR ?_) | (refine M5 ?_; first | exact M7 | refine YM ?_ | refine YN ?_ ?_))
  refine XE.retg tok Try.results28 rfl (by simp only [and_self, and_true]) (fun w' S => ?_)
  exact ⟨by rw [idxL_any]; rfl, S.toBelow⟩
end Go.Proofs.Ytlfjdbilblfknaa.X
/-
  The walk of Check (runoff).
-/
namespace Go.Proofs.Ytlfjdbilblfknaa.Bs
open Go.Proofs.Ytlfjdbilblfknaa.X
structure Pre4 (t : RTk) : Prop where
  c : chkE t.b = 0
  s : staErr t.b t.s = 0
  n : ¬ 6 < t.outer.length
  e : ¬ (t.river.length ≠ t.outer.length ∨ t.prices.length ≠ t.outer.length)
section
variable {t : RTk}
theorem chkT_1 (h : chkE t.b ≠ 0) : chkT t = (1, 0, chkE t.b) := by unfold chkT; rw [if_pos h]
theorem chkT_2 (h : chkE t.b = 0) (h2 : staErr t.b t.s ≠ 0) : chkT t = (1, 1, staErr t.b t.s) := by unfold chkT; rw [if_neg (by simp [h]), if_pos h2]
theorem chkT_3 (h : chkE t.b = 0) (h2 : staErr t.b t.s = 0) (h3 : 6 < t.outer.length) : chkT t = (2, 0, 3) := by unfold chkT; rw [if_neg (by simp [h]), if_neg (by simp [h2]), if_pos h3]
theorem chkT_4 (h : chkE t.b = 0) (h2 : staErr t.b t.s = 0) (h3 : ¬ 6 < t.outer.length) (h4 : t.river.length ≠ t.outer.length ∨ t.prices.length ≠ t.outer.length) : chkT t = (2, 0, 2) := by unfold chkT; rw [if_neg (by simp [h]), if_neg (by simp [h2]), if_neg h3, if_pos h4]
variable (p : Pre4 t)
include p
theorem chkT_5 {i : Nat} (hi : i < t.outer.length) (h0 : ∀ j, j < i → tickErr t j = 0) (h : tickErr t i ≠ 0) : chkT t = (2, ((i : Nat) : Int), 7) := by
  unfold chkT
  rw [if_neg (by simp [p.c]), if_neg (by simp [p.s]), if_neg p.n, if_neg p.e, firstN_some hi h0 h]
theorem chkT_6 (h0 : ∀ j, j < t.outer.length → tickErr t j = 0) (h : (outB t.high (-20000) 20000 || outB t.low (t.b.row 0).level t.high) = true) : chkT t = (3, 0, 7) := by
  unfold chkT
  rw [if_neg (by simp [p.c]), if_neg (by simp [p.s]), if_neg p.n, if_neg p.e, firstN_none h0]
  simp only
  rw [if_pos h]
variable (h0 : ∀ j, j < t.outer.length → tickErr t j = 0) (h : (outB t.high (-20000) 20000 || outB t.low (t.b.row 0).level t.high) = false)
include h0 h
theorem chkT_7 (h1 : 2 < t.slu.length ∨ 2 < t.pmp.length) : chkT t = (4, 0, 3) := by
  unfold chkT
  rw [if_neg (by simp [p.c]), if_neg (by simp [p.s]), if_neg p.n, if_neg p.e, firstN_none h0]
  simp only
  rw [if_neg (by simp [h]), if_pos h1]
variable (h1 : ¬ (2 < t.slu.length ∨ 2 < t.pmp.length))
include h1
theorem chkT_8 {i : Nat} (hi : i < t.devs.length) (h2 : ∀ j, j < i → devErr t.devs j = 0) {e : Int} (he : devErr t.devs i = e) (hne : e ≠ 0) : chkT t = (4, ((i : Nat) : Int), e) := by
  subst he
  unfold chkT
  rw [if_neg (by simp [p.c]), if_neg (by simp [p.s]), if_neg p.n, if_neg p.e, firstN_none h0]
  simp only
  rw [if_neg (by simp [h]), if_neg h1, firstN_some hi h2 hne]
variable (h2 : ∀ j, j < t.devs.length → devErr t.devs j = 0)
include h2
theorem chkT_9 (h3 : t.on.length ≠ t.devs.length) : chkT t = (5, 0, 2) := by
  unfold chkT
  rw [if_neg (by simp [p.c]), if_neg (by simp [p.s]), if_neg p.n, if_neg p.e, firstN_none h0]
  simp only
  rw [if_neg (by simp [h]), if_neg h1, firstN_none h2]
  simp only
  rw [if_pos h3]
theorem chkT_0 (h3 : t.on.length = t.devs.length) : chkT t = (0, 0, 0) := by
  unfold chkT
  rw [if_neg (by simp [p.c]), if_neg (by simp [p.s]), if_neg p.n, if_neg p.e, firstN_none h0]
  simp only
  rw [if_neg (by simp [h]), if_neg h1, firstN_none h2]
  simp only
  rw [if_neg (by simp [h3])]
end
theorem devErr_6 {l : List Dev} {i : Nat} (h : nameB (l[i]?.getD d0).name = false) : devErr l i = 6 := by unfold devErr; rw [if_pos h]
theorem devErr_5 {l : List Dev} {i : Nat} (h : nameB (l[i]?.getD d0).name = true) (k : Nat) (hk : k < i) (h2 : (l[k]?.getD d0).name = (l[i]?.getD d0).name) : devErr l i = 5 := by unfold devErr; rw [if_neg (by simp [h]), if_pos ⟨k, hk, h2⟩]
theorem devErr_7 {l : List Dev} {i : Nat} (h : nameB (l[i]?.getD d0).name = true) (h2 : ∀ k, k < i → (l[k]?.getD d0).name ≠ (l[i]?.getD d0).name) (h3 : (l[i]?.getD d0).wild = true) : devErr l i = 7 := by unfold devErr; rw [if_neg (by simp [h]), if_neg (fun ⟨k, a, b⟩ => h2 k a b), if_pos h3]
theorem devErr_0 {l : List Dev} {i : Nat} (h : nameB (l[i]?.getD d0).name = true) (h2 : ∀ k, k < i → (l[k]?.getD d0).name ≠ (l[i]?.getD d0).name) (h3 : (l[i]?.getD d0).wild = false) : devErr l i = 0 := by unfold devErr; rw [if_neg (by simp [h]), if_neg (fun ⟨k, a, b⟩ => h2 k a b), if_neg (by simp [h3])]
end Go.Proofs.Ytlfjdbilblfknaa.Bs
namespace Go.Proofs.Ytlfjdbilblfknaa.X
open Go Go.RowKit Go.Proofs.Ytlfjdbilblfknaa.Bs
set_option linter.unusedVariables false
noncomputable def chkTV (t : RTk) : Value := .tuple ⟨[.int .i64 (chkT t).1, .int .i64 (chkT t).2.1, .int .i64 (chkT t).2.2]⟩
theorem chkTV_of {t : RTk} {x y z : Int} (h : chkT t = (x, y, z)) : Ending.returned (.tuple #[.int .i64 x, .int .i64 y, .int .i64 z]) = .returned (chkTV t) := by unfold chkTV; rw [h]
theorem take_any {l : List Dev} {i : Nat} (hi : i < l.length) : ((l.take i).any fun c => decide (c.name = l[i].name)) = true ↔ ∃ k, k < i ∧ (l[k]?.getD d0).name = (l[i]?.getD d0).name := by
  rw [List.any_eq_true, List.getElem?_eq_getElem hi]
  constructor
  · rintro ⟨x, hx, h⟩
    obtain ⟨k, hk, rfl⟩ := List.mem_iff_getElem.1 hx
    rw [List.length_take] at hk
    refine ⟨k, by omega, ?_⟩
    rw [List.getElem?_eq_getElem (by omega)]
    rw [List.getElem_take] at h
    simpa using h
  · rintro ⟨k, hk, h⟩
    rw [List.getElem?_eq_getElem (by omega : k < l.length)] at h
    refine ⟨l[k], ?_, by simpa using h⟩
    rw [List.mem_iff_getElem]
    exact ⟨k, by rw [List.length_take]; omega, by rw [List.getElem_take]⟩
theorem rows_len {b : Bas} (h : chkE b = 0) : 2 ≤ b.rows.length := (ok_of h).n2
set_option maxHeartbeats 16000000 in
theorem rnCheck_any {v : RTV} {t : RTk} {w : World} (ht : TskAt w w.heap.size v t) (hn : t.slu.length + t.pmp.length ≤ 5000000) :
    Calls Try.prog 8 #[tskV v t] w fun e w' => e = .returned (chkTV t) ∧ Below w.heap.size w w' := by
  obtain ⟨⟨Ab, nb, cb, Ab2, nb2, cb2⟩, q, ⟨Ao, no, co⟩, ⟨Ar, nr, cr⟩, ⟨Ac, nc, cc⟩, su, pu, ⟨An, nn, cn⟩⟩ := v
  have ht0 := ht
  obtain ⟨hbas, hfil, hout, hriv, hpri, hslu, hpmp, hon, hnam⟩ := ht
  have lo := hout.len
  have lr := hriv.len
  have lc := hpri.len
  have ln := hon.len (by decide)
  have lb := hbas.n_eq
  simp only at lo lr lc ln lb hout hriv hpri hslu hpmp hon hbas
  subst lo lr lc ln lb
  simp only [tskV, tskC]
  refine enter Try.func8 rfl Try.ntmps8 rfl ?_; simp only [frame, Nat.zero_add, Nat.reduceAdd]
  repeat (first | (refine M0 ?_; first | refine SL ?_ | refine SB fun _ _ => ?_ | refine Y4 (Ev.call (f := 22) (ck rfl) rfl (fun w S => (check_any ⟨Ab, t.b.rows.length, cb, Ab2, nb2, cb2⟩ t.b w (hbas.sys S) :))) ?_) | (refine M1 ?_; first | refine SC ?_ | refine SD ?_) | (refine M2 ?_; refine SE ?_) | (refine M3 ?_; first | refine SG ?_ | refine SF ?_ | refine YF (Ev.call (f := 22) (ck rfl) rfl (fun w S => (check_any ⟨Ab, t.b.rows.length, cb, Ab2, nb2, cb2⟩ t.b w (hbas.sys S) :))) ?_) | (refine M4 ?_; refine SR ?_) | (refine M5 ?_; first | exact M7 | refine YM ?_ | refine YN ?_ ?_))
  rename_i g1 hg1
  refine XC.cond _ rfl (fun h0 => ?_) (fun h0 => ?_)
  · repeat (first | (refine M0 ?_; first | refine SL ?_ | refine SB fun _ _ => ?_) | (refine M1 ?_; first | refine SC ?_ | refine SD ?_) | (refine M2 ?_; refine SE ?_) | (refine M3 ?_; first | refine SG ?_ | refine SF ?_) | (refine M4 ?_; refine SR ?_) | (refine M5 ?_; first | exact M7 | refine YM ?_ | refine YN ?_ ?_))
    refine XE.retg tok Try.results8 rfl (by simp only [and_self, and_true]) (fun w' S => ?_)
    exact ⟨chkTV_of (chkT_1 (by simpa [chkE] using h0)), S.toBelow⟩
  have hE : chkE t.b = 0 := by simpa [chkE] using h0
  repeat (first | (refine M0 ?_; first | refine SL ?_ | refine SB fun _ _ => ?_ | refine Y4 (Ev.call (f := 23) (ck rfl) rfl (fun w S => (checkState_any (p := ⟨Ab, t.b.rows.length, cb, Ab2, nb2, cb2⟩) (q := q) (hbas.sys S) (hfil.arg S) :))) ?_) | (refine M1 ?_; first | refine SC ?_ | refine SD ?_) | (refine M2 ?_; refine SE ?_) | (refine M3 ?_; first | refine SG ?_ | refine SF ?_ | refine YF (Ev.call (f := 23) (ck rfl) rfl (fun w S => (checkState_any (p := ⟨Ab, t.b.rows.length, cb, Ab2, nb2, cb2⟩) (q := q) (hbas.sys S) (hfil.arg S) :))) ?_) | (refine M4 ?_; refine SR ?_) | (refine M5 ?_; first | exact M7 | refine YM ?_ | refine YN ?_ ?_))
  refine XC.cond _ rfl (fun h1 => ?_) (fun h1 => ?_)
  · repeat (first | (refine M0 ?_; first | refine SL ?_ | refine SB fun _ _ => ?_) | (refine M1 ?_; first | refine SC ?_ | refine SD ?_) | (refine M2 ?_; refine SE ?_) | (refine M3 ?_; first | refine SG ?_ | refine SF ?_) | (refine M4 ?_; refine SR ?_) | (refine M5 ?_; first | exact M7 | refine YM ?_ | refine YN ?_ ?_))
    refine XE.retg tok Try.results8 rfl (by simp only [and_self, and_true]) (fun w' S => ?_)
    exact ⟨chkTV_of (chkT_2 hE (by simpa using h1)), S.toBelow⟩
  have hS : staErr t.b t.s = 0 := by simpa using h1
  repeat (first | (refine M0 ?_; first | refine SL ?_ | refine SB fun _ _ => ?_) | (refine M1 ?_; first | refine SC ?_ | refine SD ?_) | (refine M2 ?_; refine SE ?_) | (refine M3 ?_; first | refine SG ?_ | refine SF ?_) | (refine M4 ?_; refine SR ?_) | (refine M5 ?_; first | exact M7 | refine YM ?_ | refine YN ?_ ?_))
  refine XC.cond _ rfl (fun h2 => ?_) (fun h2 => ?_)
  · repeat (first | (refine M0 ?_; first | refine SL ?_ | refine SB fun _ _ => ?_) | (refine M1 ?_; first | refine SC ?_ | refine SD ?_) | (refine M2 ?_; refine SE ?_) | (refine M3 ?_; first | refine SG ?_ | refine SF ?_) | (refine M4 ?_; refine SR ?_) | (refine M5 ?_; first | exact M7 | refine YM ?_ | refine YN ?_ ?_))
    refine XE.retg tok Try.results8 rfl (by simp only [and_self, and_true]) (fun w' S => ?_)
    exact ⟨chkTV_of (chkT_3 hE hS (by have := of_decide_eq_true h2; omega)), S.toBelow⟩
  have h6 : ¬ 6 < t.outer.length := by have := of_decide_eq_false h2; omega
  cases e4 : decide ((t.river.length : Int) ≠ (t.outer.length : Int)) with
  | true =>
    have e4' := of_decide_eq_true e4
    repeat (first | (refine M0 ?_; first | refine SL ?_ | refine SB fun _ _ => ?_) | (refine M1 ?_; first | refine SC ?_ | refine SD ?_) | (refine M2 ?_; refine SE ?_) | (refine M3 ?_; first | refine SG ?_ | refine SF ?_) | (refine M4 ?_; refine SR ?_) | (refine M5 ?_; first | exact M7 | refine YM ?_ | refine YN ?_ ?_))
    rw [e4]
    repeat (first | (refine M0 ?_; first | refine SL ?_ | refine SB fun _ _ => ?_) | (refine M1 ?_; first | refine SC ?_ | refine SD ?_) | (refine M2 ?_; refine SE ?_) | (refine M3 ?_; first | refine SG ?_ | refine SF ?_) | (refine M4 ?_; refine SR ?_) | (refine M5 ?_; first | exact M7 | refine YM ?_ | refine YN ?_ ?_))
    refine XE.retg tok Try.results8 rfl (by simp only [and_self, and_true]) (fun w' S => ?_)
    exact ⟨chkTV_of (chkT_4 hE hS h6 (.inl (by omega))), S.toBelow⟩
  | false =>
  have e4' := of_decide_eq_false e4
  repeat (first | (refine M0 ?_; first | refine SL ?_ | refine SB fun _ _ => ?_) | (refine M1 ?_; first | refine SC ?_ | refine SD ?_) | (refine M2 ?_; refine SE ?_) | (refine M3 ?_; first | refine SG ?_ | refine SF ?_) | (refine M4 ?_; refine SR ?_) | (refine M5 ?_; first | exact M7 | refine YM ?_ | refine YN ?_ ?_))
  rw [e4]
  repeat (first | (refine M0 ?_; first | refine SL ?_ | refine SB fun _ _ => ?_) | (refine M1 ?_; first | refine SC ?_ | refine SD ?_) | (refine M2 ?_; refine SE ?_) | (refine M3 ?_; first | refine SG ?_ | refine SF ?_) | (refine M4 ?_; refine SR ?_) | (refine M5 ?_; first | exact M7 | refine YM ?_ | refine YN ?_ ?_))
  refine XC.cond _ rfl (fun h3 => ?_) (fun h3 => ?_)
  · repeat (first | (refine M0 ?_; first | refine SL ?_ | refine SB fun _ _ => ?_) | (refine M1 ?_; first | refine SC ?_ | refine SD ?_) | (refine M2 ?_; refine SE ?_) | (refine M3 ?_; first | refine SG ?_ | refine SF ?_) | (refine M4 ?_; refine SR ?_) | (refine M5 ?_; first | exact M7 | refine YM ?_ | refine YN ?_ ?_))
    refine XE.retg tok Try.results8 rfl (by simp only [and_self, and_true]) (fun w' S => ?_)
    exact ⟨chkTV_of (chkT_4 hE hS h6 (.inr (by have := of_decide_eq_true h3; omega))), S.toBelow⟩
  have hp4 : Pre4 t := ⟨hE, hS, h6, fun h => h.elim (fun h => h (by omega)) (fun h => h (by have := of_decide_eq_false h3; omega))⟩
  have e5' : t.prices.length = t.outer.length := by have := of_decide_eq_false h3; omega
  repeat (first | (refine M0 ?_; first | refine SL ?_ | refine SB fun _ _ => ?_) | (refine M1 ?_; first | refine SC ?_ | refine SD ?_) | (refine M2 ?_; refine SE ?_) | (refine M3 ?_; first | refine SG ?_ | refine SF ?_) | (refine M4 ?_; refine SR ?_) | (refine M5 ?_; first | exact M7 | refine YM ?_ | refine YN ?_ ?_))
  refine XC.loopk [1, 51, 52] rfl (fun k : Nat => [(53, .int .i64 (k : Nat))]) (fun _ => [(g1, _)]) (fun _ => w) (fun k => k ≤ t.outer.length ∧ ∀ j, j < k → tickErr t j = 0) (fun k => t.outer.length - k) 0 ⟨Nat.zero_le _, fun j h => absurd h (by omega)⟩ ZZSUB (fun _ h => h) ?_
  rintro k ⟨hk, h0⟩
  dsimp only [List.cons_append, List.nil_append]
  repeat (first | (refine M0 ?_; first | refine SL ?_ | refine SB fun _ _ => ?_) | (refine M1 ?_; first | refine SC ?_ | refine SD ?_) | (refine M2 ?_; refine SE ?_) | (refine M3 ?_; first | refine SG ?_ | refine SF ?_) | (refine M4 ?_; refine SR ?_) | (refine M5 ?_; first | exact M7 | refine YM ?_ | refine YN ?_ ?_))
  refine XC.cond _ rfl (fun h7 => ?_) (fun h7 => ?_)
  · have hkn : k < t.outer.length := by simpa using h7
    obtain ⟨a1, rfl, hl1, hc1⟩ := hout.at_ (by omega)
    obtain ⟨a2, rfl, hl2, hc2⟩ := hriv.at_ (by omega)
    obtain ⟨a3, rfl, hl3, hc3⟩ := hpri.at_ (by omega)
    have d1 := hc1 k hkn
    have d2 := hc2 k (by omega)
    have d3 := hc3 k (by omega)
    repeat (first | (refine M0 ?_; first | refine SL ?_ | refine SB fun _ _ => ?_ | refine Y4 (Ev.load_old tok rfl rfl (add_lt hl1) d1) ?_) | (refine M1 ?_; first | refine SC ?_ | refine SD ?_) | (refine M2 ?_; refine SE ?_) | (refine M3 ?_; first | refine SG ?_ | refine SF ?_ | refine YF (Ev.load_old tok rfl rfl (add_lt hl1) d1) ?_) | (refine M4 ?_; refine SR ?_) | (refine M5 ?_; first | exact M7 | refine YM ?_ | refine YN ?_ ?_))
    cases e0 : outB (at0 t.outer k) (-20000) 20000 with
    | true =>
      repeat (first | (refine M0 ?_; first | refine SL ?_ | refine SB fun _ _ => ?_ | refine Y4 (Ev.call (f := 24) (vs := [.int .i64 (at0 t.outer k), .int .i64 (-20000), .int .i64 20000]) (ck rfl) rfl (fun w S => outP e0 w)) ?_) | (refine M1 ?_; first | refine SC ?_ | refine SD ?_) | (refine M2 ?_; refine SE ?_) | (refine M3 ?_; first | refine SG ?_ | refine SF ?_ | refine YF (Ev.call (f := 24) (vs := [.int .i64 (at0 t.outer k), .int .i64 (-20000), .int .i64 20000]) (ck rfl) rfl (fun w S => outP e0 w)) ?_) | (refine M4 ?_; refine SR ?_) | (refine M5 ?_; first | exact M7 | refine YM ?_ | refine YN ?_ ?_))
      refine XE.retg tok Try.results8 rfl (by simp only [and_self, and_true]) (fun w' S => ?_)
      exact ⟨chkTV_of (chkT_5 hp4 hkn h0 (by simp [tickErr, e0])), S.toBelow⟩
    | false =>
    repeat (first | (refine M0 ?_; first | refine SL ?_ | refine SB fun _ _ => ?_ | refine Y4 (Ev.call (f := 24) (vs := [.int .i64 (at0 t.outer k), .int .i64 (-20000), .int .i64 20000]) (ck rfl) rfl (fun w S => outP e0 w)) ?_ | refine Y4 (Ev.load_old tok rfl rfl (add_lt hl2) d2) ?_) | (refine M1 ?_; first | refine SC ?_ | refine SD ?_) | (refine M2 ?_; refine SE ?_) | (refine M3 ?_; first | refine SG ?_ | refine SF ?_ | refine YF (Ev.call (f := 24) (vs := [.int .i64 (at0 t.outer k), .int .i64 (-20000), .int .i64 20000]) (ck rfl) rfl (fun w S => outP e0 w)) ?_ | refine YF (Ev.load_old tok rfl rfl (add_lt hl2) d2) ?_) | (refine M4 ?_; refine SR ?_) | (refine M5 ?_; first | exact M7 | refine YM ?_ | refine YN ?_ ?_))
    cases e1 : outB (at0 t.river k) 0 10000000 with
    | true =>
      repeat (first | (refine M0 ?_; first | refine SL ?_ | refine SB fun _ _ => ?_ | refine Y4 (Ev.call (f := 24) (vs := [.int .i64 (at0 t.river k), .int .i64 0, .int .i64 10000000]) (ck rfl) rfl (fun w S => outP e1 w)) ?_) | (refine M1 ?_; first | refine SC ?_ | refine SD ?_) | (refine M2 ?_; refine SE ?_) | (refine M3 ?_; first | refine SG ?_ | refine SF ?_ | refine YF (Ev.call (f := 24) (vs := [.int .i64 (at0 t.river k), .int .i64 0, .int .i64 10000000]) (ck rfl) rfl (fun w S => outP e1 w)) ?_) | (refine M4 ?_; refine SR ?_) | (refine M5 ?_; first | exact M7 | refine YM ?_ | refine YN ?_ ?_))
      refine XE.retg tok Try.results8 rfl (by simp only [and_self, and_true]) (fun w' S => ?_)
      exact ⟨chkTV_of (chkT_5 hp4 hkn h0 (by simp [tickErr, e1])), S.toBelow⟩
    | false =>
    repeat (first | (refine M0 ?_; first | refine SL ?_ | refine SB fun _ _ => ?_ | refine Y4 (Ev.call (f := 24) (vs := [.int .i64 (at0 t.river k), .int .i64 0, .int .i64 10000000]) (ck rfl) rfl (fun w S => outP e1 w)) ?_ | refine Y4 (Ev.load_old tok rfl rfl (add_lt hl3) d3) ?_) | (refine M1 ?_; first | refine SC ?_ | refine SD ?_) | (refine M2 ?_; refine SE ?_) | (refine M3 ?_; first | refine SG ?_ | refine SF ?_ | refine YF (Ev.call (f := 24) (vs := [.int .i64 (at0 t.river k), .int .i64 0, .int .i64 10000000]) (ck rfl) rfl (fun w S => outP e1 w)) ?_ | refine YF (Ev.load_old tok rfl rfl (add_lt hl3) d3) ?_) | (refine M4 ?_; refine SR ?_) | (refine M5 ?_; first | exact M7 | refine YM ?_ | refine YN ?_ ?_))
    cases e2 : outB (at0 t.prices k) 0 10000 with
    | true =>
      repeat (first | (refine M0 ?_; first | refine SL ?_ | refine SB fun _ _ => ?_ | refine Y4 (Ev.call (f := 24) (vs := [.int .i64 (at0 t.prices k), .int .i64 0, .int .i64 10000]) (ck rfl) rfl (fun w S => outP e2 w)) ?_) | (refine M1 ?_; first | refine SC ?_ | refine SD ?_) | (refine M2 ?_; refine SE ?_) | (refine M3 ?_; first | refine SG ?_ | refine SF ?_ | refine YF (Ev.call (f := 24) (vs := [.int .i64 (at0 t.prices k), .int .i64 0, .int .i64 10000]) (ck rfl) rfl (fun w S => outP e2 w)) ?_) | (refine M4 ?_; refine SR ?_) | (refine M5 ?_; first | exact M7 | refine YM ?_ | refine YN ?_ ?_))
      refine XE.retg tok Try.results8 rfl (by simp only [and_self, and_true]) (fun w' S => ?_)
      exact ⟨chkTV_of (chkT_5 hp4 hkn h0 (by simp [tickErr, e2])), S.toBelow⟩
    | false =>
    repeat (first | (refine M0 ?_; first | refine SL ?_ | refine SB fun _ _ => ?_ | refine Y4 (Ev.call (f := 24) (vs := [.int .i64 (at0 t.prices k), .int .i64 0, .int .i64 10000]) (ck rfl) rfl (fun w S => outP e2 w)) ?_) | (refine M1 ?_; first | refine SC ?_ | refine SD ?_) | (refine M2 ?_; refine SE ?_) | (refine M3 ?_; first | refine SG ?_ | refine SF ?_ | refine YF (Ev.call (f := 24) (vs := [.int .i64 (at0 t.prices k), .int .i64 0, .int .i64 10000]) (ck rfl) rfl (fun w S => outP e2 w)) ?_) | (refine M4 ?_; refine SR ?_) | (refine M5 ?_; first | exact M7 | refine YM ?_ | refine YN ?_ ?_))
    refine XE.round (k + 1) ⟨hkn, fun j hj => ?_⟩ (by omega) ZZSUB (fun _ h => h)
    by_cases e : j = k
    · subst e; simp [tickErr, e0, e1, e2]
    · exact h0 j (by omega)
  have hkn : k = t.outer.length := by have : ¬ (k < t.outer.length) := by simpa using h7
                                      omega
  subst hkn
  clear hk h7
  obtain ⟨ab, rfl, hlb⟩ := hbas.rows.addr (by have := rows_len hE; simp only; omega)
  have hr2 := rows_len hE
  have db := hbas.rowLevel (i := 0) (by omega)
  cases e6 : outB t.high (-20000) 20000 with
  | true =>
    repeat (first | (refine M0 ?_; first | refine SL ?_ | refine SB fun _ _ => ?_ | refine Y4 (Ev.call (f := 24) (vs := [.int .i64 t.high, .int .i64 (-20000), .int .i64 20000]) (ck rfl) rfl (fun w S => outP e6 w)) ?_) | (refine M1 ?_; first | refine SC ?_ | refine SD ?_) | (refine M2 ?_; refine SE ?_) | (refine M3 ?_; first | refine SG ?_ | refine SF ?_ | refine YF (Ev.call (f := 24) (vs := [.int .i64 t.high, .int .i64 (-20000), .int .i64 20000]) (ck rfl) rfl (fun w S => outP e6 w)) ?_) | (refine M4 ?_; refine SR ?_) | (refine M5 ?_; first | exact M7 | refine YM ?_ | refine YN ?_ ?_))
    refine XE.retg tok Try.results8 rfl (by simp only [and_self, and_true]) (fun w' S => ?_)
    exact ⟨chkTV_of (chkT_6 hp4 h0 (by simp [e6])), S.toBelow⟩
  | false =>
  repeat (first | (refine M0 ?_; first | refine SL ?_ | refine SB fun _ _ => ?_ | refine Y4 (Ev.call (f := 24) (vs := [.int .i64 t.high, .int .i64 (-20000), .int .i64 20000]) (ck rfl) rfl (fun w S => outP e6 w)) ?_ | refine Y4 (Ev.load_old tok rfl rfl (add_lt2 hlb) db) ?_ | refine Y4 (Ev.call (f := 24) (vs := [.int .i64 t.low, .int .i64 (t.b.row 0).level, .int .i64 t.high]) (ck rfl) rfl (fun w S => rnout_any _ _ _ w)) ?_) | (refine M1 ?_; first | refine SC ?_ | refine SD ?_) | (refine M2 ?_; refine SE ?_) | (refine M3 ?_; first | refine SG ?_ | refine SF ?_ | refine YF (Ev.call (f := 24) (vs := [.int .i64 t.high, .int .i64 (-20000), .int .i64 20000]) (ck rfl) rfl (fun w S => outP e6 w)) ?_ | refine YF (Ev.load_old tok rfl rfl (add_lt2 hlb) db) ?_ | refine YF (Ev.call (f := 24) (vs := [.int .i64 t.low, .int .i64 (t.b.row 0).level, .int .i64 t.high]) (ck rfl) rfl (fun w S => rnout_any _ _ _ w)) ?_) | (refine M4 ?_; refine SR ?_) | (refine M5 ?_; first | exact M7 | refine YM ?_ | refine YN ?_ ?_))
  refine XC.cond _ rfl (fun h8 => ?_) (fun h8 => ?_)
  · repeat (first | (refine M0 ?_; first | refine SL ?_ | refine SB fun _ _ => ?_) | (refine M1 ?_; first | refine SC ?_ | refine SD ?_) | (refine M2 ?_; refine SE ?_) | (refine M3 ?_; first | refine SG ?_ | refine SF ?_) | (refine M4 ?_; refine SR ?_) | (refine M5 ?_; first | exact M7 | refine YM ?_ | refine YN ?_ ?_))
    refine XE.retg tok Try.results8 rfl (by simp only [and_self, and_true]) (fun w' S => ?_)
    exact ⟨chkTV_of (chkT_6 hp4 h0 (by simp [h8])), S.toBelow⟩
  have h9 : (outB t.high (-20000) 20000 || outB t.low (t.b.row 0).level t.high) = false := by rw [e6, h8]; rfl
  repeat (first | (refine M0 ?_; first | refine SL ?_ | refine SB fun _ _ => ?_) | (refine M1 ?_; first | refine SC ?_ | refine SD ?_) | (refine M2 ?_; refine SE ?_) | (refine M3 ?_; first | refine SG ?_ | refine SF ?_) | (refine M4 ?_; refine SR ?_) | (refine M5 ?_; first | exact M7 | refine YM ?_ | refine YN ?_ ?_))
  refine XL.callF (DevsV t.devs) (vs := [.agg ⟨tskC ⟨⟨some ab, t.b.rows.length, cb, Ab2, nb2, cb2⟩, q, ⟨Ao, t.outer.length, co⟩, ⟨Ar, t.river.length, cr⟩, ⟨Ac, t.prices.length, cc⟩, su, pu, ⟨An, t.on.length, cn⟩⟩ t⟩]) (ck rfl) rfl rfl (Fam.start (ks := []) (Nat.le_refl w.heap.size)) (fun _ h => by cases h) (Below.refl w.heap.size w) (fun w1 S1 _ _ => devices_made (ht0.sys S1) hn) (fun w2 vd new hR hF2 hB2 hk2 => ?_)
  obtain ⟨⟨Ad, nd, cd⟩, rfl, rfl, hcap⟩ := hR
  have hF2 : Fam w2 w.heap.size [g1] [] [hList devK ⟨Ad, nd, cd⟩ t.devs] := hF2
  have hg1 : g1 < w2.heap.size := hk2 g1 (.head _)
  have hlsF : ListAt devK w2 (Free w2 w.heap.size [g1] []) ⟨Ad, nd, cd⟩ t.devs := hF2.held _ (.head _)
  have hnd := ListAt.len hlsF (by decide)
  simp only at hnd
  subst hnd
  have hls : ∀ (L : Lo) (w5 : World), Sys w.heap.size w2 L w5 → (∀ e, e ∈ L → e.1 ∈ [g1] ∨ w2.heap.size ≤ e.1) → ListAt devK w5 (Lt w5.heap.size) ⟨Ad, t.devs.length, cd⟩ t.devs := fun L w5 S5 hL => (Held.lt ((hF2.sys S5 hL).get (.head _)) : _)
  have hm := t.devs_len
  simp only [svV]
  repeat (first | (refine M0 ?_; first | refine SL ?_ | refine SB fun _ _ => ?_ | refine Y4 (Ev.call (f := 26) (ck rfl) rfl (fun w5 S5 => (kinds_any (hls _ w5 S5 ZZHL) (by rw [hm]; unfold RTk.many; omega) :))) ?_) | (refine M1 ?_; first | refine SC ?_ | refine SD ?_) | (refine M2 ?_; refine SE ?_) | (refine M3 ?_; first | refine SG ?_ | refine SF ?_ | refine YF (Ev.call (f := 26) (ck rfl) rfl (fun w5 S5 => (kinds_any (hls _ w5 S5 ZZHL) (by rw [hm]; unfold RTk.many; omega) :))) ?_) | (refine M4 ?_; refine SR ?_) | (refine M5 ?_; first | exact M7 | refine YM ?_ | refine YN ?_ ?_))
  rw [(count_devs t).1, (count_devs t).2]
  cases e7 : decide ((2 : Int) < (t.slu.length : Int)) with
  | true =>
    have e7' := of_decide_eq_true e7
    repeat (first | (refine M0 ?_; first | refine SL ?_ | refine SB fun _ _ => ?_) | (refine M1 ?_; first | refine SC ?_ | refine SD ?_) | (refine M2 ?_; refine SE ?_) | (refine M3 ?_; first | refine SG ?_ | refine SF ?_) | (refine M4 ?_; refine SR ?_) | (refine M5 ?_; first | exact M7 | refine YM ?_ | refine YN ?_ ?_))
    refine XE.retg tok Try.results8 rfl (by simp only [and_self, and_true]) (fun w' S => ?_)
    exact ⟨chkTV_of (chkT_7 hp4 h0 h9 (.inl (by omega))), hB2.trans S.toBelow⟩
  | false =>
  have e7' := of_decide_eq_false e7
  repeat (first | (refine M0 ?_; first | refine SL ?_ | refine SB fun _ _ => ?_) | (refine M1 ?_; first | refine SC ?_ | refine SD ?_) | (refine M2 ?_; refine SE ?_) | (refine M3 ?_; first | refine SG ?_ | refine SF ?_) | (refine M4 ?_; refine SR ?_) | (refine M5 ?_; first | exact M7 | refine YM ?_ | refine YN ?_ ?_))
  refine XC.cond _ rfl (fun h7 => ?_) (fun h7 => ?_)
  · repeat (first | (refine M0 ?_; first | refine SL ?_ | refine SB fun _ _ => ?_) | (refine M1 ?_; first | refine SC ?_ | refine SD ?_) | (refine M2 ?_; refine SE ?_) | (refine M3 ?_; first | refine SG ?_ | refine SF ?_) | (refine M4 ?_; refine SR ?_) | (refine M5 ?_; first | exact M7 | refine YM ?_ | refine YN ?_ ?_))
    refine XE.retg tok Try.results8 rfl (by simp only [and_self, and_true]) (fun w' S => ?_)
    exact ⟨chkTV_of (chkT_7 hp4 h0 h9 (.inr (by have := of_decide_eq_true h7; omega))), hB2.trans S.toBelow⟩
  have h22 : ¬ (2 < t.slu.length ∨ 2 < t.pmp.length) := by have := of_decide_eq_false h7; omega
  have hm4 : t.devs.length ≤ 4 := by rw [hm]; unfold RTk.many; omega
  repeat (first | (refine M0 ?_; first | refine SL ?_ | refine SB fun _ _ => ?_) | (refine M1 ?_; first | refine SC ?_ | refine SD ?_) | (refine M2 ?_; refine SE ?_) | (refine M3 ?_; first | refine SG ?_ | refine SF ?_) | (refine M4 ?_; refine SR ?_) | (refine M5 ?_; first | exact M7 | refine YM ?_ | refine YN ?_ ?_))
  refine XC.loopk [1, 8, 107, 108] rfl (fun k : Nat => [(109, .int .i64 (k : Nat))]) (fun _ => [(g1, _)]) (fun _ => w2) (fun k => k ≤ t.devs.length ∧ ∀ j, j < k → devErr t.devs j = 0) (fun k => t.devs.length - k) 0 ⟨Nat.zero_le _, fun j h => absurd h (by omega)⟩ ZZSUB (fun _ h => h) ?_
  rintro k ⟨hk, hd0⟩
  dsimp only [List.cons_append, List.nil_append]
  repeat (first | (refine M0 ?_; first | refine SL ?_ | refine SB fun _ _ => ?_) | (refine M1 ?_; first | refine SC ?_ | refine SD ?_) | (refine M2 ?_; refine SE ?_) | (refine M3 ?_; first | refine SG ?_ | refine SF ?_) | (refine M4 ?_; refine SR ?_) | (refine M5 ?_; first | exact M7 | refine YM ?_ | refine YN ?_ ?_))
  refine XC.cond _ rfl (fun h10 => ?_) (fun h10 => ?_)
  · have hkn : k < t.devs.length := by simpa using h10
    obtain ⟨ad, rfl, hfl⟩ := ListAt.addr hlsF (by decide) (by omega)
    have hdk : t.devs[k]? = some t.devs[k] := List.getElem?_eq_getElem hkn
    have hc0 := ListAt.elem hlsF hdk 0 (devV t.devs[k]) rfl
    rw [add_add, Nat.add_zero] at hc0
    have hc : w2.cell? (ad.add (k * 1)) = some (devV t.devs[k]) := hc0
    have hnm := hnam t.devs[k] (List.getElem_mem hkn)
    have hta := take_any hkn
    have hgd : t.devs[k]?.getD d0 = t.devs[k] := by rw [hdk]; rfl
    have hcapk : k ≤ cd := by have := hcap (by omega); simp only at this; omega
    obtain ⟨d, hd⟩ : ∃ d, d = t.devs[k] := ⟨_, rfl⟩
    rw [← hd] at hc hnm hta hgd
    have hblk : ad.block < w2.heap.size := hfl.2.1
    have hne1 : ad.block ≠ g1 := fun e => hfl.2.2.1 (by rw [e]; exact .head _)
    obtain ⟨f1, m1, k1, c1⟩ := dev_name d
    obtain ⟨f2, m2, k2, c2⟩ := dev_wild d
    have e6 : nameB d.name = false → devErr t.devs k = 6 := fun h => devErr_6 (by rw [hgd]; exact h)
    repeat (first | (refine M0 ?_; first | refine SL ?_ | refine SB fun _ _ => ?_ | refine Y4 (Ev.load_far tok rfl rfl (add_lt hblk) (Free.far hfl (by intro e he; left; rw [List.mem_singleton.1 he]; exact .head _)) hc) ?_) | (refine M1 ?_; first | refine SC ?_ | refine SD ?_) | (refine M2 ?_; refine SE ?_) | (refine M3 ?_; first | refine SG ?_ | refine SF ?_ | refine YF (Ev.load_far tok rfl rfl (add_lt hblk) (Free.far hfl (by intro e he; left; rw [List.mem_singleton.1 he]; exact .head _)) hc) ?_) | (refine M4 ?_; refine SR ?_) | (refine M5 ?_; first | exact M7 | refine YM ?_ | refine YN ?_ ?_))
    rename_i g12 hg12
    have hL12 : ∀ (o o2 : Obj) (e : Nat × Obj), e ∈ [(g12, o), (g1, o2)] → e.1 ∈ [g1] ∨ w2.heap.size ≤ e.1 := fun o o2 e he => by
      rcases List.mem_cons.1 he with rfl | he
      · exact .inr hg12
      · rw [List.mem_singleton.1 he]; exact .inl (.head _)
    cases e8 : nameB d.name with
    | false =>
      have ncall := fun (w : World) => (name_any d.name hnm w)
      rw [e8] at ncall
      repeat (first | (refine M0 ?_; first | refine SL ?_ | refine SB fun _ _ => ?_ | refine Y4 (Ev.invoke (t := d.ty) (v := .agg ⟨d.c⟩) m1 k1 rfl rfl (fun w S => c1 w)) ?_ | refine Y4 (Ev.call (f := 27) (ck rfl) rfl (fun w _ => ncall w)) ?_) | (refine M1 ?_; first | refine SC ?_ | refine SD ?_) | (refine M2 ?_; refine SE ?_) | (refine M3 ?_; first | refine SG ?_ | refine SF ?_ | refine YF (Ev.invoke (t := d.ty) (v := .agg ⟨d.c⟩) m1 k1 rfl rfl (fun w S => c1 w)) ?_ | refine YF (Ev.call (f := 27) (ck rfl) rfl (fun w _ => ncall w)) ?_) | (refine M4 ?_; refine SR ?_) | (refine M5 ?_; first | exact M7 | refine YM ?_ | refine YN ?_ ?_))
      refine XE.retg tok Try.results8 rfl (by simp only [and_self, and_true]) (fun w' S => ?_)
      exact ⟨chkTV_of (chkT_8 hp4 h0 h9 h22 hkn hd0 (devErr_6 (by rw [hgd]; exact e8)) (by decide)), hB2.trans S.toBelow⟩
    | true =>
    have ncall := fun (w : World) => (name_any d.name hnm w)
    rw [e8] at ncall
    repeat (first | (refine M0 ?_; first | refine SL ?_ | refine SB fun _ _ => ?_ | refine Y4 (Ev.invoke (t := d.ty) (v := .agg ⟨d.c⟩) m1 k1 rfl rfl (fun w S => c1 w)) ?_ | refine Y4 (Ev.call (f := 27) (ck rfl) rfl (fun w _ => ncall w)) ?_ | refine Y4 (Ev.slice_hi tok k rfl rfl rfl rfl hcapk) ?_ | refine Y4 (Ev.makeFunc rfl rfl) ?_) | (refine M1 ?_; first | refine SC ?_ | refine SD ?_) | (refine M2 ?_; refine SE ?_) | (refine M3 ?_; first | refine SG ?_ | refine SF ?_ | refine YF (Ev.invoke (t := d.ty) (v := .agg ⟨d.c⟩) m1 k1 rfl rfl (fun w S => c1 w)) ?_ | refine YF (Ev.call (f := 27) (ck rfl) rfl (fun w _ => ncall w)) ?_ | refine YF (Ev.slice_hi tok k rfl rfl rfl rfl hcapk) ?_ | refine YF (Ev.makeFunc rfl rfl) ?_) | (refine M4 ?_; refine SR ?_) | (refine M5 ?_; first | exact M7 | refine YM ?_ | refine YN ?_ ?_))
    refine XL.step _ (Ev.call (f := 28) (ck rfl) rfl (fun w5 S5 => (contDev (f := 29) (cap := [.pointer (some ⟨g12, 0, none⟩)]) (P := fun c => decide (c.name = d.name)) (r := ⟨some ad, k, cd⟩) (ms := t.devs.take k) (ck rfl) ((hls _ w5 S5 (hL12 _ _)).take (by omega) (by decide)) (by rw [List.length_take]; omega) (fun m _ w' hb => rncheck1_any (g := g12) (c := m) (d := d) ((hb.block g12 (S5.lt (e := (g12, _)) (.head _))).trans (S5.own (g12, _) (.head _)).2)) :))) rfl ?_
    repeat (first | (refine M0 ?_; first | refine SL ?_ | refine SB fun _ _ => ?_) | (refine M1 ?_; first | refine SC ?_ | refine SD ?_) | (refine M2 ?_; refine SE ?_) | (refine M3 ?_; first | refine SG ?_ | refine SF ?_) | (refine M4 ?_; refine SR ?_) | (refine M5 ?_; first | exact M7 | refine YM ?_ | refine YN ?_ ?_))
    refine XC.cond _ rfl (fun h11 => ?_) (fun h11 => ?_)
    · obtain ⟨k3, hk3, hnn⟩ := hta.1 h11
      repeat (first | (refine M0 ?_; first | refine SL ?_ | refine SB fun _ _ => ?_) | (refine M1 ?_; first | refine SC ?_ | refine SD ?_) | (refine M2 ?_; refine SE ?_) | (refine M3 ?_; first | refine SG ?_ | refine SF ?_) | (refine M4 ?_; refine SR ?_) | (refine M5 ?_; first | exact M7 | refine YM ?_ | refine YN ?_ ?_))
      refine XE.retg tok Try.results8 rfl (by simp only [and_self, and_true]) (fun w' S => ?_)
      exact ⟨chkTV_of (chkT_8 hp4 h0 h9 h22 hkn hd0 (devErr_5 (by rw [hgd]; exact e8) k3 hk3 hnn) (by decide)), hB2.trans S.toBelow⟩
    have hno : ∀ k3, k3 < k → (t.devs[k3]?.getD d0).name ≠ (t.devs[k]?.getD d0).name := fun k3 hk3 hnn => by
      have := hta.2 ⟨k3, hk3, hnn⟩
      rw [this] at h11
      cases h11
    repeat (first | (refine M0 ?_; first | refine SL ?_ | refine SB fun _ _ => ?_ | refine Y4 (Ev.invoke (t := d.ty) (v := .agg ⟨d.c⟩) m2 k2 rfl rfl (fun w S => c2 w)) ?_) | (refine M1 ?_; first | refine SC ?_ | refine SD ?_) | (refine M2 ?_; refine SE ?_) | (refine M3 ?_; first | refine SG ?_ | refine SF ?_ | refine YF (Ev.invoke (t := d.ty) (v := .agg ⟨d.c⟩) m2 k2 rfl rfl (fun w S => c2 w)) ?_) | (refine M4 ?_; refine SR ?_) | (refine M5 ?_; first | exact M7 | refine YM ?_ | refine YN ?_ ?_))
    refine XC.cond _ rfl (fun h12 => ?_) (fun h12 => ?_)
    · repeat (first | (refine M0 ?_; first | refine SL ?_ | refine SB fun _ _ => ?_) | (refine M1 ?_; first | refine SC ?_ | refine SD ?_) | (refine M2 ?_; refine SE ?_) | (refine M3 ?_; first | refine SG ?_ | refine SF ?_) | (refine M4 ?_; refine SR ?_) | (refine M5 ?_; first | exact M7 | refine YM ?_ | refine YN ?_ ?_))
      refine XE.retg tok Try.results8 rfl (by simp only [and_self, and_true]) (fun w' S => ?_)
      exact ⟨chkTV_of (chkT_8 hp4 h0 h9 h22 hkn hd0 (devErr_7 (by rw [hgd]; exact e8) hno (by rw [hgd]; exact h12)) (by decide)), hB2.trans S.toBelow⟩
    repeat (first | (refine M0 ?_; first | refine SL ?_ | refine SB fun _ _ => ?_) | (refine M1 ?_; first | refine SC ?_ | refine SD ?_) | (refine M2 ?_; refine SE ?_) | (refine M3 ?_; first | refine SG ?_ | refine SF ?_) | (refine M4 ?_; refine SR ?_) | (refine M5 ?_; first | exact M7 | refine YM ?_ | refine YN ?_ ?_))
    refine XE.round (k + 1) ⟨hkn, fun j hj => ?_⟩ (by omega) ZZSUB (fun _ h => h.pop hg12)
    by_cases e : j = k
    · subst e; exact devErr_0 (by rw [hgd]; exact e8) hno (by rw [hgd]; exact h12)
    · exact hd0 j (by omega)
  have hkn : k = t.devs.length := by have : ¬ (k < t.devs.length) := by simpa using h10
                                     omega
  subst hkn
  repeat (first | (refine M0 ?_; first | refine SL ?_ | refine SB fun _ _ => ?_) | (refine M1 ?_; first | refine SC ?_ | refine SD ?_) | (refine M2 ?_; refine SE ?_) | (refine M3 ?_; first | refine SG ?_ | refine SF ?_) | (refine M4 ?_; refine SR ?_) | (refine M5 ?_; first | exact M7 | refine YM ?_ | refine YN ?_ ?_))
  refine XC.cond _ rfl (fun h11 => ?_) (fun h11 => ?_)
  · repeat (first | (refine M0 ?_; first | refine SL ?_ | refine SB fun _ _ => ?_) | (refine M1 ?_; first | refine SC ?_ | refine SD ?_) | (refine M2 ?_; refine SE ?_) | (refine M3 ?_; first | refine SG ?_ | refine SF ?_) | (refine M4 ?_; refine SR ?_) | (refine M5 ?_; first | exact M7 | refine YM ?_ | refine YN ?_ ?_))
    refine XE.retg tok Try.results8 rfl (by simp only [and_self, and_true]) (fun w' S => ?_)
    exact ⟨chkTV_of (chkT_9 hp4 h0 h9 h22 hd0 (by have := of_decide_eq_true h11; omega)), hB2.trans S.toBelow⟩
  · repeat (first | (refine M0 ?_; first | refine SL ?_ | refine SB fun _ _ => ?_) | (refine M1 ?_; first | refine SC ?_ | refine SD ?_) | (refine M2 ?_; refine SE ?_) | (refine M3 ?_; first | refine SG ?_ | refine SF ?_) | (refine M4 ?_; refine SR ?_) | (refine M5 ?_; first | exact M7 | refine YM ?_ | refine YN ?_ ?_))
    refine XE.retg tok Try.results8 rfl (by simp only [and_self, and_true]) (fun w' S => ?_)
    exact ⟨chkTV_of (chkT_0 hp4 h0 h9 h22 hd0 (by have := of_decide_eq_false h11; omega)), hB2.trans S.toBelow⟩
end Go.Proofs.Ytlfjdbilblfknaa.X
/-
  The walks of the planner: begin, head, use (runoff).
-/
namespace Go.Proofs.Ytlfjdbilblfknaa.X
open Go Go.RowKit Go.Proofs.Ytlfjdbilblfknaa.Bs
set_option linter.unusedVariables false
def plnC (v : RTV) (r : SV) (t : RTk) (gt gm : Nat) : List Value := tskC v t ++ [.slice r.A r.n r.c, .func (.func 37) #[] #[.pointer (some ⟨gt, 0, none⟩)], .map (some gm)]
/-- a planner in memory. -/
structure PlnAt (w : World) (ok : Nat → Prop) (g gt gm : Nat) (v : RTV) (r : SV) (t : RTk) : Prop where
  kg : ok g
  kt : ok gt
  hg : w.heap[g]? = some (cel 100 (plnC v r t gt gm))
  ht : w.heap[gt]? = some (cel 33 (tskC v t))
  all : ListAt devK w ok r t.devs
theorem PlnAt.keep {w w' : World} {ok : Nat → Prop} {g gt gm : Nat} {v : RTV} {r : SV} {t : RTk} (h : PlnAt w ok g gt gm v r t) (hk : ∀ k, ok k → w'.heap[k]? = w.heap[k]?) : PlnAt w' ok g gt gm v r t := ⟨h.kg, h.kt, (hk _ h.kg).trans h.hg, (hk _ h.kt).trans h.ht, h.all.keep hk⟩
theorem PlnAt.mono {w : World} {ok ok' : Nat → Prop} {g gt gm : Nat} {v : RTV} {r : SV} {t : RTk} (h : PlnAt w ok g gt gm v r t) (hk : ∀ k, ok k → ok' k) : PlnAt w ok' g gt gm v r t := ⟨hk _ h.kg, hk _ h.kt, h.hg, h.ht, h.all.mono hk⟩
def Ng (gm : Nat) (ok : Nat → Prop) : Nat → Prop := fun j => ok j ∧ j ≠ gm
/-- just begun. -/
structure Pln0 (w : World) (ok : Nat → Prop) (g gt gm : Nat) (v : RTV) (r : SV) (t : RTk) : Prop where
  p : PlnAt w (Ng gm ok) g gt gm v r t
  km : ok gm
  hm : w.heap[gm]? = some (mapO [])
def hPln (g gt gm : Nat) (v : RTV) (r : SV) (t : RTk) : Held := ⟨fun w ok => Pln0 w ok g gt gm v r t, fun h hk => ⟨h.p.keep fun k hj => hk k hj.1, h.km, (hk _ h.km).trans h.hm⟩, fun h hk => ⟨h.p.mono fun k hj => ⟨hk k hj.1, hj.2⟩, hk _ h.km, h.hm⟩⟩
def BegV (v : RTV) (t : RTk) (x : Value) (new : List Held) : Prop :=
  (rtE t ≠ 0 ∧ x = .tuple ⟨[.pointer none, .int .i64 (rtE t)]⟩ ∧ new = []) ∨
  (rtE t = 0 ∧ ∃ g gt gm r, x = .tuple ⟨[.pointer (some ⟨g, 0, none⟩), .int .i64 0]⟩ ∧ new = [hPln g gt gm v r t])
theorem begin_end {B b0 g gt gm : Nat} {w2 w' : World} {L : Lo} {ks : List Nat} {r : SV} {v : RTV} {t : RTk} (S : Sys B w2 L w') (hF : Fam w2 b0 ks [] [hList devK r t.devs]) (hg : (g, cel 100 (plnC v r t gt gm)) ∈ L) (hm : (gm, mapO []) ∈ L) (ht : (gt, cel 33 (tskC v t)) ∈ L)
    (hL : ∀ e, e ∈ L → e.1 ∈ ks ∨ w2.heap.size ≤ e.1) (hb : ∀ e, e ∈ L → b0 ≤ e.1) : Pln0 w' (Btw b0 w'.heap.size) g gt gm v r t := by
  have h1 := (S.own _ hg).2
  have h2 := (S.own _ hm).2
  have h3 := (S.own _ ht).2
  simp only at h1 h2 h3
  have hF2 : Fam w2 b0 (gm :: ks) [] [hList devK r t.devs] := hF.add fun k hk => by
    rcases List.mem_cons.1 hk with rfl | hk
    · exact hL _ hm
    · exact .inl hk
  have h4 : ListAt devK w' (Free w' b0 (gm :: ks) []) r t.devs := (hF2.sys S fun e he => (hL e he).elim (fun h => .inl (.tail _ h)) .inr).held _ (.head _)
  refine ⟨⟨⟨⟨hb _ hg, S.lt hg⟩, fun e => ?_⟩, ⟨⟨hb _ ht, S.lt ht⟩, fun e => ?_⟩, h1, h3, h4.mono fun j hj => ⟨⟨hj.1, hj.2.1⟩, fun e => hj.2.2.1 (by rw [e]; exact .head _)⟩⟩, ⟨hb _ hm, S.lt hm⟩, h2⟩
  · subst e; rw [h1] at h2; cases h2
  · subst e; rw [h3] at h2; cases h2
theorem begin_fin {g gt gm : Nat} {w w2 w' : World} {L : Lo} {ks : List Nat} {r : SV} {v : RTV} {t : RTk} (h0 : rtE t = 0) (S : Sys w.heap.size w2 L w') (hF : Fam w2 w.heap.size ks [] [hList devK r t.devs]) (hB : Below w.heap.size w w') (hg : (g, cel 100 (plnC v r t gt gm)) ∈ L) (hm : (gm, mapO []) ∈ L) (ht : (gt, cel 33 (tskC v t)) ∈ L)
    (hL : ∀ e, e ∈ L → e.1 ∈ ks ∨ w2.heap.size ≤ e.1) : Made w (BegV v t) (.returned (tupV [.pointer (some ⟨g, 0, none⟩), .int .i64 0])) w' :=
  ⟨_, [hPln g gt gm v r t], rfl, .inr ⟨h0, g, gt, gm, r, rfl, rfl⟩, fun x hx => by
    rw [List.mem_singleton.1 hx]
    exact begin_end S hF hg hm ht hL (fun e he => (S.own e he).1), hB⟩
set_option maxHeartbeats 8000000 in
theorem begin_made {v : RTV} {t : RTk} {w : World} (ht : TskAt w w.heap.size v t) (hn : t.slu.length + t.pmp.length ≤ 5000000) :
    Calls Try.prog 19 #[tskV v t] w (Made w (BegV v t)) := by
  have hc := fun {L : Lo} (w5 : World) (S5 : Sys w.heap.size w L w5) => rnCheck_any (ht.sys S5) hn
  have hd := fun {L : Lo} (w5 : World) (S5 : Sys w.heap.size w L w5) => devices_made (ht.sys S5) hn
  obtain ⟨p, q, o, r, c, su, pu, on⟩ := v
  simp only [tskV, tskC] at hc hd ⊢
  refine enter Try.func19 rfl Try.ntmps19 rfl ?_; simp only [frame, Nat.zero_add, Nat.reduceAdd]
  repeat (first | (refine M0 ?_; first | refine SL ?_ | refine SB fun _ _ => ?_ | refine Y4 (Ev.call (f := 8) (ck rfl) rfl (fun w5 S5 => hc w5 S5)) ?_) | (refine M1 ?_; first | refine SC ?_ | refine SD ?_) | (refine M2 ?_; refine SE ?_) | (refine M3 ?_; first | refine SG ?_ | refine SF ?_ | refine YF (Ev.call (f := 8) (ck rfl) rfl (fun w5 S5 => hc w5 S5)) ?_) | (refine M4 ?_; refine SR ?_) | (refine M5 ?_; first | exact M7 | refine YM ?_ | refine YN ?_ ?_))
  rename_i g1 hg1
  refine XC.cond _ rfl (fun h0 => ?_) (fun h0 => ?_)
  · repeat (first | (refine M0 ?_; first | refine SL ?_ | refine SB fun _ _ => ?_) | (refine M1 ?_; first | refine SC ?_ | refine SD ?_) | (refine M2 ?_; refine SE ?_) | (refine M3 ?_; first | refine SG ?_ | refine SF ?_) | (refine M4 ?_; refine SR ?_) | (refine M5 ?_; first | exact M7 | refine YM ?_ | refine YN ?_ ?_))
    refine XE.retg tok Try.results19 rfl (by simp only [and_self, and_true]) (fun w' S => ?_)
    exact ⟨_, [], rfl, .inl ⟨by unfold rtE; simpa using h0, rfl, rfl⟩, (fun x hx => by cases hx), S.toBelow⟩
  have h0' : rtE t = 0 := by unfold rtE; simpa using h0
  repeat (first | (refine M0 ?_; first | refine SL ?_ | refine SB fun _ _ => ?_) | (refine M1 ?_; refine SC ?_) | (refine M2 ?_; refine SE ?_))
  refine XC.rebase (List.Sublist.refl _) (fun W0 S0 => ?_)
  have hB0 := S0.toBelow
  have hF0 : Fam W0 w.heap.size [g1] [] [] := Fam.start S0.size
  have hk0 : ∀ k, k ∈ [g1] → k < W0.heap.size := fun k hk => S0.keyLt k hk
  refine XC.drawRS _ [(g1, _)] [0, 1, 3] [2, 4, 5, 6, 7, 8] mixed (fun _ h => Sys.anchor2 (by assumption) h ZZSM) rfl (by kernel_rfl) ?_
  repeat (any_goals (first | (refine M0 ?_; first | refine SL ?_ | refine SB fun _ _ => ?_ | refine Y4 (Ev.makeFunc rfl rfl) ?_ | refine XL.makeMap rfl (fun _ _ => ?_) | (refine XL.at_call 25 ?_; refine XL.callF (DevsV t.devs) (ck rfl) rfl rfl (by assumption) (by assumption) (by assumption) (fun w1 S1 _ hB1 => (hd w1 (Sys.ofBelow hB1))) (fun w2 x new hR hF2 hB2 hk2 => ?_); obtain ⟨rd, rfl, rfl, _⟩ := hR; simp only [svV])) | (refine M1 ?_; refine SC ?_) | (refine M2 ?_; refine SE ?_) | (refine M3 ?_; first | refine SG ?_ | refine SF ?_ | refine YF (Ev.makeFunc rfl rfl) ?_) | (refine M4 ?_; refine SR ?_) | (refine M5 ?_; first | exact M7 | refine YM ?_ | refine YN ?_ ?_)))
  any_goals (repeat (first | exact AnyR.nil | refine AnyR.skip rfl ?_))
  all_goals
    refine XE.retg tok Try.results19 rfl (by simp only [and_self, and_true]) (fun w' S => ?_)
    exact begin_fin (v := ⟨p, q, o, r, c, su, pu, on⟩) h0' S (by assumption) (Below.trans (by assumption) S.toBelow) (by repeat (first | exact List.mem_cons_self | apply List.mem_cons_of_mem)) (by repeat (first | exact List.mem_cons_self | apply List.mem_cons_of_mem)) (by repeat (first | exact List.mem_cons_self | apply List.mem_cons_of_mem)) ZZHL
/-! ### the price of a tick, and the levels in it -/
theorem begin1_any {gt : Nat} {v : RTV} {t : RTk} {i : Nat} {e : Int} {w : World} (hg : w.heap[gt]? = some (cel 33 (tskC v t))) (ht : IntsAt w (Lt w.heap.size) v.c t.prices) (hi : i < t.prices.length) (he : i64in (e * at0 t.prices i)) :
    Calls Try.prog 37 #[.int .i64 (i : Nat), .int .i64 e, .pointer (some ⟨gt, 0, none⟩)] w fun x w' => x = .returned (.int .i64 (e * at0 t.prices i)) ∧ Below w.heap.size w w' := by
  obtain ⟨p, q, o, r, ⟨Ac, nc, cc⟩, su, pu, on⟩ := v
  simp only at ht
  have hl := ht.len
  simp only at hl
  subst hl
  obtain ⟨ad, rfl, hlt, hc⟩ := ht.at_ (by omega)
  have d1 := hc i hi
  have hlg := (Array.getElem?_eq_some_iff.1 hg).1
  have d0 : w.cell? ⟨gt, 9, none⟩ = some (.slice (some ad) t.prices.length cc) := by simp [World.cell?, hg, tskC]
  refine enter Try.func37 rfl Try.ntmps37 rfl ?_; simp only [frame, Nat.zero_add, Nat.reduceAdd]
  repeat (first | (refine M0 ?_; first | refine SL ?_ | refine SB fun _ _ => ?_ | refine Y4 (Ev.load_old tok rfl rfl hlg d0) ?_ | refine Y4 (Ev.load_old tok rfl rfl (add_lt hlt) d1) ?_) | (refine M1 ?_; first | refine SC ?_ | refine SD ?_) | (refine M2 ?_; refine SE ?_) | (refine M3 ?_; first | refine SG ?_ | refine SF ?_ | refine YF (Ev.load_old tok rfl rfl hlg d0) ?_ | refine YF (Ev.load_old tok rfl rfl (add_lt hlt) d1) ?_) | (refine M4 ?_; refine SR ?_) | (refine M5 ?_; first | exact M7 | refine YM ?_ | refine YN ?_ ?_))
  refine XE.retg tok Try.results37 rfl (by simp only [and_self, and_true]) (fun w' S => ?_)
  exact ⟨rfl, S.toBelow⟩
theorem plnCell {w : World} {ok : Nat → Prop} {g gt gm : Nat} {v : RTV} {r : SV} {t : RTk} (h : PlnAt w ok g gt gm v r t) : g < w.heap.size ∧ ∀ j u, (plnC v r t gt gm)[j]? = some u → w.cell? ⟨g, j, none⟩ = some u :=
  ⟨(Array.getElem?_eq_some_iff.1 h.hg).1, fun j u hj => by simp [World.cell?, h.hg, hj]⟩
def outI (t : RTk) (i : Nat) : Int := if i < t.outer.length then at0 t.outer i else 0
set_option maxHeartbeats 8000000 in
theorem head_any {g gt gm : Nat} {v : RTV} {r : SV} {t : RTk} {x : Int} {i : Nat} {w : World} (hp : PlnAt w (Lt w.heap.size) g gt gm v r t) (ht : TskAt w w.heap.size v t) (ho : Ok t.b) (hx : (t.b.row 0).vol ≤ x ∧ x ≤ 1000000000) :
    Calls Try.prog 45 #[.pointer (some ⟨g, 0, none⟩), .int .i64 x, .int .i64 (i : Nat)] w fun e w' => e = .returned (.agg ⟨headC (num t.b x) (den t.b x) (outI t i)⟩) ∧ Below w.heap.size w w' := by
  obtain ⟨hlg, hc⟩ := plnCell hp
  have hbas := ht.bas
  have hout := ht.outer
  obtain ⟨⟨Ab, nb, cb, Ab2, nb2, cb2⟩, q, ⟨Ao, no, co⟩, rv, pv, su, pu, on⟩ := v
  have lb := hbas.n_eq
  have lo := hout.len
  simp only at lb lo hbas hout
  subst lb lo
  have h2 := ho.n2
  have h12 := ho.n12
  obtain ⟨ab, rfl, hlb⟩ := hbas.rows.addr (by simp only; omega)
  have c0 : w.cell? ⟨g, 0, none⟩ = some (.slice (some ab) t.b.rows.length cb) := hc 0 _ rfl
  have c7 : w.cell? ⟨g, 7, none⟩ = some (.slice Ao t.outer.length co) := hc 7 _ rfl
  have hR := ho.rowsOk
  have hsg := seg_lt hR x
  have hcl := fun (k : Nat) (h : k ≤ t.b.rows.length - 2) (h1 : k = 0 ∨ (t.b.row k).vol ≤ x) (h2 : ∀ j, k < j → j ≤ t.b.rows.length - 2 → x < (t.b.row j).vol) => (segTo_eq (b := t.b) (v := x) (s := k) h h1 h2 : seg t.b x = k)
  refine enter Try.func45 rfl Try.ntmps45 rfl ?_; simp only [frame, Nat.zero_add, Nat.reduceAdd]
  refine XC.seq (XC.region ?_)
  repeat (first | (refine M0 ?_; first | refine SL ?_ | refine SB fun _ _ => ?_) | (refine M2 ?_; refine SE ?_) | (refine M3 ?_; first | refine SG ?_ | refine SF ?_) | (refine M4 ?_; refine SR ?_) | (refine M5 ?_; first | exact M7 | refine YM ?_ | refine YN ?_ ?_))
  refine XC.seq (XC.region ?_)
  repeat (first | (refine M0 ?_; first | refine SL ?_ | refine SB fun _ _ => ?_ | refine Y4 (Ev.load_old tok rfl rfl hlg c0) ?_) | (refine M2 ?_; refine SE ?_) | (refine M3 ?_; first | refine SG ?_ | refine SF ?_ | refine YF (Ev.load_old tok rfl rfl hlg c0) ?_) | (refine M4 ?_; refine SR ?_) | (refine M5 ?_; first | exact M7 | refine YM ?_ | refine YN ?_ ?_))
  rename_i g6 hg6
  rw [show ((t.b.rows.length : Int) - 2) = ((t.b.rows.length - 2 : Nat) : Int) by omega]
  refine XC.cutl [0, 1, 2, 6] rfl (fun _ : Unit => [(7, .int .i64 (seg t.b x : Nat))]) (fun _ => []) (fun _ => True) ?_ (fun _ _ => ?_)
  · refine XC.block ?_
    refine XC.loopk [0, 1, 2, 6] rfl (fun k : Nat => [(7, .int .i64 (k : Nat))]) (fun _ => [(g6, _)]) (fun _ => w) (fun k => k ≤ t.b.rows.length - 2 ∧ ∀ j, k < j → j ≤ t.b.rows.length - 2 → x < (t.b.row j).vol) (fun k => k) (t.b.rows.length - 2) ⟨Nat.le_refl _, fun j h1 h2 => absurd h1 (by omega)⟩ ZZSUB (fun _ h => h) ?_
    rintro k ⟨hk, hj⟩
    dsimp only [List.cons_append, List.nil_append]
    repeat (first | (refine M0 ?_; first | refine SL ?_ | refine SB fun _ _ => ?_) | (refine M1 ?_; first | refine SC ?_ | refine SD ?_) | (refine M2 ?_; refine SE ?_) | (refine M3 ?_; first | refine SG ?_ | refine SF ?_) | (refine M4 ?_; refine SR ?_) | (refine M5 ?_; first | exact M7 | refine YM ?_ | refine YN ?_ ?_))
    refine XL.split _ _ rfl (fun h1 => ?_) (fun h1 => ?_) <;> rw [h1]
    · have hk0 : 0 < k := by have := of_decide_eq_true h1; omega
      repeat (first | (refine M0 ?_; first | refine SL ?_ | refine SB fun _ _ => ?_ | refine Y4 (Ev.load_old tok rfl rfl hlg c0) ?_ | refine Y4 (Ev.load_old tok rfl rfl (add_lt2 hlb) (hbas.rowVol (i := k) (by omega))) ?_) | (refine M1 ?_; first | refine SC ?_ | refine SD ?_) | (refine M2 ?_; refine SE ?_) | (refine M3 ?_; first | refine SG ?_ | refine SF ?_ | refine YF (Ev.load_old tok rfl rfl hlg c0) ?_ | refine YF (Ev.load_old tok rfl rfl (add_lt2 hlb) (hbas.rowVol (i := k) (by omega))) ?_) | (refine M4 ?_; refine SR ?_) | (refine M5 ?_; first | exact M7 | refine YM ?_ | refine YN ?_ ?_))
      refine XC.cond _ rfl (fun h3 => ?_) (fun h3 => ?_)
      · repeat (first | (refine M0 ?_; first | refine SL ?_ | refine SB fun _ _ => ?_) | (refine M1 ?_; first | refine SC ?_ | refine SD ?_) | (refine M2 ?_; refine SE ?_) | (refine M3 ?_; first | refine SG ?_ | refine SF ?_) | (refine M4 ?_; refine SR ?_) | (refine M5 ?_; first | exact M7 | refine YM ?_ | refine YN ?_ ?_))
        rw [show ((k : Int) - 1) = ((k - 1 : Nat) : Int) by omega]
        refine XE.round (k - 1) ⟨by omega, fun j h4 h5 => ?_⟩ (by omega) ZZSUB (fun _ h => h)
        by_cases e : j = k
        · subst e; exact of_decide_eq_true h3
        · exact hj j (by omega) h5
      · repeat (first | (refine M0 ?_; first | refine SL ?_ | refine SB fun _ _ => ?_) | (refine M1 ?_; first | refine SC ?_ | refine SD ?_) | (refine M2 ?_; refine SE ?_) | (refine M3 ?_; first | refine SG ?_ | refine SF ?_) | (refine M4 ?_; refine SR ?_) | (refine M5 ?_; first | exact M7 | refine YM ?_ | refine YN ?_ ?_))
        rw [← hcl k hk (.inr (by have := of_decide_eq_false h3; omega)) hj]
        refine XE.leaf () ZZSUB (fun _ S' => S') trivial
    · repeat (first | (refine M0 ?_; first | refine SL ?_ | refine SB fun _ _ => ?_) | (refine M1 ?_; first | refine SC ?_ | refine SD ?_) | (refine M2 ?_; refine SE ?_) | (refine M3 ?_; first | refine SG ?_ | refine SF ?_) | (refine M4 ?_; refine SR ?_) | (refine M5 ?_; first | exact M7 | refine YM ?_ | refine YN ?_ ?_))
      rw [← hcl k hk (.inl (by have := of_decide_eq_false h1; omega)) hj]
      refine XE.leaf () ZZSUB (fun _ S' => S') trivial
  dsimp only [List.cons_append, List.nil_append]
  obtain ⟨k, hk⟩ : ∃ k, k = seg t.b x := ⟨_, rfl⟩
  have hpb := parts_bd hR hx
  have htb := terms_bd hR hx
  have hnb := num_bd hR hx
  rw [← hk] at hsg hpb htb ⊢
  have hra := hbas.row (i := k) (by omega)
  have hrb : ∀ j u, (rowC (t.b.row (k + 1)))[j]? = some u → w.cell? ((ab.add (((k : Int) + 1).toNat * 2)).add j) = some u := by rw [show ((k : Int) + 1).toNat = k + 1 by omega]; exact hbas.row (by omega)
  have hden : den t.b x = (t.b.row (k + 1)).vol - (t.b.row k).vol := by rw [hk]; rfl
  have hnum : num t.b x = (t.b.row k).level * den t.b x + (x - (t.b.row k).vol) * ((t.b.row (k + 1)).level - (t.b.row k).level) := by rw [hk]; rfl
  rw [hden] at hpb htb hnum
  rw [hden, hnum]
  refine XC.cutl [0, 1, 2, 6] rfl (fun s : Nat × Nat => [(8, .pointer (some ⟨s.1, 0, none⟩)), (9, .pointer (some ⟨s.2, 0, none⟩))]) (fun s => [(s.2, cel 46 (rowC (t.b.row (k + 1)))), (s.1, cel 46 (rowC (t.b.row k)))]) (fun _ => True) ?_ ?_
  · refine XC.drawR _ [0, 1, 2, 3, 4, 5, 6, 7, 8, 9, 10, 11, 12, 13, 14, 15, 16, 17, 18] [19, 20, 21, 22] mixed (fun _ h => h) rfl (by kernel_rfl) ?_
    repeat (any_goals (first | (refine M0 ?_; first | refine SL ?_ | refine SB fun _ _ => ?_ | refine Y4 (Ev.load_old tok rfl rfl hlg c0) ?_ | refine Y4 (Ev.load_old_agg tok (rowC (t.b.row k)) rfl rfl rfl (add_lt hlb) hra) ?_ | refine Y4 (Ev.load_old_agg tok (rowC (t.b.row (k + 1))) rfl rfl rfl (add_lt hlb) hrb) ?_) | (refine M1 ?_; refine SC ?_) | (refine M2 ?_; refine SE ?_) | (refine M3 ?_; first | refine SG ?_ | refine SF ?_ | refine YF (Ev.load_old tok rfl rfl hlg c0) ?_ | refine YF (Ev.load_old_agg tok (rowC (t.b.row k)) rfl rfl rfl (add_lt hlb) hra) ?_ | refine YF (Ev.load_old_agg tok (rowC (t.b.row (k + 1))) rfl rfl rfl (add_lt hlb) hrb) ?_) | (refine M4 ?_; refine SR ?_) | (refine M5 ?_; first | exact M7 | refine YM ?_ | refine YN ?_ ?_)))
    any_goals (repeat (first | exact AnyR.nil | refine AnyR.skip rfl ?_))
    all_goals exact XE.leaf (_, _) ZZSUB (fun _ S' => by first | exact S' | exact S'.perm (by repeat (first | exact List.Perm.refl _ | refine perm1 ?_ | refine List.Perm.cons _ ?_ | refine perm2 ?_)) | exact (S'.pop (by assumption)) | exact (S'.pop2 (by assumption))) trivial
  rintro ⟨g8, g9⟩ _
  dsimp only [List.cons_append, List.nil_append]
  refine XC.hint 8 1 (XC.hint 9 2 ?_)
  simp only [rowC]
  repeat (first | (refine M0 ?_; first | refine SL ?_ | refine SB fun _ _ => ?_ | refine Y4 (Ev.load_old tok rfl rfl hlg c7) ?_) | (refine M1 ?_; first | refine SC ?_ | refine SD ?_) | (refine M2 ?_; refine SE ?_) | (refine M3 ?_; first | refine SG ?_ | refine SF ?_ | refine YF (Ev.load_old tok rfl rfl hlg c7) ?_) | (refine M4 ?_; refine SR ?_) | (refine M5 ?_; first | exact M7 | refine YM ?_ | refine YN ?_ ?_))
  refine XC.cond _ rfl (fun h1 => ?_) (fun h1 => ?_)
  · have hi : i < t.outer.length := by have := of_decide_eq_true h1; omega
    obtain ⟨ao, rfl, hlo, hco⟩ := hout.at_ (by omega)
    have c8 := hco i hi
    have hoi : outI t i = at0 t.outer i := by unfold outI; rw [if_pos hi]
    repeat (first | (refine M0 ?_; first | refine SL ?_ | refine SB fun _ _ => ?_ | refine Y4 (Ev.load_old tok rfl rfl hlg c7) ?_ | refine Y4 (Ev.load_old tok rfl rfl (add_lt hlo) c8) ?_) | (refine M1 ?_; first | refine SC ?_ | refine SD ?_) | (refine M2 ?_; refine SE ?_) | (refine M3 ?_; first | refine SG ?_ | refine SF ?_ | refine YF (Ev.load_old tok rfl rfl hlg c7) ?_ | refine YF (Ev.load_old tok rfl rfl (add_lt hlo) c8) ?_) | (refine M4 ?_; refine SR ?_) | (refine M5 ?_; first | exact M7 | refine YM ?_ | refine YN ?_ ?_))
    refine XE.retg tok Try.results45 rfl (by simp only [and_self, and_true]) (fun w' S => ?_)
    rw [hoi]
    exact ⟨rfl, S.toBelow⟩
  · have hi : ¬ i < t.outer.length := by have := of_decide_eq_false h1; omega
    have hoi : outI t i = 0 := by unfold outI; rw [if_neg hi]
    repeat (first | (refine M0 ?_; first | refine SL ?_ | refine SB fun _ _ => ?_) | (refine M1 ?_; first | refine SC ?_ | refine SD ?_) | (refine M2 ?_; refine SE ?_) | (refine M3 ?_; first | refine SG ?_ | refine SF ?_) | (refine M4 ?_; refine SR ?_) | (refine M5 ?_; first | exact M7 | refine YM ?_ | refine YN ?_ ?_))
    refine XE.retg tok Try.results45 rfl (by simp only [and_self, and_true]) (fun w' S => ?_)
    rw [hoi]
    exact ⟨rfl, S.toBelow⟩
end Go.Proofs.Ytlfjdbilblfknaa.X
/-
  The walk of use (runoff).
-/
namespace Go.Proofs.Ytlfjdbilblfknaa.Bs
open Go.Proofs.Ytlfjdbilblfknaa.X
theorem useTo_none {n d o : Int} {ds : List Dev} {b f : List Bool} {k : Nat} : ∀ {m : Nat}, k ≤ m → useTo n d o ds b f k = none → useTo n d o ds b f m = none := by
  intro m
  induction m with
  | zero => intro h1 h2; rw [show k = 0 by omega] at h2; exact h2
  | succ m ih =>
    intro h1 h2
    rcases Nat.lt_or_ge k (m + 1) with h3 | h3
    · unfold useTo
      rw [ih (by omega) h2]
    · rw [show m + 1 = k by omega]; exact h2
theorem useTo_on {n d o : Int} {ds : List Dev} {b f : List Bool} {k : Nat} {p : Int × Int} (h : useTo n d o ds b f k = some p) (h1 : bl f k = true) : useTo n d o ds b f (k + 1) = match (ds[k]?.getD d0).flow n d o with
        | none => none
        | some x => some (p.1 + x, p.2 + (ds[k]?.getD d0).energy n d o (bl b k) true) := by
  obtain ⟨a, c⟩ := p
  conv => lhs; unfold useTo
  rw [h]
  simp only
  rw [if_pos h1]
  first | done | (cases (ds[k]?.getD d0).flow n d o <;> rfl)
theorem useTo_off {n d o : Int} {ds : List Dev} {b f : List Bool} {k : Nat} {p : Int × Int} (h : useTo n d o ds b f k = some p) (h1 : bl f k = false) : useTo n d o ds b f (k + 1) = some (p.1, p.2 + (ds[k]?.getD d0).energy n d o (bl b k) false) := by
  obtain ⟨a, c⟩ := p
  conv => lhs; unfold useTo
  rw [h]
  simp only
  rw [if_neg (by simp [h1])]
end Go.Proofs.Ytlfjdbilblfknaa.Bs
namespace Go.Proofs.Ytlfjdbilblfknaa.X
open Go Go.RowKit Go.Proofs.Ytlfjdbilblfknaa.Bs
set_option linter.unusedVariables false
def useV : Option (Int × Int) → Value
  | none => .tuple ⟨[.int .i64 0, .int .i64 0, .bool false]⟩
  | some p => .tuple ⟨[.int .i64 p.1, .int .i64 p.2, .bool true]⟩
theorem use_head {t : RTk} (h : RtOk t) {x : Int} (hx : (t.b.row 0).vol ≤ x ∧ x ≤ 1000000000) {i : Nat} (hi : i < t.outer.length) : HeadOk (num t.b x) (den t.b x) (at0 t.outer i) := by
  have hR := h.ok.rowsOk
  have h1 := parts_bd hR hx
  have h2 := terms_bd hR hx
  have h3 := num_bd hR hx
  refine ⟨den_pos hR x, h3, ?_, h.out_ i hi⟩
  have h4 : -20000 * den t.b x ≤ (t.b.row (seg t.b x)).level * den t.b x := Int.mul_le_mul_of_nonneg_right h1.1.1 (by omega)
  have h5 : num t.b x = (t.b.row (seg t.b x)).level * den t.b x + (x - (t.b.row (seg t.b x)).vol) * ((t.b.row (seg t.b x + 1)).level - (t.b.row (seg t.b x)).level) := rfl
  omega
theorem boolAt {w : World} {ok : Nat → Prop} {ad : Addr} {n c : Nat} {l : List Bool} (h : ListAt boolK w ok ⟨some ad, n, c⟩ l) {k : Nat} (hk : k < l.length) : w.cell? (ad.add (k * 1)) = some (.bool (bl l k)) := by
  have h9 := h.elem (List.getElem?_eq_getElem hk) 0 (.bool l[k]) rfl
  rw [add_add, Nat.add_zero] at h9
  unfold bl
  rw [List.getElem?_eq_getElem hk]
  exact h9
set_option maxHeartbeats 8000000 in
set_option maxRecDepth 20000 in
theorem use_any {g gt gm : Nat} {v : RTV} {r p q : SV} {t : RTk} {x : Int} {i : Nat} {before on : List Bool} {w : World} (hp : PlnAt w (Lt w.heap.size) g gt gm v r t) (ht : TskAt w w.heap.size v t) (ho : RtOk t) (hx : (t.b.row 0).vol ≤ x ∧ x ≤ 1000000000) (hi : i < t.outer.length)
    (hb : ListAt boolK w (Lt w.heap.size) p before) (hbl : before.length = t.devs.length) (hf : ListAt boolK w (Lt w.heap.size) q on) (hfl : on.length = t.devs.length) :
    Calls Try.prog 34 #[.pointer (some ⟨g, 0, none⟩), .int .i64 x, .int .i64 (i : Nat), svV p, svV q] w fun e w' => e = .returned (useV (t.use x i before on)) ∧ Below w.heap.size w w' := by
  obtain ⟨hlg, hc⟩ := plnCell hp
  have hall := hp.all
  obtain ⟨Ad, nd, cd⟩ := r
  have lnd := hall.len (by decide)
  obtain ⟨Ap, np, cp⟩ := p
  obtain ⟨Aq, nq, cq⟩ := q
  have lp := hb.len (by decide)
  have lq := hf.len (by decide)
  simp only at lnd lp lq
  subst lnd lp lq
  have c15 : w.cell? ⟨g, 15, none⟩ = some (.slice Ad t.devs.length cd) := hc 15 _ rfl
  have hm4 : t.devs.length ≤ 4 := by have := t.devs_len; unfold RTk.many at this; have := ho.s2; have := ho.p2; omega
  have hH := use_head ho hx hi
  have hO : outI t i = at0 t.outer i := by unfold outI; rw [if_pos hi]
  have hU : t.use x i before on = match useTo (num t.b x) (den t.b x) (at0 t.outer i) t.devs before on t.devs.length with
    | none => none
    | some (f, e) => some (min f 10000000, e) := rfl
  have hhead := fun {L : Lo} (w5 : World) (S5 : Sys w.heap.size w L w5) => head_any (i := i) (x := x) ((hp.keep fun k hk => S5.old k hk fun e he e1 => by have := (S5.own e he).1; have hk' : k < w.heap.size := hk; omega).mono fun k hk => Nat.lt_of_lt_of_le hk S5.size) (ht.sys S5) ho.ok hx
  rw [hO] at hhead
  obtain ⟨n, hn⟩ : ∃ n, n = num t.b x := ⟨_, rfl⟩
  obtain ⟨d, hd⟩ : ∃ d, d = den t.b x := ⟨_, rfl⟩
  obtain ⟨o, hoo⟩ : ∃ o, o = at0 t.outer i := ⟨_, rfl⟩
  rw [← hn, ← hd, ← hoo] at hH hU hhead
  simp only [svV, headC] at hhead ⊢
  refine enter Try.func34 rfl Try.ntmps34 rfl ?_; simp only [frame, Nat.zero_add, Nat.reduceAdd]
  repeat (first | (refine M0 ?_; first | refine SL ?_ | refine SB fun _ _ => ?_ | refine Y4 (Ev.call (f := 45) (ck rfl) rfl (fun w5 S5 => hhead w5 S5)) ?_ | refine Y4 (Ev.load_old tok rfl rfl hlg c15) ?_) | (refine M1 ?_; first | refine SC ?_ | refine SD ?_) | (refine M2 ?_; refine SE ?_) | (refine M3 ?_; first | refine SG ?_ | refine SF ?_ | refine YF (Ev.call (f := 45) (ck rfl) rfl (fun w5 S5 => hhead w5 S5)) ?_ | refine YF (Ev.load_old tok rfl rfl hlg c15) ?_) | (refine M4 ?_; refine SR ?_) | (refine M5 ?_; first | exact M7 | refine YM ?_ | refine YN ?_ ?_))
  rename_i g13 hg13
  refine XC.loopk [3, 4, 13, 25, 26] rfl (fun s : Nat × Int × Int => [(27, .int .i64 (s.1 : Nat)), (10, .int .i64 s.2.1), (11, .int .i64 s.2.2)]) (fun _ => [(g13, _)]) (fun _ => w) (fun s => s.1 ≤ t.devs.length ∧ useTo n d o t.devs before on s.1 = some s.2 ∧ (0 ≤ s.2.1 ∧ s.2.1 ≤ 800000000000000000 * s.1) ∧ 0 ≤ s.2.2 ∧ s.2.2 ≤ 5000000000 * s.1) (fun s => t.devs.length - s.1) (0, 0, 0) ⟨Nat.zero_le _, rfl, by simp, by simp⟩ ZZSUB (fun _ h => h) ?_
  rintro ⟨k, f, e⟩ ⟨hk, hto, hfb, heb⟩
  simp only at hk hto hfb heb
  dsimp only [List.cons_append, List.nil_append]
  repeat (first | (refine M0 ?_; first | refine SL ?_ | refine SB fun _ _ => ?_) | (refine M1 ?_; first | refine SC ?_ | refine SD ?_) | (refine M2 ?_; refine SE ?_) | (refine M3 ?_; first | refine SG ?_ | refine SF ?_) | (refine M4 ?_; refine SR ?_) | (refine M5 ?_; first | exact M7 | refine YM ?_ | refine YN ?_ ?_))
  refine XC.cond _ rfl (fun h1 => ?_) (fun h1 => ?_)
  rotate_left
  · have hkn : k = t.devs.length := by have := of_decide_eq_false h1; omega
    subst hkn
    repeat (first | (refine M0 ?_; first | refine SL ?_ | refine SB fun _ _ => ?_) | (refine M1 ?_; first | refine SC ?_ | refine SD ?_) | (refine M2 ?_; refine SE ?_) | (refine M3 ?_; first | refine SG ?_ | refine SF ?_) | (refine M4 ?_; refine SR ?_) | (refine M5 ?_; first | exact M7 | refine YM ?_ | refine YN ?_ ?_))
    refine XE.retg tok Try.results34 rfl (by simp only [and_self, and_true]) (fun w' S => ?_)
    rw [hU, hto]
    exact ⟨rfl, S.toBelow⟩
  have hkn : k < t.devs.length := by have := of_decide_eq_true h1; omega
  obtain ⟨ad, rfl, hld⟩ := hall.addr (by decide) (by omega)
  obtain ⟨ap, rfl, hlp⟩ := hb.addr (by decide) (by omega)
  obtain ⟨aq, rfl, hlq⟩ := hf.addr (by decide) (by omega)
  have hbk := boolAt hb (k := k) (by omega)
  have hfk := boolAt hf (k := k) (by omega)
  have hdk := hall.elem (List.getElem?_eq_getElem hkn) 0 (devV t.devs[k]) rfl
  rw [add_add, Nat.add_zero] at hdk
  have hgd : t.devs[k]?.getD d0 = t.devs[k] := by rw [List.getElem?_eq_getElem hkn]; rfl
  have hok := ho.dev _ (List.getElem_mem hkn)
  obtain ⟨z, hz⟩ : ∃ z, z = t.devs[k] := ⟨_, rfl⟩
  rw [← hz] at hdk hgd hok
  have hdk' : w.cell? (ad.add (k * 1)) = some (devV z) := hdk
  obtain ⟨f1, m1, k1, c1⟩ := dev_flow hH hok
  obtain ⟨f2, m2, k2, c2⟩ := dev_energy (bl before k) (bl on k) hH hok
  have heb2 := energy_bd (bl before k) (bl on k) hH hok
  have hon' : bl on k = true → _ := fun h => useTo_on hto h
  have hoff' : bl on k = false → _ := fun h => useTo_off hto h
  rw [hgd] at hon' hoff'
  have hfbd := fun f => flow_bd (f := f) hH hok
  simp only [headC] at c1 c2
  repeat (first | (refine M0 ?_; first | refine SL ?_ | refine SB fun _ _ => ?_ | refine Y4 (Ev.load_old tok rfl rfl (add_lt hld) hdk') ?_ | refine Y4 (Ev.load_old tok rfl rfl (add_lt hlq) hfk) ?_) | (refine M1 ?_; first | refine SC ?_ | refine SD ?_) | (refine M2 ?_; refine SE ?_) | (refine M3 ?_; first | refine SG ?_ | refine SF ?_ | refine YF (Ev.load_old tok rfl rfl (add_lt hld) hdk') ?_ | refine YF (Ev.load_old tok rfl rfl (add_lt hlq) hfk) ?_) | (refine M4 ?_; refine SR ?_) | (refine M5 ?_; first | exact M7 | refine YM ?_ | refine YN ?_ ?_))
  cases hbo : bl on k with
  | true =>
    have hon2 := hon' hbo
    rw [hbo] at c2 heb2 hfk
    repeat (first | (refine M0 ?_; first | refine SL ?_ | refine SB fun _ _ => ?_ | refine Y4 (Ev.load_old tok rfl rfl (add_lt hlq) hfk) ?_) | (refine M1 ?_; first | refine SC ?_ | refine SD ?_) | (refine M2 ?_; refine SE ?_) | (refine M3 ?_; first | refine SG ?_ | refine SF ?_ | refine YF (Ev.load_old tok rfl rfl (add_lt hlq) hfk) ?_) | (refine M4 ?_; refine SR ?_) | (refine M5 ?_; first | exact M7 | refine YM ?_ | refine YN ?_ ?_))
    cases hfw : z.flow n d o with
    | none =>
      rw [hfw] at hon2 c1
      simp only [flowV] at c1
      repeat (first | (refine M0 ?_; first | refine SL ?_ | refine SB fun _ _ => ?_ | refine Y4 (Ev.invoke (t := z.ty) (v := .agg ⟨z.c⟩) m1 k1 rfl rfl (fun w S => c1 w)) ?_) | (refine M1 ?_; first | refine SC ?_ | refine SD ?_) | (refine M2 ?_; refine SE ?_) | (refine M3 ?_; first | refine SG ?_ | refine SF ?_ | refine YF (Ev.invoke (t := z.ty) (v := .agg ⟨z.c⟩) m1 k1 rfl rfl (fun w S => c1 w)) ?_) | (refine M4 ?_; refine SR ?_) | (refine M5 ?_; first | exact M7 | refine YM ?_ | refine YN ?_ ?_))
      refine XE.retg tok Try.results34 rfl (by simp only [and_self, and_true]) (fun w' S => ?_)
      rw [hU, useTo_none (by omega : k + 1 ≤ t.devs.length) hon2]
      exact ⟨rfl, S.toBelow⟩
    | some y =>
      have hy := hfbd y hfw
      rw [hfw] at hon2 c1
      simp only [flowV] at c1 hon2
      repeat (first | (refine M0 ?_; first | refine SL ?_ | refine SB fun _ _ => ?_ | refine Y4 (Ev.invoke (t := z.ty) (v := .agg ⟨z.c⟩) m1 k1 rfl rfl (fun w S => c1 w)) ?_ | refine Y4 (Ev.load_old tok rfl rfl (add_lt hlp) hbk) ?_ | refine Y4 (Ev.load_old tok rfl rfl (add_lt hlq) hfk) ?_ | refine Y4 (Ev.makeFunc rfl rfl) ?_ | refine Y4 (Ev.nilCheckM m2 rfl) ?_ | refine Y4 (Ev.invoke (t := z.ty) (v := .agg ⟨z.c⟩) m2 k2 rfl rfl (fun w S => c2 w)) ?_) | (refine M1 ?_; first | refine SC ?_ | refine SD ?_) | (refine M2 ?_; refine SE ?_) | (refine M3 ?_; first | refine SG ?_ | refine SF ?_ | refine YF (Ev.invoke (t := z.ty) (v := .agg ⟨z.c⟩) m1 k1 rfl rfl (fun w S => c1 w)) ?_ | refine YF (Ev.load_old tok rfl rfl (add_lt hlp) hbk) ?_ | refine YF (Ev.load_old tok rfl rfl (add_lt hlq) hfk) ?_ | refine YF (Ev.makeFunc rfl rfl) ?_ | refine YF (Ev.nilCheckM m2 rfl) ?_ | refine YF (Ev.invoke (t := z.ty) (v := .agg ⟨z.c⟩) m2 k2 rfl rfl (fun w S => c2 w)) ?_) | (refine M4 ?_; refine SR ?_) | (refine M5 ?_; first | exact M7 | refine YM ?_ | refine YN ?_ ?_))
      exact XE.round (s := (k, f, e)) (k + 1, f + y, e + z.energy n d o (bl before k) true) ⟨hkn, hon2, by simp only; omega, by simp only; omega⟩ (by simp only; omega) ZZSUB (fun _ h => h)
  | false =>
    have hoff2 := hoff' hbo
    rw [hbo] at c2 heb2 hfk
    repeat (first | (refine M0 ?_; first | refine SL ?_ | refine SB fun _ _ => ?_ | refine Y4 (Ev.load_old tok rfl rfl (add_lt hlp) hbk) ?_ | refine Y4 (Ev.load_old tok rfl rfl (add_lt hlq) hfk) ?_ | refine Y4 (Ev.makeFunc rfl rfl) ?_ | refine Y4 (Ev.nilCheckM m2 rfl) ?_ | refine Y4 (Ev.invoke (t := z.ty) (v := .agg ⟨z.c⟩) m2 k2 rfl rfl (fun w S => c2 w)) ?_) | (refine M1 ?_; first | refine SC ?_ | refine SD ?_) | (refine M2 ?_; refine SE ?_) | (refine M3 ?_; first | refine SG ?_ | refine SF ?_ | refine YF (Ev.load_old tok rfl rfl (add_lt hlp) hbk) ?_ | refine YF (Ev.load_old tok rfl rfl (add_lt hlq) hfk) ?_ | refine YF (Ev.makeFunc rfl rfl) ?_ | refine YF (Ev.nilCheckM m2 rfl) ?_ | refine YF (Ev.invoke (t := z.ty) (v := .agg ⟨z.c⟩) m2 k2 rfl rfl (fun w S => c2 w)) ?_) | (refine M4 ?_; refine SR ?_) | (refine M5 ?_; first | exact M7 | refine YM ?_ | refine YN ?_ ?_))
    exact XE.round (s := (k, f, e)) (k + 1, f, e + z.energy n d o (bl before k) false) ⟨hkn, hoff2, by simp only; omega, by simp only; omega⟩ (by simp only; omega) ZZSUB (fun _ h => h)
end Go.Proofs.Ytlfjdbilblfknaa.X
/-
  The walk of do (runoff).
-/
namespace Go.Proofs.Ytlfjdbilblfknaa.X
open Go Go.RowKit Go.Proofs.Ytlfjdbilblfknaa.Bs
set_option linter.unusedVariables false
def doneC (q : SV) (d : Done) : List Value := [.int .i64 d.s.vol, .slice q.A q.n q.c, .int .i64 d.out, .int .i64 d.energy, .int .i64 d.cost]
def DoV (E : Int) (D : Done) (v : Value) (new : List Held) : Prop := ∃ q : SV, v = .tuple ⟨[.agg ⟨doneC q D⟩, .int .i64 E]⟩ ∧ new = [hInts q D.s.fil]
def StepMV (b : Bas) (s : Sta) (t : Tick) (v : Value) (new : List Held) : Prop := ∃ q r : SV, v = .tuple ⟨[staV q (outS b s t), floV r (outF b s t), .int .i64 (stepE b s t)]⟩ ∧ new = [hInts q (outS b s t).fil, hInts r (outF b s t).taken]
theorem Step_madeR {p : BV} {b : Bas} {q : SV} {s : Sta} {t : Tick} {w : World} (hb : BasAt w w.heap.size p b) (hq : IntsAt w (Lt w.heap.size) q s.fil) (hc : chkE b = 0) (hs : StaOk b s) :
    Calls Try.prog 49 #[basV p b, staV q s, tickV t] w (Made w (StepMV b s t)) :=
  (Step_any (t := t) hb hq).mono fun e w' ⟨v, h1, ⟨q2, r2, h2, h3, h4, h5⟩⟩ => by
    obtain ⟨f1, f2, f3⟩ := full_0 (t := t) (staErr_ok hc hs)
    rw [f1, f2, f3] at h2
    rw [f2] at h3
    rw [f3] at h4
    exact ⟨v, _, h1, ⟨q2, r2, h2, rfl⟩, fun x hx => by
      rcases List.mem_cons.1 hx with rfl | hx
      · exact h3
      · rw [List.mem_singleton.1 hx]; exact h4, h5⟩
/-- where a planner stands in a walk. -/
structure Plr (w : World) (g gt gm : Nat) (v : RTV) (r : SV) (t : RTk) : Prop where
  p : PlnAt w (Lt w.heap.size) g gt gm v r t
  t : TskAt w w.heap.size v t
theorem Plr.sys {w w' : World} {g gt gm : Nat} {v : RTV} {r : SV} {t : RTk} {L : Lo} (h : Plr w g gt gm v r t) (S : Sys w.heap.size w L w') : Plr w' g gt gm v r t :=
  ⟨(h.p.keep fun k hk => S.old k hk fun e he e1 => by have := (S.own e he).1; have hk' : k < w.heap.size := hk; omega).mono fun k hk => Nat.lt_of_lt_of_le hk S.size, h.t.sys S⟩
theorem Plr.below {w w' : World} {g gt gm : Nat} {v : RTV} {r : SV} {t : RTk} (h : Plr w g gt gm v r t) (hb : Below w.heap.size w w') : Plr w' g gt gm v r t := h.sys (Sys.ofBelow hb)
theorem chk_rt {t : RTk} (h : rtE t = 0) : chkE t.b = 0 := by
  unfold rtE chkT at h
  split at h
  · rename_i h1; exact absurd h h1
  · rename_i h1; simpa using h1
theorem useTo_bd {n d o : Int} {ds : List Dev} {b f : List Bool} (h : HeadOk n d o) (hd : ∀ x, x ∈ ds → DevOk x) : ∀ {k : Nat} {p : Int × Int}, k ≤ ds.length → useTo n d o ds b f k = some p → 0 ≤ p.1 ∧ 0 ≤ p.2 ∧ p.2 ≤ 5000000000 * k := by
  intro k
  induction k with
  | zero => intro p _ h; cases h; simp
  | succ k ih =>
    intro p hk hp
    cases h1 : useTo n d o ds b f k with
    | none => rw [useTo_none (Nat.le_succ k) h1] at hp; cases hp
    | some q =>
      have hq := ih (by omega) h1
      have hx : ds[k]?.getD d0 ∈ ds := by rw [List.getElem?_eq_getElem (by omega)]; exact List.getElem_mem _
      have hb := fun y => energy_bd (bl b k) y h (hd _ hx)
      cases h2 : bl f k with
      | true =>
        rw [useTo_on h1 h2] at hp
        cases h3 : (ds[k]?.getD d0).flow n d o with
        | none => rw [h3] at hp; cases hp
        | some x =>
          rw [h3] at hp
          cases hp
          have hf := flow_bd h (hd _ hx) h3
          have := hb true
          simp only
          omega
      | false =>
        rw [useTo_off h1 h2] at hp
        cases hp
        have := hb false
        simp only
        omega
theorem use_bd {t : RTk} (h : RtOk t) {x : Int} (hx : (t.b.row 0).vol ≤ x ∧ x ≤ 1000000000) {i : Nat} (hi : i < t.outer.length) {b f : List Bool} {p : Int × Int} (e : t.use x i b f = some p) : (0 ≤ p.1 ∧ p.1 ≤ 10000000) ∧ 0 ≤ p.2 ∧ p.2 ≤ 20000000000 := by
  unfold RTk.use at e
  cases h1 : useTo (num t.b x) (den t.b x) (at0 t.outer i) t.devs b f t.devs.length with
  | none => rw [h1] at e; cases e
  | some q =>
    rw [h1] at e
    obtain ⟨a, c⟩ := q
    simp only [Option.some.injEq] at e
    subst e
    have := useTo_bd (use_head h hx hi) h.dev (Nat.le_refl _) h1
    have hm4 : t.devs.length ≤ 4 := by have := t.devs_len; unfold RTk.many at this; have := h.s2; have := h.p2; omega
    simp only at this ⊢
    omega
/-- what a choice leads to is a state of the basin. -/
theorem do_sta {t : RTk} (h : RtOk t) {s : Sta} (hs : StaOk t.b s) {i : Nat} (hi : i < t.outer.length) {b f : List Bool} (e : t.doE s i b f = 0) : StaOk t.b (t.doD s i b f).s ∧ 0 ≤ (t.doD s i b f).cost ∧ (t.doD s i b f).cost ≤ 200000000000000 ∧ ∃ p, t.use s.vol i b f = some p ∧ stepE t.b s (t.tickOf i p.1) = 0 ∧ t.doD s i b f = ⟨outS t.b s (t.tickOf i p.1), p.1, p.2, p.2 * at0 t.prices i⟩ := by
  have e' := e
  unfold RTk.doE at e'
  cases h1 : t.use s.vol i b f with
  | none => rw [h1] at e'; cases e'
  | some p =>
    rw [h1] at e'
    obtain ⟨a, c⟩ := p
    simp only at e'
    split at e'
    · cases e'
    · rename_i h2
      have h2' : stepE t.b s (t.tickOf i a) = 0 := by simpa using h2
      have hd : t.doD s i b f = ⟨outS t.b s (t.tickOf i a), a, c, c * at0 t.prices i⟩ := by
        unfold RTk.doD
        rw [if_pos e, h1]
      have hb := use_bd h hs.vol hi h1
      simp only at hb
      have hp := h.pri_ i hi
      have hm := mul_bd (X := 20000000000) (Y := 10000) (x := c) (y := at0 t.prices i) (by omega) (by omega)
      have hm0 : 0 ≤ c * at0 t.prices i := Int.mul_nonneg (by omega) hp.1
      rw [hd]
      refine ⟨?_, hm0, by simp only; omega, (a, c), rfl, h2', rfl⟩
      have := stepS_ok h.ok hs h2'
      rw [← outS_0 h2'] at this
      exact this
/-- the next operation calls what is held in this slot. -/
theorem XL.at_callv {P : Program} {N B : Nat} {w0 : World} {ds : List Deferred} {Q : Exit → Act → World → Prop} {F : Fr} {L : Lo} {ops : Array Oper} {rest : List Oper} {ty : TypeId} {p : String} {af : Array Edge} {d : Nat} (t : Nat) {args : Array Operand} {ats : Array TypeId} (k : XL P N B w0 ds Q ops ({ dst := some d, op := .call { callee := .value (.tmp t), args := args, argTypes := ats }, type := ty, pos := p, after := af, guard := none } :: rest) F L) :
    XL P N B w0 ds Q ops ({ dst := some d, op := .call { callee := .value (.tmp t), args := args, argTypes := ats }, type := ty, pos := p, after := af, guard := none } :: rest) F L := k
theorem below_cell {B : Nat} {w w' : World} (h : Below B w w') {ad : Addr} (hb : ad.block < B) : w'.cell? ad = w.cell? ad := by unfold World.cell?; rw [h.block _ hb]
set_option maxHeartbeats 16000000 in
theorem do_made {g gt gm : Nat} {v : RTV} {r p q sq : SV} {t : RTk} {s : Sta} {i : Nat} {before on : List Bool} {w : World} (hp : Plr w g gt gm v r t) (hc0 : chkE t.b = 0) (ho : RtOk t) (hq : IntsAt w (Lt w.heap.size) sq s.fil) (hs : StaOk t.b s) (hi : i < t.outer.length)
    (hb : ListAt boolK w (Lt w.heap.size) p before) (hbl : before.length = t.devs.length) (hf : ListAt boolK w (Lt w.heap.size) q on) (hfl : on.length = t.devs.length) :
    Calls Try.prog 39 #[.pointer (some ⟨g, 0, none⟩), staV sq s, .int .i64 (i : Nat), svV p, svV q] w (Made w (DoV (t.doE s i before on) (t.doD s i before on))) := by
  obtain ⟨hlg, hc⟩ := plnCell hp.p
  have huse := fun {L : Lo} (w5 : World) (S5 : Sys w.heap.size w L w5) => use_any (hp.sys S5).p (hp.sys S5).t ho hs.vol hi (hb.arg S5) hbl (hf.arg S5) hfl
  have hhead := fun {L : Lo} {W : World} (y : Int) (hy : (t.b.row 0).vol ≤ y ∧ y ≤ 1000000000) (hpW : Plr W g gt gm v r t) (B : Nat) (hB : Below W.heap.size W W) (w5 : World) (S5 : Sys W.heap.size W L w5) => head_any (i := t.outer.length) (x := y) (hpW.sys S5).p (hpW.sys S5).t ho.ok hy
  have hcb : ∀ j u, (basC v.p t.b)[j]? = some u → w.cell? ((⟨g, 0, none⟩ : Addr).add j) = some u := fun j u hj => by
    rw [add_off, Nat.zero_add]
    refine hc j u ?_
    have hj5 : j < (basC v.p t.b).length := (List.getElem?_eq_some_iff.1 hj).1
    show (basC v.p t.b ++ _)[j]? = some u
    rw [List.getElem?_append_left hj5]
    exact hj
  obtain ⟨⟨Ab, nb, cb, Ab2, nb2, cb2⟩, tq, ⟨Ao, no, co⟩, ⟨Ar, nr, cr⟩, ⟨Ac, nc, cc⟩, su, pu, ton⟩ := v
  have hout := hp.t.outer
  have hriv := hp.t.river
  have hpri := hp.t.prices
  simp only at hout hriv hpri hcb
  have lo := hout.len
  have lr := hriv.len
  have lc := hpri.len
  simp only at lo lr lc
  subst lo lr lc
  have hrl := ho.river
  have hpl := ho.prices
  obtain ⟨ao, rfl, hlo, hco⟩ := hout.at_ (by omega)
  obtain ⟨ar, rfl, hlr, hcr⟩ := hriv.at_ (by omega)
  have dO := hco i hi
  have dR := hcr i (by omega)
  have c7 : w.cell? ⟨g, 7, none⟩ = some (.slice (some ao) t.outer.length co) := hc 7 _ rfl
  have c8 : w.cell? ⟨g, 8, none⟩ = some (.slice (some ar) t.river.length cr) := hc 8 _ rfl
  have c10 : w.cell? ⟨g, 10, none⟩ = some (.int .i64 t.low) := hc 10 _ rfl
  have c11 : w.cell? ⟨g, 11, none⟩ = some (.int .i64 t.high) := hc 11 _ rfl
  have c16 : w.cell? ⟨g, 16, none⟩ = some (.func (.func 37) #[] #[.pointer (some ⟨gt, 0, none⟩)]) := hc 16 _ rfl
  have hE : t.doE s i before on = match t.use s.vol i before on with
    | none => 170
    | some (f, _) =>
      if stepE t.b s (t.tickOf i f) ≠ 0 then 173
      else if num t.b (outS t.b s (t.tickOf i f)).vol < t.low * den t.b (outS t.b s (t.tickOf i f)).vol then 171
      else if t.high * den t.b (outS t.b s (t.tickOf i f)).vol < num t.b (outS t.b s (t.tickOf i f)).vol then 172 else 0 := rfl
  have hD : t.doE s i before on ≠ 0 → t.doD s i before on = Done.zero := fun h => by unfold RTk.doD; rw [if_neg h]
  have hDs := do_sta ho hs hi (b := before) (f := on)
  simp only [staV, staC, svV, basC] at huse hcb ⊢
  refine enter Try.func39 rfl Try.ntmps39 rfl ?_; simp only [frame, Nat.zero_add, Nat.reduceAdd]
  repeat (first | (refine M0 ?_; first | refine SL ?_ | refine SB fun _ _ => ?_ | refine Y4 (Ev.call (f := 34) (ck rfl) rfl (fun w5 S5 => huse w5 S5)) ?_) | (refine M1 ?_; first | refine SC ?_ | refine SD ?_) | (refine M2 ?_; refine SE ?_) | (refine M3 ?_; first | refine SG ?_ | refine SF ?_ | refine YF (Ev.call (f := 34) (ck rfl) rfl (fun w5 S5 => huse w5 S5)) ?_) | (refine M4 ?_; refine SR ?_) | (refine M5 ?_; first | exact M7 | refine YM ?_ | refine YN ?_ ?_))
  rename_i g6 hg6 g10 hg10
  cases hu : t.use s.vol i before on with
  | none =>
    rw [hu] at hE
    have hE : t.doE s i before on = 170 := hE
    simp only [useV]
    repeat (first | (refine M0 ?_; first | refine SL ?_ | refine SB fun _ _ => ?_) | (refine M1 ?_; first | refine SC ?_ | refine SD ?_) | (refine M2 ?_; refine SE ?_) | (refine M3 ?_; first | refine SG ?_ | refine SF ?_) | (refine M4 ?_; refine SR ?_) | (refine M5 ?_; first | exact M7 | refine YM ?_ | refine YN ?_ ?_))
    refine XE.retg tok Try.results39 rfl (by simp only [and_self, and_true]) (fun w' S => ?_)
    rw [hE, hD (by rw [hE]; decide)]
    exact ⟨_, _, rfl, ⟨⟨none, 0, 0⟩, rfl, rfl⟩, fun x hx => by rw [List.mem_singleton.1 hx]; exact IntsAt.nil, S.toBelow⟩
  | some pr =>
  obtain ⟨f, e⟩ := pr
  rw [hu] at hE
  simp only at hE
  have hub := use_bd ho hs.vol hi hu
  simp only at hub
  simp only [useV]
  obtain ⟨tk, htk⟩ : ∃ tk, tk = t.tickOf i f := ⟨_, rfl⟩
  rw [← htk] at hE
  have htkv : tickV tk = .agg ⟨[.int .i64 (at0 t.outer i), .int .i64 (at0 t.river i), .int .i64 f]⟩ := by rw [htk]; rfl
  have hstep := fun {L : Lo} (w5 : World) (S5 : Sys w.heap.size w L w5) => Step_madeR (t := tk) (hp.t.bas.sys S5) (hq.arg S5) hc0 hs
  rw [htkv] at hstep
  simp only [basV, basC, staV, staC] at hstep
  repeat (first | (refine M0 ?_; first | refine SL ?_ | refine SB fun _ _ => ?_) | (refine M1 ?_; refine SC ?_) | (refine M2 ?_; refine SE ?_))
  refine XC.rebase (List.Sublist.refl _) (fun W0 S0 => ?_)
  have hB0 := S0.toBelow
  have hF0 : Fam W0 w.heap.size [g10, g6] [] [] := Fam.start S0.size
  have hk0 : ∀ k, k ∈ [g10, g6] → k < W0.heap.size := fun k hk => S0.keyLt k hk
  refine XC.cutn [0, 2, 3, 4, 6, 10, 12, 13] rfl (fun z : World × Nat × SV => [(15, .pointer (some ⟨z.2.1, 0, none⟩)), (17, .int .i64 (stepE t.b s tk))]) (fun z => [(z.2.1, cel 28 (staC z.2.2 (outS t.b s tk))), (g10, cel 66 [.int .i64 0, .slice none 0 0, .int .i64 0, .int .i64 0, .int .i64 0]), (g6, cel 28 [.int .i64 s.vol, .slice sq.A sq.n sq.c])]) (fun z => z.1) (fun z => Below w.heap.size w z.1 ∧ Fam z.1 w.heap.size [z.2.1, g10, g6] [] [hInts z.2.2 (outS t.b s tk).fil] ∧ ∀ k, k ∈ [z.2.1, g10, g6] → k < z.1.heap.size) ?_ ?_
  · refine XC.drawRS _ [(g10, cel 66 [.int .i64 0, .slice none 0 0, .int .i64 0, .int .i64 0, .int .i64 0]), (g6, cel 28 [.int .i64 s.vol, .slice sq.A sq.n sq.c])] [0, 1, 2, 3, 4, 5, 6, 7, 8, 9, 10, 11, 12, 13, 14, 15, 16, 17, 18, 19, 20, 21, 22, 23] [24, 25, 26, 27, 28, 29, 30, 31, 32, 33] mixed (fun _ h => Sys.anchor2 (by assumption) h ZZSM) rfl (by kernel_rfl) ?_
    repeat (any_goals (first | (refine M0 ?_; first | refine SL ?_ | refine SB fun _ _ => ?_ | refine Y4 (Ev.load_old_agg tok [.slice Ab nb cb, .int .i64 t.b.leak, .int .i64 t.b.crest, .int .i64 t.b.over, .slice Ab2 nb2 cb2] rfl rfl rfl hlg hcb) ?_ | refine Y4 (Ev.load_old tok rfl rfl hlg c7) ?_ | refine Y4 (Ev.load_old tok rfl rfl hlg c8) ?_ | refine Y4 (Ev.load_old tok rfl rfl (add_lt hlo) dO) ?_ | refine Y4 (Ev.load_old tok rfl rfl (add_lt hlr) dR) ?_ | (refine XL.at_call 49 ?_; refine XL.callF (StepMV t.b s tk) (ck rfl) rfl rfl (by assumption) (by assumption) (by assumption) (fun w1 S1 _ hB1 => hstep w1 (Sys.ofBelow hB1)) (fun w2 x new hR hF2 hB2 hk2 => ?_); obtain ⟨q2, r2, rfl, rfl⟩ := hR; simp only [staV, staC, floV, floC])) | (refine M1 ?_; refine SC ?_) | (refine M2 ?_; refine SE ?_) | (refine M3 ?_; first | refine SG ?_ | refine SF ?_ | refine YF (Ev.load_old_agg tok [.slice Ab nb cb, .int .i64 t.b.leak, .int .i64 t.b.crest, .int .i64 t.b.over, .slice Ab2 nb2 cb2] rfl rfl rfl hlg hcb) ?_ | refine YF (Ev.load_old tok rfl rfl hlg c7) ?_ | refine YF (Ev.load_old tok rfl rfl hlg c8) ?_ | refine YF (Ev.load_old tok rfl rfl (add_lt hlo) dO) ?_ | refine YF (Ev.load_old tok rfl rfl (add_lt hlr) dR) ?_) | (refine M4 ?_; refine SR ?_) | (refine M5 ?_; first | exact M7 | refine YM ?_ | refine YN ?_ ?_)))
    any_goals (repeat (first | exact AnyR.nil | refine AnyR.skip rfl ?_))
    all_goals
      refine XE.leafW (fun w9 S9 => ?_)
      apply Exists.intro (w9, _, q2)
      refine ⟨?pre, ?sub, ?sys⟩
      case sub => repeat (first | exact Sub.nil | refine Sub.cons rfl ?_)
      case sys => exact S9.rebase ZZSM
      case pre => exact ⟨Below.trans (by assumption) S9.toBelow, Fam.forget (Fam.add (Fam.atEnd (by assumption) S9 ZZHL) (fun k hk => by left; simp only [List.mem_cons, List.not_mem_nil, or_false] at hk; simp only [List.map_cons, List.map_nil, List.mem_append, List.mem_cons, List.not_mem_nil, or_false]; omega)) (fun x hx => by simp only [List.mem_cons, List.not_mem_nil, or_false] at hx; subst hx; simp), fun k hk => S9.keyLt k (by simp only [List.map_cons, List.map_nil, List.mem_cons, List.not_mem_nil, or_false] at hk ⊢; omega)⟩
  rintro ⟨W1, g15, q1⟩ ⟨hB1, hF1, hk1⟩
  simp only at hB1 hF1 hk1
  dsimp only [List.cons_append, List.nil_append]
  refine XC.hint 15 2 ?_
  repeat (first | (refine M0 ?_; first | refine SL ?_ | refine SB fun _ _ => ?_) | (refine M1 ?_; refine SC ?_) | (refine M2 ?_; refine SE ?_))
  refine XC.cond _ rfl (fun h1 => ?_) (fun h1 => ?_)
  · repeat (first | (refine M0 ?_; first | refine SL ?_ | refine SB fun _ _ => ?_) | (refine M1 ?_; refine SC ?_) | (refine M2 ?_; refine SE ?_))
    have hE3 : t.doE s i before on = 173 := by rw [hE, if_pos (by simpa using h1)]
    refine XE.retg tok Try.results39 rfl (by simp only [and_self, and_true]) (fun w' S => ?_)
    rw [hE3, hD (by rw [hE3]; decide)]
    exact ⟨_, _, rfl, ⟨⟨none, 0, 0⟩, rfl, rfl⟩, fun x hx => by rw [List.mem_singleton.1 hx]; exact IntsAt.nil, hB1.trans S.toBelow⟩
  have hs0 : stepE t.b s tk = 0 := by simpa using h1
  rw [if_neg (by simpa using hs0)] at hE
  have hso : StaOk t.b (outS t.b s tk) := by
    have := stepS_ok ho.ok hs hs0
    rw [← outS_0 hs0] at this
    exact this
  have hhead := fun {L : Lo} (w5 : World) (S5 : Sys w.heap.size W1 L w5) => head_any (i := t.outer.length) (x := (outS t.b s tk).vol) (hp.below (hB1.trans S5.toBelow)).p (hp.below (hB1.trans S5.toBelow)).t ho.ok hso.vol
  have hO : outI t t.outer.length = 0 := by unfold outI; rw [if_neg (Nat.lt_irrefl _)]
  rw [hO] at hhead
  have hR := ho.ok.rowsOk
  have hnb := num_bd hR hso.vol
  have hdb := parts_bd hR hso.vol
  have hdp := den_pos hR (outS t.b s tk).vol
  obtain ⟨y, hy⟩ : ∃ y, y = (outS t.b s tk).vol := ⟨_, rfl⟩
  obtain ⟨n, hn⟩ : ∃ n, n = num t.b (outS t.b s tk).vol := ⟨_, rfl⟩
  obtain ⟨d, hd⟩ : ∃ d, d = den t.b (outS t.b s tk).vol := ⟨_, rfl⟩
  rw [← hn, ← hd] at hhead hE
  rw [← hn] at hnb
  rw [← hd] at hdb hdp
  rw [← hy] at hhead
  have hl := ho.low
  have hh := ho.high
  have hrow0 := (ho.ok.level 0 (by have := ho.ok.n2; omega)).1
  have hm1 := mul_bd (X := 20000) (Y := 1000000000) (x := t.low) (y := d) (by omega) (by omega)
  have hm2 := mul_bd (X := 20000) (Y := 1000000000) (x := t.high) (y := d) (by omega) (by omega)
  have c7' := (below_cell hB1 (ad := ⟨g, 7, none⟩) hlg).trans c7
  have c10' := (below_cell hB1 (ad := ⟨g, 10, none⟩) hlg).trans c10
  have c11' := (below_cell hB1 (ad := ⟨g, 11, none⟩) hlg).trans c11
  have c16' := (below_cell hB1 (ad := ⟨g, 16, none⟩) hlg).trans c16
  simp only [headC] at hhead
  simp only [staC]
  rw [← hy]
  repeat (first | (refine M0 ?_; first | refine SL ?_ | refine SB fun _ _ => ?_) | (refine M1 ?_; refine SC ?_) | (refine M2 ?_; refine SE ?_))
  refine XC.cutln [0, 2, 6, 10, 12, 13, 15] rfl (fun g18 : Nat => [(18, .pointer (some ⟨g18, 0, none⟩))]) (fun g18 => [(g18, cel 125 [.int .i64 n, .int .i64 d, .int .i64 0])]) (fun g18 => W1.heap.size ≤ g18) ?_ (fun g18 hg18 => ?_)
  · refine XC.drawR _ [0, 1, 2, 3, 4, 5, 6, 7, 8] [9, 10, 11] mixed (fun _ h => h) rfl (by kernel_rfl) ?_
    repeat (any_goals (first | (refine M0 ?_; first | refine SL ?_ | refine SB fun _ _ => ?_ | refine Y4 (Ev.load_old tok rfl rfl hlg c7') ?_ | refine Y4 (Ev.call (f := 45) (ck rfl) rfl (fun w5 S5 => hhead w5 S5)) ?_) | (refine M1 ?_; refine SC ?_) | (refine M2 ?_; refine SE ?_) | (refine M3 ?_; first | refine SG ?_ | refine SF ?_ | refine YF (Ev.load_old tok rfl rfl hlg c7') ?_ | refine YF (Ev.call (f := 45) (ck rfl) rfl (fun w5 S5 => hhead w5 S5)) ?_) | (refine M4 ?_; refine SR ?_) | (refine M5 ?_; first | exact M7 | refine YM ?_ | refine YN ?_ ?_)))
    any_goals (repeat (first | exact AnyR.nil | refine AnyR.skip rfl ?_))
    all_goals exact XE.leaf _ ZZSUB (fun _ S' => by first | exact S' | exact S'.perm (by repeat (first | exact List.Perm.refl _ | refine perm1 ?_ | refine List.Perm.cons _ ?_ | refine perm2 ?_)) | exact (S'.pop (by assumption)) | exact (S'.pop2 (by assumption))) (by assumption)
  dsimp only [List.cons_append, List.nil_append]
  refine XC.hint 18 3 (XC.hint 15 2 ?_)
  repeat (first | (refine M0 ?_; first | refine SL ?_ | refine SB fun _ _ => ?_ | refine Y4 (Ev.load_old tok rfl rfl hlg c10') ?_) | (refine M1 ?_; first | refine SC ?_ | refine SD ?_) | (refine M2 ?_; refine SE ?_) | (refine M3 ?_; first | refine SG ?_ | refine SF ?_ | refine YF (Ev.load_old tok rfl rfl hlg c10') ?_) | (refine M4 ?_; refine SR ?_) | (refine M5 ?_; first | exact M7 | refine YM ?_ | refine YN ?_ ?_))
  refine XC.cond _ rfl (fun h2 => ?_) (fun h2 => ?_)
  · repeat (first | (refine M0 ?_; first | refine SL ?_ | refine SB fun _ _ => ?_) | (refine M1 ?_; refine SC ?_) | (refine M2 ?_; refine SE ?_))
    have hE4 : t.doE s i before on = 171 := by rw [hE, if_pos (by simpa using h2)]
    refine XE.retg tok Try.results39 rfl (by simp only [and_self, and_true]) (fun w' S => ?_)
    rw [hE4, hD (by rw [hE4]; decide)]
    exact ⟨_, _, rfl, ⟨⟨none, 0, 0⟩, rfl, rfl⟩, fun x hx => by rw [List.mem_singleton.1 hx]; exact IntsAt.nil, hB1.trans S.toBelow⟩
  rw [if_neg (by simpa using h2)] at hE
  repeat (first | (refine M0 ?_; first | refine SL ?_ | refine SB fun _ _ => ?_ | refine Y4 (Ev.load_old tok rfl rfl hlg c11') ?_) | (refine M1 ?_; first | refine SC ?_ | refine SD ?_) | (refine M2 ?_; refine SE ?_) | (refine M3 ?_; first | refine SG ?_ | refine SF ?_ | refine YF (Ev.load_old tok rfl rfl hlg c11') ?_) | (refine M4 ?_; refine SR ?_) | (refine M5 ?_; first | exact M7 | refine YM ?_ | refine YN ?_ ?_))
  refine XC.cond _ rfl (fun h3 => ?_) (fun h3 => ?_)
  · repeat (first | (refine M0 ?_; first | refine SL ?_ | refine SB fun _ _ => ?_) | (refine M1 ?_; refine SC ?_) | (refine M2 ?_; refine SE ?_))
    have hE5 : t.doE s i before on = 172 := by rw [hE, if_pos (by simpa using h3)]
    refine XE.retg tok Try.results39 rfl (by simp only [and_self, and_true]) (fun w' S => ?_)
    rw [hE5, hD (by rw [hE5]; decide)]
    exact ⟨_, _, rfl, ⟨⟨none, 0, 0⟩, rfl, rfl⟩, fun x hx => by rw [List.mem_singleton.1 hx]; exact IntsAt.nil, hB1.trans S.toBelow⟩
  rw [if_neg (by simpa using h3)] at hE
  repeat (first | (refine M0 ?_; first | refine SL ?_ | refine SB fun _ _ => ?_) | (refine M1 ?_; refine SC ?_) | (refine M2 ?_; refine SE ?_))
  obtain ⟨hso', _, _, pr2, hu2, _, hDD⟩ := hDs hE
  have hpr : pr2 = (f, e) := by rw [hu] at hu2; exact (Option.some.inj hu2).symm
  subst hpr
  rw [← htk] at hDD
  have hpi := ho.pri_ i hi
  have hmm := mul_bd (X := 20000000000) (Y := 10000) (x := e) (y := at0 t.prices i) (by omega) (by omega)
  have hprice := fun {L : Lo} (w5 : World) (S5 : Sys w.heap.size W1 L w5) => begin1_any (gt := gt) (v := _) (t := t) (i := i) (e := e) (w := w5) (hp.below (hB1.trans S5.toBelow)).p.ht ((hp.below (hB1.trans S5.toBelow)).t.prices) (by omega) (by unfold i64in; omega)
  have hv15 : ∀ (k : Nat) (u : Value), ([.int .i64 y, .slice q1.A q1.n q1.c] : List Value)[k]? = some u → ([.int .i64 y, .slice q1.A q1.n q1.c] : List Value)[0 + 0 + k]? = some u := fun k u h => by rw [show 0 + 0 + k = k by omega]; exact h
  refine XC.drawRS _ [(g18, _), (g15, _), (g6, _)] [0, 1, 2, 3, 4, 5, 6, 7, 8] [9, 10, 11, 12] mixed (fun _ h => Sys.anchor2 (by assumption) h ZZSM) rfl (by kernel_rfl) ?_
  repeat (any_goals (first | (refine M0 ?_; first | refine SL ?_ | refine SB fun _ _ => ?_ | refine Y4 (Ev.load_at_agg tok 1 (g := g15) (o := 0) (j := 0) rfl rfl rfl rfl hv15) ?_ | refine Y4 (Ev.load_old tok rfl rfl hlg c16) ?_ | (refine XL.at_callv 107 ?_; refine XL.step _ (Ev.callv (f := 37) (fst := []) (cap := [.pointer (some ⟨gt, 0, none⟩)]) (ck rfl) rfl rfl (fun w5 S5 => hprice w5 S5)) rfl ?_)) | (refine M1 ?_; refine SC ?_) | (refine M2 ?_; refine SE ?_) | (refine M3 ?_; first | refine SG ?_ | refine SF ?_ | refine YF (Ev.load_at_agg tok 1 (g := g15) (o := 0) (j := 0) rfl rfl rfl rfl hv15) ?_ | refine YF (Ev.load_old tok rfl rfl hlg c16) ?_) | (refine M4 ?_; refine SR ?_) | (refine M5 ?_; first | exact M7 | refine YM ?_ | refine YN ?_ ?_)))
  any_goals (repeat (first | exact AnyR.nil | refine AnyR.skip rfl ?_))
  all_goals
    refine XE.retg tok Try.results39 rfl (by simp only [and_self, and_true]) (fun w' S => ?_)
    rw [hE, hDD]
    subst hy
    exact ⟨_, _, rfl, ⟨q1, rfl, rfl⟩, fun x hx => by rw [List.mem_singleton.1 hx]; exact Fam.get (hF1.sys S ZZHL) (.head _), hB1.trans S.toBelow⟩
end Go.Proofs.Ytlfjdbilblfknaa.X
/-
  Where a plan has come to, as a key; what is known of a key (runoff).
-/
namespace Go.Proofs.Ytlfjdbilblfknaa.Bs
open Go.Proofs.Ytlfjdbilblfknaa.X
/-- the first k of a choice as bits. -/
def obits (l : List Bool) : Nat → Nat
  | 0 => 0
  | k + 1 => if bl l k = true then obits l k ||| 2 ^ k else obits l k
theorem obits_bit (l : List Bool) (j : Nat) : ∀ k, (obits l k).testBit j = (decide (j < k) && bl l j) := by
  intro k
  induction k with
  | zero => simp [obits]
  | succ k ih =>
    unfold obits
    by_cases h : bl l k = true
    · rw [if_pos h, Nat.testBit_or, ih, Nat.testBit_two_pow]
      rcases Nat.lt_trichotomy j k with h1 | h1 | h1
      · simp [h1, show j < k + 1 by omega, show ¬ k = j by omega]
      · subst h1; simp [h]
      · simp [show ¬ j < k by omega, show ¬ j < k + 1 by omega, show ¬ k = j by omega]
    · rw [if_neg h, ih]
      rcases Nat.lt_trichotomy j k with h1 | h1 | h1
      · simp [h1, show j < k + 1 by omega]
      · subst h1; simp at h; simp [h]
      · simp [show ¬ j < k by omega, show ¬ j < k + 1 by omega]
theorem obits_lt (l : List Bool) : ∀ k, obits l k < 2 ^ k := by
  intro k
  induction k with
  | zero => simp [obits]
  | succ k ih =>
    have h1 : (2 : Nat) ^ (k + 1) = 2 ^ k + 2 ^ k := by rw [Nat.pow_succ]; omega
    unfold obits
    split
    · exact Nat.or_lt_two_pow (by omega) (by have := Nat.two_pow_pos k; omega)
    · omega
theorem bl_ext {a b : List Bool} (hl : a.length = b.length) (h : ∀ j, j < a.length → bl a j = bl b j) : a = b := by
  refine List.ext_getElem hl fun j h1 h2 => ?_
  have := h j h1
  unfold bl at this
  rw [List.getElem?_eq_getElem h1, List.getElem?_eq_getElem h2] at this
  exact this
theorem obits_inj {a b : List Bool} (hl : a.length = b.length) (h : obits a a.length = obits b b.length) : a = b := by
  refine bl_ext hl fun j hj => ?_
  have h1 := obits_bit a j a.length
  have h2 := obits_bit b j b.length
  rw [h, h2] at h1
  simpa [hj, hl ▸ hj] using h1.symm
/-- a list of numbers, filled up to six. -/
def pad6 (l : List Int) : List Int := [at0 l 0, at0 l 1, at0 l 2, at0 l 3, at0 l 4, at0 l 5]
theorem pad6_inj {a b : List Int} (hl : a.length = b.length) (h6 : a.length ≤ 6) (h : pad6 a = pad6 b) : a = b := by
  refine List.ext_getElem hl fun j h1 h2 => ?_
  simp only [pad6, List.cons.injEq, and_true] at h
  have h3 : at0 a j = at0 b j := by
    obtain ⟨a0, a1, a2, a3, a4, a5⟩ := h
    have : j = 0 ∨ j = 1 ∨ j = 2 ∨ j = 3 ∨ j = 4 ∨ j = 5 := by omega
    rcases this with rfl | rfl | rfl | rfl | rfl | rfl <;> assumption
  unfold at0 at h3
  rw [List.getElem?_eq_getElem h1, List.getElem?_eq_getElem h2] at h3
  exact h3
def fdC (x : Fd) : Int := (x.map (·.1)).getD 0
def fdP (x : Fd) : Plan := (x.map (·.2)).getD []
end Go.Proofs.Ytlfjdbilblfknaa.Bs
namespace Go.Proofs.Ytlfjdbilblfknaa.X
open Go Go.RowKit Go.Proofs.Ytlfjdbilblfknaa.Bs
set_option linter.unusedVariables false
/-! ### the key -/
def placeC (i : Nat) (s : Sta) (b : List Bool) : List Value := [.int .i64 (i : Nat), .int .i64 s.vol, .int .i64 (obits b b.length : Nat), .int .i64 (at0 s.fil 0), .int .i64 (at0 s.fil 1), .int .i64 (at0 s.fil 2), .int .i64 (at0 s.fil 3), .int .i64 (at0 s.fil 4), .int .i64 (at0 s.fil 5)]
theorem placeC_inj {i i' : Nat} {s s' : Sta} {b b' : List Bool} (hb : b.length = b'.length) (hf : s.fil.length = s'.fil.length) (h6 : s.fil.length ≤ 6) (h : Value.agg ⟨placeC i s b⟩ = Value.agg ⟨placeC i' s' b'⟩) : i = i' ∧ s = s' ∧ b = b' := by
  simp only [placeC, Value.agg.injEq, Array.mk.injEq, List.cons.injEq, Value.int.injEq, true_and, and_true] at h
  obtain ⟨h1, h2, h3, h4⟩ := h
  have e3 := obits_inj hb (by omega)
  have e2 := pad6_inj hf h6 (by simp only [pad6, List.cons.injEq, and_true]; exact h4)
  obtain ⟨v, f⟩ := s
  obtain ⟨v', f'⟩ := s'
  simp only at h2 e2
  subst h2 e2
  exact ⟨by omega, rfl, e3⟩
theorem place_law : WideMaps.KeyLaw Try.prog 110 := deep_law (m := 4) (by decide) (by kernel_rfl) (by kernel_rfl) (by kernel_rfl)
theorem place_fuel : ∃ d, Try.prog.types.size + 1 = d + 3 := by
  have h : Nat.ble 2 Try.prog.types.size = true := by kernel_rfl
  have := Nat.le_of_ble_eq_true h
  exact ⟨Try.prog.types.size - 2, by omega⟩
def intT (P : Program) (t : TypeId) : Bool := match P.underlying t with
  | some (.int .i64) => P.cellsOf t == 1
  | _ => false
theorem keyLits_int {P : Program} {t : TypeId} (ht : intT P t = true) (d : Nat) {n : Int} (h : i64in n) : P.keyLits (d + 1) t [.int .i64 n] = some [.int .i64 n] := by
  unfold intT at ht
  split at ht
  · rename_i hu
    have h1 : (Lit.int .i64 n).wf = true := by
      have e1 : IntKind.i64.min = -9223372036854775808 := rfl
      have e2 : IntKind.i64.max = 9223372036854775807 := rfl
      unfold i64in at h
      simp only [Lit.wf, e1, e2, Bool.and_eq_true, decide_eq_true_eq]
      omega
    simp [Program.keyLits, hu, h1]
  · cases ht
theorem intT_1 {P : Program} {t : TypeId} (ht : intT P t = true) : P.cellsOf t = 1 := by
  unfold intT at ht
  split at ht
  · simpa using ht
  · cases ht
theorem keyLits_arr {P : Program} {t e : TypeId} {n d : Nat} {cs : List Value} (hu : P.underlying t = some (.array n e)) : P.keyLits (d + 1) t cs = if cs.length = P.cellsOf t then ((List.range n).mapM fun i => P.keyLits d e ((cs.drop (i * P.cellsOf e)).take (P.cellsOf e))).map List.flatten else none := by
  rw [Program.keyLits]
  simp only [hu]
theorem keyLits_str {P : Program} {t : TypeId} {fs : Array Field} {d : Nat} {cs : List Value} (hu : P.underlying t = some (.struct fs)) : P.keyLits (d + 1) t cs = if cs.length = P.cellsOf t ∧ fs.all (·.name != "_") = true then (fs.toList.mapM fun f => P.keyLits d f.type ((cs.drop f.offset).take (P.cellsOf f.type))).map List.flatten else none := by
  conv => lhs; unfold Program.keyLits
  simp only [hu]
def arr6T (P : Program) (t : TypeId) : Bool := match P.underlying t with
  | some (.array 6 e) => intT P e && P.cellsOf t == 6
  | _ => false
theorem keyLits_arr6 {P : Program} {t : TypeId} (ht : arr6T P t = true) (d : Nat) {a b c e f g : Int} (ha : i64in a) (hb : i64in b) (hc : i64in c) (he : i64in e) (hf : i64in f) (hg : i64in g) :
    P.keyLits (d + 2) t [.int .i64 a, .int .i64 b, .int .i64 c, .int .i64 e, .int .i64 f, .int .i64 g] = some [.int .i64 a, .int .i64 b, .int .i64 c, .int .i64 e, .int .i64 f, .int .i64 g] := by
  unfold arr6T at ht
  split at ht
  · rename_i el hu
    simp only [Bool.and_eq_true, beq_iff_eq] at ht
    have h1 := intT_1 ht.1
    rw [keyLits_arr hu]
    simp [ht.2, h1, List.range, List.range.loop, keyLits_int ht.1 d ha, keyLits_int ht.1 d hb, keyLits_int ht.1 d hc, keyLits_int ht.1 d he, keyLits_int ht.1 d hf, keyLits_int ht.1 d hg]
  · cases ht
def placeT (P : Program) (t : TypeId) : Bool := match P.underlying t with
  | some (.struct ⟨[a, b, c, d]⟩) => intT P a.type && (intT P b.type && (intT P c.type && (arr6T P d.type && (a.offset == 0 && (b.offset == 1 && (c.offset == 2 && (d.offset == 3 && (a.name != "_" && (b.name != "_" && (c.name != "_" && (d.name != "_" && (P.cellsOf d.type == 6 && (P.cellsOf t == 9 && P.keyType t)))))))))))))
  | _ => false
theorem keyOf_place {P : Program} {t : TypeId} (ht : placeT P t = true) {D : Nat} (hD : P.types.size + 1 = D + 3) {x y z a b c e f g : Int} (hx : i64in x) (hy : i64in y) (hz : i64in z) (ha : i64in a) (hb : i64in b) (hc : i64in c) (he : i64in e) (hf : i64in f) (hg : i64in g) :
    ∃ l, keyOf P t (.agg ⟨[.int .i64 x, .int .i64 y, .int .i64 z, .int .i64 a, .int .i64 b, .int .i64 c, .int .i64 e, .int .i64 f, .int .i64 g]⟩) = some l := by
  unfold placeT at ht
  split at ht
  · rename_i f1 f2 f3 f4 hu
    simp only [Bool.and_eq_true, beq_iff_eq, bne_iff_ne, ne_eq] at ht
    obtain ⟨t1, t2, t3, t4, o1, o2, o3, o4, n1, n2, n3, n4, c4, c9, hk⟩ := ht
    have h1 : P.keyLits (P.types.size + 1) t [.int .i64 x, .int .i64 y, .int .i64 z, .int .i64 a, .int .i64 b, .int .i64 c, .int .i64 e, .int .i64 f, .int .i64 g] = some [.int .i64 x, .int .i64 y, .int .i64 z, .int .i64 a, .int .i64 b, .int .i64 c, .int .i64 e, .int .i64 f, .int .i64 g] := by
      rw [hD]
      rw [keyLits_str hu]
      simp [c9, n1, n2, n3, n4, o1, o2, o3, o4, c4, intT_1 t1, intT_1 t2, intT_1 t3, keyLits_int t1 (D + 1) hx, keyLits_int t2 (D + 1) hy, keyLits_int t3 (D + 1) hz, keyLits_arr6 t4 D ha hb hc he hf hg]
    refine ⟨.string (keyBytes [.int .i64 x, .int .i64 y, .int .i64 z, .int .i64 a, .int .i64 b, .int .i64 c, .int .i64 e, .int .i64 f, .int .i64 g]), ?_⟩
    unfold keyOf
    simp only [hu]
    rw [if_pos (by simp [hk, Value.formed, hu, c9])]
    simp only [Value.cells]
    rw [h1]
    rfl
  · cases ht
theorem place_t : placeT Try.prog 110 = true := by kernel_rfl
/-- every place can be looked for. -/
theorem place_key {i : Nat} {s : Sta} {b : List Bool} (hi : i ≤ 100) (hv : i64in s.vol) (hb : b.length ≤ 4) (hf : ∀ j, i64in (at0 s.fil j)) : ∃ l, keyOf Try.prog 110 (.agg ⟨placeC i s b⟩) = some l := by
  obtain ⟨d, hd⟩ := place_fuel
  have h1 := obits_lt b b.length
  have h2 : 2 ^ b.length ≤ 16 := Nat.pow_le_pow_right (n := 2) (by decide) hb
  exact keyOf_place place_t hd (by unfold i64in; omega) hv (by unfold i64in; omega) (hf 0) (hf 1) (hf 2) (hf 3) (hf 4) (hf 5)
end Go.Proofs.Ytlfjdbilblfknaa.X
/-
  Plans and what is known of keys, in memory; what a range over the choices needs (runoff).
-/
namespace Go.Proofs.Ytlfjdbilblfknaa.X
open Go Go.RowKit Go.Proofs.Ytlfjdbilblfknaa.Bs
set_option linter.unusedVariables false
section
variable {P : Program} {T : TT} {N : Nat} {B : Nat} {w0 : World} {ds : List Deferred} {F : Fr} {L : Lo}
/-- one loop variable. -/
theorem Fits.params1 {a : Act} {t : Nat} {v : Value} (h : Fits N ds F a) (ht : Nat.blt t N = true) :
    Fits N [] ((t, v) :: F) { tmps := ((#[t] : Array Tmp).zip #[v]).foldl (fun s (p, y) => s.setIfInBounds p y) a.tmps, defers := [] } := by
  have h1 := h.put (v := v) ht
  have e : ((#[t] : Array Tmp).zip #[v]).foldl (fun s (p, y) => s.setIfInBounds p y) a.tmps = (a.put (some t) v).tmps := by
    simp [Act.put]
  rw [e]
  exact ⟨h1.size, rfl, h1.get⟩
end
/-! ### plans -/
def plnK : Kind (SV × List Bool) := ⟨31, 1, fun e => [svV e.1], fun e => [hList boolK e.1 e.2], fun _ => rfl⟩
def PlanAt (w : World) (ok : Nat → Prop) (q : SV) (p : Plan) : Prop := ∃ es : List (SV × List Bool), ListAt plnK w ok q es ∧ es.map (·.2) = p
theorem PlanAt.keep {w w' : World} {ok : Nat → Prop} {q : SV} {p : Plan} (h : PlanAt w ok q p) (hk : ∀ k, ok k → w'.heap[k]? = w.heap[k]?) : PlanAt w' ok q p := by
  obtain ⟨es, h1, h2⟩ := h
  exact ⟨es, h1.keep hk, h2⟩
theorem PlanAt.mono {w : World} {ok ok' : Nat → Prop} {q : SV} {p : Plan} (h : PlanAt w ok q p) (hk : ∀ k, ok k → ok' k) : PlanAt w ok' q p := by
  obtain ⟨es, h1, h2⟩ := h
  exact ⟨es, h1.mono hk, h2⟩
theorem PlanAt.nil {w : World} {ok : Nat → Prop} : PlanAt w ok ⟨none, 0, 0⟩ [] := ⟨[], ListAt.nil, rfl⟩
def hPlan (q : SV) (p : Plan) : Held := ⟨fun w ok => PlanAt w ok q p, PlanAt.keep, PlanAt.mono⟩
def tailC (q : SV) (x : Bs.Fd) : List Value := [.bool x.isSome, .int .i64 (fdC x), .slice q.A q.n q.c]
def tailV (q : SV) (x : Bs.Fd) : Value := .agg ⟨tailC q x⟩
/-! ### what is known -/
def MemE (t : RTk) (w : World) (ok : Nat → Prop) (e : Value × Value) : Prop := ∃ (i : Nat) (s : Sta) (b : List Bool) (q : SV), e.1 = .agg ⟨placeC i s b⟩ ∧ e.2 = tailV q (t.rest (t.n - i) s b) ∧ i < t.n ∧ StaOk t.b s ∧ b.length = t.m ∧ PlanAt w ok q (fdP (t.rest (t.n - i) s b))
def hMem (t : RTk) (kvs : List (Value × Value)) : Held := ⟨fun w ok => ∀ e, e ∈ kvs → MemE t w ok e,
  fun h hk e he => by obtain ⟨i, s, b, q, h1, h2, h3, h4, h5, h6⟩ := h e he; exact ⟨i, s, b, q, h1, h2, h3, h4, h5, h6.keep hk⟩,
  fun h hk e he => by obtain ⟨i, s, b, q, h1, h2, h3, h4, h5, h6⟩ := h e he; exact ⟨i, s, b, q, h1, h2, h3, h4, h5, h6.mono hk⟩⟩
theorem hMem_nil {t : RTk} {w : World} {ok : Nat → Prop} : (hMem t []).p w ok := fun e he => by cases he
theorem hMem_find {t : RTk} {kvs : List (Value × Value)} {w : World} {ok : Nat → Prop} {i : Nat} {s : Sta} {b : List Bool} {v : Value} (h : (hMem t kvs).p w ok) (hs : StaOk t.b s) (h6 : t.b.pols.length ≤ 6) (hb : b.length = t.m) (hv : (Value.agg ⟨placeC i s b⟩, v) ∈ kvs) :
    ∃ q, v = tailV q (t.rest (t.n - i) s b) ∧ PlanAt w ok q (fdP (t.rest (t.n - i) s b)) := by
  obtain ⟨i', s', b', q, h1, h2, h3, h4, h5, h7⟩ := h _ hv
  simp only at h1 h2
  obtain ⟨rfl, rfl, rfl⟩ := placeC_inj (by rw [hb, h5]) (by rw [hs.len, h4.len]) (by rw [hs.len]; exact h6) h1
  exact ⟨q, h2, h7⟩
theorem hMem_push {t : RTk} {kvs : List (Value × Value)} {w : World} {ok : Nat → Prop} {i : Nat} {s : Sta} {b : List Bool} {q : SV} (h : (hMem t kvs).p w ok) (hs : StaOk t.b s) (hb : b.length = t.m) (hi : i < t.n) (hp : PlanAt w ok q (fdP (t.rest (t.n - i) s b))) :
    (hMem t (kvs ++ [(.agg ⟨placeC i s b⟩, tailV q (t.rest (t.n - i) s b))])).p w ok := fun e he => by
  rcases List.mem_append.1 he with h1 | h1
  · exact h e h1
  · rw [List.mem_singleton.1 h1]
    exact ⟨i, s, b, q, rfl, rfl, hi, hs, hb, hp⟩
/-- new keys are of ticks from i on. -/
def NewK (i : Nat) (new : List (Value × Value)) : Prop := ∀ e, e ∈ new → ∃ (j : Nat) (s : Sta) (b : List Bool), e.1 = .agg ⟨placeC j s b⟩ ∧ i ≤ j
theorem NewK.ne {i j : Nat} {new : List (Value × Value)} (h : NewK i new) (hj : j < i) {s : Sta} {b : List Bool} : ∀ e, e ∈ new → e.1 ≠ .agg ⟨placeC j s b⟩ := fun e he h1 => by
  obtain ⟨k, s', b', h2, h3⟩ := h e he
  rw [h2] at h1
  simp only [placeC, Value.agg.injEq, Array.mk.injEq, List.cons.injEq, Value.int.injEq, true_and, and_true] at h1
  have := h1.1
  omega
end Go.Proofs.Ytlfjdbilblfknaa.X
/-
  The example's task in plain words (runoff).
-/
namespace Go.Proofs.Ytlfjdbilblfknaa.Bs
open Go.Proofs.Ytlfjdbilblfknaa.X
theorem rx_all3 {P : Nat → Prop} (h0 : P 0) (h1 : P 1) (h2 : P 2) : ∀ j, j < 3 → P j := by
  intro j hj
  match j, hj with
  | 0, _ => exact h0
  | 1, _ => exact h1
  | 2, _ => exact h2
theorem rx_all2 {P : Nat → Prop} (h0 : P 0) (h1 : P 1) : ∀ j, j < 2 → P j := by
  intro j hj
  match j, hj with
  | 0, _ => exact h0
  | 1, _ => exact h1
def rxB : Bas := ⟨[⟨-1000, 0⟩, ⟨0, 1000000⟩, ⟨2000, 5000000⟩], 100, 3000, 500, []⟩
def rxS : Sta := ⟨1000000, []⟩
def rxT : RTk := ⟨rxB, rxS, [-500, 500], [60000, 60000], [1, 2], -200, 50, [⟨⟨#[108, 111, 99, 107]⟩, 100, 10⟩], [⟨⟨#[109, 105, 108, 108]⟩, 40000, 5, 1, 7⟩], [false, false]⟩
theorem rx_chk : chkE rxB = 0 := by
  have h1 : firstN (rowErr rxB) rxB.rows.length = none := firstN_none (rx_all3 (by kernel_rfl) (by kernel_rfl) (by kernel_rfl))
  have h2 : firstN (polErr rxB) rxB.pols.length = none := firstN_none (fun j hj => absurd hj (by show ¬ j < 0; omega))
  have h3 : wide rxB (great rxB rxB.pols.length) := fun i hi => by
    have : ∀ j, j < 2 → wideAt rxB (great rxB rxB.pols.length) j := rx_all2 (of_decide_eq_true (by kernel_rfl)) (of_decide_eq_true (by kernel_rfl))
    exact this i (by have : i + 1 < 3 := hi; omega)
  unfold chkE chk
  rw [if_neg (by decide), h1]
  simp only
  rw [if_neg (by decide), if_neg (by decide), h2]
  simp only
  rw [if_pos h3]
theorem rx_sta : staErr rxB rxS = 0 := staErr_ok rx_chk ⟨rfl, ⟨by decide, by decide⟩, fun i hi => absurd hi (by show ¬ i < 0; omega)⟩
theorem rx_dev : ∀ j, j < 2 → devErr rxT.devs j = 0 := by
  refine rx_all2 ?_ ?_
  · unfold devErr
    rw [if_neg (by rw [show nameB (rxT.devs[0]?.getD d0).name = true from by kernel_rfl]; decide), if_neg (by rintro ⟨k, hk, _⟩; omega), if_neg (by rw [show (rxT.devs[0]?.getD d0).wild = false from by kernel_rfl]; decide)]
  · unfold devErr
    rw [if_neg (by rw [show nameB (rxT.devs[1]?.getD d0).name = true from by kernel_rfl]; decide), if_neg, if_neg (by rw [show (rxT.devs[1]?.getD d0).wild = false from by kernel_rfl]; decide)]
    rintro ⟨k, hk, h⟩
    obtain rfl : k = 0 := by omega
    exact absurd h (by decide)
theorem rx_e : rtE rxT = 0 := by
  unfold rtE chkT
  rw [if_neg (by rw [show chkE rxT.b = 0 from rx_chk]; decide), if_neg (by rw [show staErr rxT.b rxT.s = 0 from rx_sta]; decide), if_neg (by decide), if_neg (by decide)]
  rw [show firstN (tickErr rxT) rxT.outer.length = none from firstN_none (rx_all2 (by kernel_rfl) (by kernel_rfl))]
  simp only
  rw [if_neg (by decide), if_neg (by decide)]
  rw [show firstN (devErr rxT.devs) rxT.devs.length = none from firstN_none rx_dev]
  simp only
  rw [if_neg (by decide)]
theorem rx_rest : rxT.rest 2 rxS [false, false] = some (12, [[false, true], [false, false]]) := by kernel_rfl
theorem rx_flw : (rxT.flw 0 rxS [false, false] [[false, false], [false, false]]).2 = 172 := by kernel_rfl
end Go.Proofs.Ytlfjdbilblfknaa.Bs
/-
  The walks of the choices: the iterator (runoff).
-/
namespace Go.Proofs.Ytlfjdbilblfknaa.X
open Go Go.RowKit Go.Proofs.Ytlfjdbilblfknaa.Bs
set_option linter.unusedVariables false
theorem choices_any {g : Nat} {w : World} :
    Calls Try.prog 35 #[.pointer (some ⟨g, 0, none⟩)] w fun e w' => ∃ v, e = .returned v ∧ ∃ gp, v = .func (.func 46) #[] #[.pointer (some ⟨gp, 0, none⟩)] ∧ Sys w.heap.size w [(gp, cel 71 [.pointer (some ⟨g, 0, none⟩)])] w' := by
  refine enter Try.func35 rfl Try.ntmps35 rfl ?_; simp only [frame, Nat.zero_add, Nat.reduceAdd]
  repeat (first | (refine M0 ?_; first | refine SL ?_ | refine SB fun _ _ => ?_ | refine Y4 (Ev.makeFunc rfl rfl) ?_) | (refine M1 ?_; first | refine SC ?_ | refine SD ?_) | (refine M2 ?_; refine SE ?_) | (refine M3 ?_; first | refine SG ?_ | refine SF ?_ | refine YF (Ev.makeFunc rfl rfl) ?_) | (refine M4 ?_; refine SR ?_) | (refine M5 ?_; first | exact M7 | refine YM ?_ | refine YN ?_ ?_))
  refine XE.retg tok Try.results35 rfl (by simp only [and_self, and_true]) (fun w' S => ?_)
  exact ⟨_, rfl, _, rfl, S⟩
theorem bools_el : elemOk Try.prog 31 4 1 1 = true := by kernel_rfl
theorem bools_zero : (Try.prog.info? 4).bind (·.zero) = some (.bool false) := by kernel_rfl
/-- the first k of choice i are set. -/
def prt (m i k : Nat) : List Bool := (List.range m).map fun j => decide (j < k) && i.testBit (m - 1 - j)
theorem prt_len (m i k : Nat) : (prt m i k).length = m := by simp [prt]
theorem prt_0 (m i : Nat) : prt m i 0 = List.replicate m false := by
  apply List.ext_getElem (by simp [prt])
  intro j h1 h2
  simp [prt]
theorem prt_m (m i : Nat) : prt m i m = chc m i := by
  apply List.ext_getElem (by simp [prt, chc])
  intro j h1 h2
  have : j < m := by simpa [prt] using h1
  simp [prt, chc, this]
theorem prt_set {m i k : Nat} (hk : k < m) : (bools (prt m i k)).set k (.bool (i.testBit (m - 1 - k))) = bools (prt m i (k + 1)) := by
  apply List.ext_getElem (by simp [bools, prt])
  intro j h1 h2
  have hj : j < m := by simpa [bools, prt] using h2
  rw [List.getElem_set]
  by_cases e : k = j
  · subst e
    simp [bools, prt]
  · have e2 : decide (j < k) = decide (j < k + 1) := by
      rcases Nat.lt_or_gt_of_ne e with h | h
      · simp [show ¬ j < k by omega, show ¬ j < k + 1 by omega]
      · simp [show j < k by omega, show j < k + 1 by omega]
    simp [bools, prt, e, e2]
theorem bit_eq (i n : Nat) : decide ((((i >>> n) % 2 : Nat) : Int) = 1) = i.testBit n := by
  rw [Nat.testBit_eq_decide_div_mod_eq, Nat.shiftRight_eq_div_pow]
  simp only [decide_eq_decide]
  omega
section
variable {P : Program} {N : Nat} {B : Nat} {w0 : World} {ds : List Deferred} {F : Fr} {L : Lo} {pu : Prop} {dst : Option Tmp} {ty : TypeId} {p : String} {af : Array Edge} {gd : Option (Nat × Bool)}
theorem Ev.shrQ {x y : Operand} {t u : TypeId} {j : IntKind} {m n : Nat} {q : Int} (hx : evo F x = some (.int .i64 (m : Nat))) (hy : evo F y = some (.int j q)) (hq : q = (n : Nat)) (hn : n ≤ 64) :
    Ev P N B w0 ds pu F L ⟨dst, .binOp .shr t x y u, ty, p, af, gd⟩ (.int .i64 ((m >>> n : Nat) : Int)) := by
  subst hq
  exact Ev.shrN hx hy hn
end
set_option maxHeartbeats 16000000 in
theorem chs_any {σ : Type} (Lf : σ → Lo) (Wf : σ → World) (J : Nat → σ → Prop) {B l g gp m c : Nat} {A : Option Addr} (s0 : σ) (hm : m ≤ 4) (S0 : Sys B (Wf s0) (Lf s0) (Wf s0)) (h0 : J 0 s0)
    (hgp : (Wf s0).cell? ⟨gp, 0, none⟩ = some (.pointer (some ⟨g, 0, none⟩))) (hg : (Wf s0).cell? ⟨g, 15, none⟩ = some (.slice A m c)) (hlp : gp < (Wf s0).heap.size) (hlg : g < (Wf s0).heap.size) (hfp : ∀ e, e ∈ Lf s0 → e.1 ≠ gp) (hfg : ∀ e, e ∈ Lf s0 → e.1 ≠ g)
    (hy : ∀ i s gn W, i < 2 ^ m → J i s → (Wf s).heap.size ≤ gn → Sys B (Wf s) ((gn, cel 4 (bools (chc m i))) :: Lf s) W → ∀ w1, Sys B W (Lf s) w1 →
      ∃ fn tmps assign body, (Instr.yield l (#[.slice (some ⟨gn, 0, none⟩) m m] : Array Value)).run Try.prog w1 = .ok (.round l fn tmps assign body) w1 ∧
        RoundIn Fence.wide 0 Try.prog l fn tmps assign body w1 fun e w' => ∃ v, e = .returned v ∧ v = .bool true ∧ ∃ s', J (i + 1) s' ∧ Sys B (Wf s') (Lf s') w') :
    Calls Try.prog 46 #[.func (.yield l) #[] #[], .pointer (some ⟨gp, 0, none⟩)] (Wf s0) fun e w' => ∃ v, e = .returned v ∧ ∃ s, J (2 ^ m) s ∧ Sys B (Wf s) (Lf s) w' := by
  have h16 : 2 ^ m ≤ 16 := Nat.pow_le_pow_right (n := 2) (by decide) hm
  obtain ⟨M, hM⟩ : ∃ M, M = 2 ^ m := ⟨_, rfl⟩
  refine enterL Try.func46 rfl Try.ntmps46 rfl (S0) ?_; simp only [frame, Nat.zero_add, Nat.reduceAdd]
  repeat (first | (refine M0 ?_; first | refine SL ?_ | refine SB fun _ _ => ?_ | refine Y4 (Ev.load_far tok rfl rfl hlp hfp hgp) ?_ | refine Y4 (Ev.load_far tok rfl rfl hlg hfg hg) ?_ | refine Y4 (Ev.shl1 (n := m) rfl (by omega)) ?_) | (refine M1 ?_; first | refine SC ?_ | refine SD ?_) | (refine M2 ?_; refine SE ?_) | (refine M3 ?_; first | refine SG ?_ | refine SF ?_ | refine YF (Ev.load_far tok rfl rfl hlp hfp hgp) ?_ | refine YF (Ev.load_far tok rfl rfl hlg hfg hg) ?_ | refine YF (Ev.shl1 (n := m) rfl (by omega)) ?_) | (refine M4 ?_; refine SR ?_) | (refine M5 ?_; first | exact M7 | refine YM ?_ | refine YN ?_ ?_))
  rw [← hM] at h16 hy ⊢
  refine XC.loopk [0, 3, 13] rfl (fun s : Nat × σ => [(14, .int .i64 (s.1 : Nat))]) (fun s => Lf s.2) (fun s => Wf s.2) (fun s => s.1 ≤ M ∧ J s.1 s.2) (fun s => M - s.1) (0, s0) ⟨Nat.zero_le _, h0⟩ ZZSUB (fun _ h => h) ?_
  rintro ⟨i, s⟩ ⟨hi, hJ⟩
  simp only at hi hJ
  dsimp only [List.cons_append, List.nil_append]
  repeat (first | (refine M0 ?_; first | refine SL ?_ | refine SB fun _ _ => ?_) | (refine M1 ?_; first | refine SC ?_ | refine SD ?_) | (refine M2 ?_; refine SE ?_) | (refine M3 ?_; first | refine SG ?_ | refine SF ?_) | (refine M4 ?_; refine SR ?_) | (refine M5 ?_; first | exact M7 | refine YM ?_ | refine YN ?_ ?_))
  refine XC.cond _ rfl (fun h1 => ?_) (fun h1 => ?_)
  rotate_left
  · have him : i = M := by have := of_decide_eq_false h1; omega
    subst him
    repeat (first | (refine M0 ?_; first | refine SL ?_ | refine SB fun _ _ => ?_) | (refine M1 ?_; first | refine SC ?_ | refine SD ?_) | (refine M2 ?_; refine SE ?_) | (refine M3 ?_; first | refine SG ?_ | refine SF ?_) | (refine M4 ?_; refine SR ?_) | (refine M5 ?_; first | exact M7 | refine YM ?_ | refine YN ?_ ?_))
    refine XE.end0 Try.results46 (fun w' S => ?_)
    exact ⟨_, rfl, s, hJ, S⟩
  have him : i < M := by have := of_decide_eq_true h1; omega
  repeat (first | (refine M0 ?_; first | refine SL ?_ | refine SB fun _ _ => ?_ | refine XL.makeBools bools_el bools_zero rfl rfl rfl (by omega) (fun _ _ => ?_)) | (refine M1 ?_; first | refine SC ?_ | refine SD ?_) | (refine M2 ?_; refine SE ?_) | (refine M3 ?_; first | refine SG ?_ | refine SF ?_) | (refine M4 ?_; refine SR ?_) | (refine M5 ?_; first | exact M7 | refine YM ?_ | refine YN ?_ ?_))
  rename_i gn hgn
  rw [← prt_0 m i]
  refine XC.loopk [0, 3, 4, 5, 13, 14, 20] rfl (fun k : Nat => [(21, .int .i64 (k : Nat))]) (fun k => (gn, cel 4 (bools (prt m i k))) :: Lf s) (fun _ => Wf s) (fun k => k ≤ m) (fun k => m - k) 0 (Nat.zero_le _) ZZSUB (fun _ h => h) ?_
  intro k hk
  dsimp only [List.cons_append, List.nil_append]
  repeat (first | (refine M0 ?_; first | refine SL ?_ | refine SB fun _ _ => ?_) | (refine M1 ?_; first | refine SC ?_ | refine SD ?_) | (refine M2 ?_; refine SE ?_) | (refine M3 ?_; first | refine SG ?_ | refine SF ?_) | (refine M4 ?_; refine SR ?_) | (refine M5 ?_; first | exact M7 | refine YM ?_ | refine YN ?_ ?_))
  refine XC.cond _ rfl (fun h2 => ?_) (fun h2 => ?_)
  · have hkm : k < m := by have := of_decide_eq_true h2; omega
    have hq : (m : Int) - 1 - (k : Int) = ((m - 1 - k : Nat) : Int) := by omega
    have hlt : i >>> (m - 1 - k) < 4611686018427387904 := Nat.lt_of_le_of_lt (Nat.shiftRight_le _ _) (by omega)
    repeat (first | (refine M0 ?_; first | refine SL ?_ | refine SB fun _ _ => ?_ | refine Y4 (Ev.shrQ (m := i) (n := m - 1 - k) rfl rfl hq (by omega)) ?_ | refine Y4 (Ev.and1 (m := i >>> (m - 1 - k)) rfl hlt) ?_) | (refine M1 ?_; first | refine SC ?_ | refine SD ?_) | (refine M2 ?_; refine SE ?_) | (refine M3 ?_; first | refine SG ?_ | refine SF ?_ | refine YF (Ev.shrQ (m := i) (n := m - 1 - k) rfl rfl hq (by omega)) ?_ | refine YF (Ev.and1 (m := i >>> (m - 1 - k)) rfl hlt) ?_) | (refine M4 ?_; refine SR ?_) | (refine M5 ?_; first | exact M7 | refine YM ?_ | refine YN ?_ ?_))
    rw [bit_eq]
    refine XL.store_at tok 0 (o := 0) (j := k * 1) rfl rfl rfl rfl rfl (by rw [bools_len, prt_len]; omega) rfl ?_
    rw [Nat.zero_add, Nat.mul_one k, prt_set (i := i) hkm]
    repeat (first | (refine M0 ?_; first | refine SL ?_ | refine SB fun _ _ => ?_) | (refine M1 ?_; first | refine SC ?_ | refine SD ?_) | (refine M2 ?_; refine SE ?_) | (refine M3 ?_; first | refine SG ?_ | refine SF ?_) | (refine M4 ?_; refine SR ?_) | (refine M5 ?_; first | exact M7 | refine YM ?_ | refine YN ?_ ?_))
    exact XE.round (s := k) (k + 1) hkm (by omega) ZZSUB (fun _ h => h)
  have hkm : k = m := by have := of_decide_eq_false h2; omega
  rw [hkm, prt_m]
  repeat (first | (refine M0 ?_; first | refine SL ?_ | refine SB fun _ _ => ?_) | (refine XI.id ?_; first | refine XI.done ?_ | refine XI.one1 rfl ?_) | (refine XR'.id ?_; first | refine XR'.seq ?_ | refine XR'.region ?_ | refine XR'.block ?_ | refine XR'.skip ?_ | refine XR'.ret ?_ | refine XR'.cond_t rfl ?_ | refine XR'.cond_f rfl ?_ | refine XR'.exit ?_) | (refine M1 ?_; first | refine XC.regionI (id := 10) 1 ?_ | refine SC ?_ | refine SD ?_) | (refine M2 ?_; first | refine XE.nextI ?_ | refine XE.nextR ?_ | refine SE ?_))
  refine XI.rebase (L' := Lf s) (List.sublist_cons_self _ _) (fun W3 S3 => ?_)
  refine XI.yield (vs := [.slice (some ⟨gn, 0, none⟩) m m]) rfl rfl rfl (fun _ v w' => v = .bool true ∧ ∃ s', J (i + 1) s' ∧ Sys B (Wf s') (Lf s') w') (fun w4 S4 => ?_) (fun w4 v5 w5 S4 ⟨e5, s', hJ', S5⟩ => ⟨_, _, S5, ?_⟩)
  · exact hy i s gn W3 him hJ hgn S3 w4 S4
  subst e5
  repeat (first | (refine M0 ?_; first | refine SL ?_ | refine SB fun _ _ => ?_) | (refine XI.id ?_; first | refine XI.done ?_ | refine XI.one1 rfl ?_) | (refine XR'.id ?_; first | refine XR'.seq ?_ | refine XR'.region ?_ | refine XR'.block ?_ | refine XR'.skip ?_ | refine XR'.ret ?_ | refine XR'.cond_t rfl ?_ | refine XR'.cond_f rfl ?_ | refine XR'.exit ?_) | (refine M1 ?_; first | refine SC ?_ | refine SD ?_) | (refine M2 ?_; first | refine XE.nextI ?_ | refine XE.nextR ?_ | refine SE ?_))
  exact XE.round (s := (i, s)) (i + 1, s') ⟨him, hJ'⟩ (by simp only; omega) ZZSUB (fun _ h => h)
end Go.Proofs.Ytlfjdbilblfknaa.X
/-
  The walk of place (runoff).
-/
namespace Go.Proofs.Ytlfjdbilblfknaa.X
open Go Go.RowKit Go.Proofs.Ytlfjdbilblfknaa.Bs
set_option linter.unusedVariables false
theorem ints_el6 : elemOk Try.prog 26 3 1 8 = true := by kernel_rfl
theorem arr6 : arrB (Try.prog.underlying 108) = some (6, 3) := by kernel_rfl
theorem int_sz : (Try.prog.info? 3).map (·.size) = some 1 := by kernel_rfl
theorem pad_list {l : List Int} (h : l.length ≤ 6) : (ints l ++ List.replicate (6 - l.length) (.int .i64 0) : List Value) = [.int .i64 (at0 l 0), .int .i64 (at0 l 1), .int .i64 (at0 l 2), .int .i64 (at0 l 3), .int .i64 (at0 l 4), .int .i64 (at0 l 5)] := by
  match l, h with
  | [], _ => rfl
  | [_], _ => rfl
  | [_, _], _ => rfl
  | [_, _, _], _ => rfl
  | [_, _, _, _], _ => rfl
  | [_, _, _, _, _], _ => rfl
  | [_, _, _, _, _, _], _ => rfl
theorem obits_on {l : List Bool} {k : Nat} (h : bl l k = true) : obits l (k + 1) = obits l k ||| 2 ^ k := by
  rw [obits, if_pos h]
theorem obits_off {l : List Bool} {k : Nat} (h : bl l k = false) : obits l (k + 1) = obits l k := by
  rw [obits, if_neg (by simp [h])]
set_option maxHeartbeats 8000000 in
theorem place_any {g i : Nat} {sq p : SV} {s : Sta} {before : List Bool} {w : World} (hq : IntsAt w (Lt w.heap.size) sq s.fil) (h6 : s.fil.length ≤ 6) (hb : ListAt boolK w (Lt w.heap.size) p before) (hbl : before.length ≤ 4) :
    Calls Try.prog 38 #[.pointer (some ⟨g, 0, none⟩), staV sq s, .int .i64 (i : Nat), svV p] w fun e w' => e = .returned (.agg ⟨placeC i s before⟩) ∧ Below w.heap.size w w' := by
  obtain ⟨Ap, np, cp⟩ := p
  obtain ⟨Aq, nq, cq⟩ := sq
  have lp := hb.len (by decide)
  have lq := hq.len
  simp only at lp lq
  subst lp lq
  simp only [staV, staC, svV]
  refine enter Try.func38 rfl Try.ntmps38 rfl ?_; simp only [frame, Nat.zero_add, Nat.reduceAdd]
  repeat (first | (refine M0 ?_; first | refine SL ?_ | refine SB fun _ _ => ?_) | (refine M1 ?_; first | refine SC ?_ | refine SD ?_) | (refine M2 ?_; refine SE ?_) | (refine M3 ?_; first | refine SG ?_ | refine SF ?_) | (refine M4 ?_; refine SR ?_) | (refine M5 ?_; first | exact M7 | refine YM ?_ | refine YN ?_ ?_))
  rename_i g5 hg5 g8 hg8 g9 hg9
  have h16 : ∀ k, k ≤ 4 → 2 ^ k ≤ 16 := fun k hk => Nat.pow_le_pow_right (n := 2) (by decide) hk
  have hob := fun k => obits_lt before k
  refine XC.loopk [5, 8, 9, 16, 17] rfl (fun k : Nat => [(18, .int .i64 (k : Nat))]) (fun k => [(g9, cel 110 [.int .i64 (i : Nat), .int .i64 s.vol, .int .i64 (obits before k : Nat), .int .i64 0, .int .i64 0, .int .i64 0, .int .i64 0, .int .i64 0, .int .i64 0]), (g8, cel 110 [.int .i64 0, .int .i64 0, .int .i64 0, .int .i64 0, .int .i64 0, .int .i64 0, .int .i64 0, .int .i64 0, .int .i64 0]), (g5, cel 28 [.int .i64 s.vol, .slice Aq s.fil.length cq])]) (fun _ => w) (fun k => k ≤ before.length) (fun k => before.length - k) 0 (Nat.zero_le _) ZZSUB (fun _ h => h) ?_
  intro k hk
  dsimp only [List.cons_append, List.nil_append]
  repeat (first | (refine M0 ?_; first | refine SL ?_ | refine SB fun _ _ => ?_) | (refine M1 ?_; first | refine SC ?_ | refine SD ?_) | (refine M2 ?_; refine SE ?_) | (refine M3 ?_; first | refine SG ?_ | refine SF ?_) | (refine M4 ?_; refine SR ?_) | (refine M5 ?_; first | exact M7 | refine YM ?_ | refine YN ?_ ?_))
  refine XC.cond _ rfl (fun h1 => ?_) (fun h1 => ?_)
  · have hkl : k < before.length := by have := of_decide_eq_true h1; omega
    obtain ⟨ap, rfl, hlp⟩ := hb.addr (by decide) (by omega)
    have hbk := boolAt hb (k := k) hkl
    have hk1 := hob k
    have hk2 := h16 k (by omega)
    repeat (first | (refine M0 ?_; first | refine SL ?_ | refine SB fun _ _ => ?_ | refine Y4 (Ev.load_old tok rfl rfl (add_lt hlp) hbk) ?_) | (refine M1 ?_; first | refine SC ?_ | refine SD ?_) | (refine M2 ?_; refine SE ?_) | (refine M3 ?_; first | refine SG ?_ | refine SF ?_ | refine YF (Ev.load_old tok rfl rfl (add_lt hlp) hbk) ?_) | (refine M4 ?_; refine SR ?_) | (refine M5 ?_; first | exact M7 | refine YM ?_ | refine YN ?_ ?_))
    refine XC.cond _ rfl (fun h2 => ?_) (fun h2 => ?_)
    · repeat (first | (refine M0 ?_; first | refine SL ?_ | refine SB fun _ _ => ?_ | refine Y4 (Ev.shl1 (n := k) rfl (by omega)) ?_ | refine Y4 (Ev.orN (a := obits before k) (b := 2 ^ k) rfl rfl (by omega) (by omega)) ?_) | (refine M1 ?_; first | refine SC ?_ | refine SD ?_) | (refine M2 ?_; refine SE ?_) | (refine M3 ?_; first | refine SG ?_ | refine SF ?_ | refine YF (Ev.shl1 (n := k) rfl (by omega)) ?_ | refine YF (Ev.orN (a := obits before k) (b := 2 ^ k) rfl rfl (by omega) (by omega)) ?_) | (refine M4 ?_; refine SR ?_) | (refine M5 ?_; first | exact M7 | refine YM ?_ | refine YN ?_ ?_))
      rw [← obits_on h2]
      exact XE.round (s := k) (k + 1) hkl (by omega) ZZSUB (fun _ h => h)
    · repeat (first | (refine M0 ?_; first | refine SL ?_ | refine SB fun _ _ => ?_) | (refine M1 ?_; first | refine SC ?_ | refine SD ?_) | (refine M2 ?_; refine SE ?_) | (refine M3 ?_; first | refine SG ?_ | refine SF ?_) | (refine M4 ?_; refine SR ?_) | (refine M5 ?_; first | exact M7 | refine YM ?_ | refine YN ?_ ?_))
      rw [← obits_off h2]
      exact XE.round (s := k) (k + 1) hkl (by omega) ZZSUB (fun _ h => h)
  have hkl : k = before.length := by have := of_decide_eq_false h1; omega
  rw [hkl]
  repeat (first | (refine M0 ?_; first | refine SL ?_ | refine SB fun _ _ => ?_) | (refine M1 ?_; refine SC ?_) | (refine M2 ?_; refine SE ?_))
  refine XC.drawT mixed rfl rfl (by kernel_rfl) ?_
  repeat (first | (refine M0 ?_; first | refine SL ?_ | refine SB fun _ _ => ?_ | refine Y4 (Ev.sliceArr rfl arr6 int_sz (by decide)) ?_) | (refine M2 ?_; refine SE ?_) | (refine M3 ?_; first | refine SG ?_ | refine SF ?_ | refine YF (Ev.sliceArr rfl arr6 int_sz (by decide)) ?_) | (refine M4 ?_; refine SR ?_) | (refine M5 ?_; first | exact M7 | refine YM ?_ | refine YN ?_ ?_))
  refine XL.copyIn 0 (o := 3) (vs := ints s.fil) ints_el6 rfl rfl rfl rfl (fun w5 S5 => (hq.arg S5).rd) h6 (by simp only [List.length_cons, List.length_nil]; omega) (fun v hv => by obtain ⟨x, _, rfl⟩ := List.mem_map.1 hv; rfl) rfl ?_
  have e9 : (([.int .i64 (i : Nat), .int .i64 s.vol, .int .i64 (obits before before.length : Nat), .int .i64 0, .int .i64 0, .int .i64 0, .int .i64 0, .int .i64 0, .int .i64 0] : List Value).take 3 ++ ints s.fil ++ ([.int .i64 (i : Nat), .int .i64 s.vol, .int .i64 (obits before before.length : Nat), .int .i64 0, .int .i64 0, .int .i64 0, .int .i64 0, .int .i64 0, .int .i64 0] : List Value).drop (3 + s.fil.length)) = placeC i s before := by
    have e1 : ([.int .i64 (i : Nat), .int .i64 s.vol, .int .i64 (obits before before.length : Nat), .int .i64 0, .int .i64 0, .int .i64 0, .int .i64 0, .int .i64 0, .int .i64 0] : List Value).drop (3 + s.fil.length) = List.replicate (6 - s.fil.length) (.int .i64 0) := by
      rw [← List.drop_drop, show ([.int .i64 (i : Nat), .int .i64 s.vol, .int .i64 (obits before before.length : Nat), .int .i64 0, .int .i64 0, .int .i64 0, .int .i64 0, .int .i64 0, .int .i64 0] : List Value).drop 3 = List.replicate 6 (.int .i64 0) from rfl, List.drop_replicate]
    rw [e1, List.append_assoc, pad_list h6]
    rfl
  rw [e9]
  simp only [placeC]
  repeat (first | (refine M0 ?_; first | refine SL ?_ | refine SB fun _ _ => ?_) | (refine M1 ?_; refine SC ?_) | (refine M2 ?_; refine SE ?_))
  refine XE.retg tok Try.results38 rfl (by simp only [and_self, and_true]) (fun w' S => ?_)
  exact ⟨rfl, S.toBelow⟩
end Go.Proofs.Ytlfjdbilblfknaa.X
