/-
  Rows that take whole lists; rows that are built or made; a slice from a place on.
-/
import Derived.Test.YtmckmlmfilmiaaaPart2
import Derived.Laws.MakeOwn
import Derived.Scope
import Derived.Laws.Small
import Derived.DeepKeys3
import Derived.Laws.CopyRow
import Derived.Laws.IdiomCopy
import Derived.OrdersIn
import Derived.Test.YtmckmlmfilmiaaaPart1
import Derived.Test.YtmckmlmfilmiaaaProg
import Derived.WalkKit
import Derived.LaidEql
import Derived.Stop.Asserts
import Derived.RowKitTokens
import Derived.KernelRfl
import Derived.Laws.StructEq
set_option linter.unusedVariables false
set_option linter.unusedSimpArgs false
namespace Go.Proofs.Ytmckmlmfilmiaaa.X
open Go Go.RowKit
set_option linter.unusedVariables false
section
variable {W W' w w0 w1 w2 : World} {b0 B : Nat} {ks ks' : List Nat} {rs : List RowX} {hs hs' : List Held} {L : Lo}
/-- a row takes a list. -/
theorem Fam.pushL {α : Type} {K : Kind α} {v v' : Value} {l l2 : List α} {i : Nat} (h : Fam W b0 ks rs hs) (hi : rs[i]? = some ⟨α, K, v, l⟩) (ha : ∀ a, a ∈ l2 → ∀ x, x ∈ K.sl a → x.p W (Free W b0 ks rs)) (hrow : W'.ownsRow b0 K.ty K.m v' (l.length + l2.length) (l.flatMap K.c ++ l2.flatMap K.c))
    (hsz : W.heap.size ≤ W'.heap.size) (ho : ∀ j, j < W.heap.size → j ∉ ks → v.ownBlock ≠ some j → W'.heap[j]? = W.heap[j]?) (hfr : ∀ k, v'.ownBlock = some k → v.ownBlock = some k ∨ (W.heap.size ≤ k ∧ k ∉ ks)) :
    Fam W' b0 ks (rs.set i ⟨α, K, v', l ++ l2⟩) hs := by
  have hm : ∀ r, r ∈ rs.set i ⟨α, K, v', l ++ l2⟩ → r = ⟨α, K, v', l ++ l2⟩ ∨ (r ∈ rs ∧ ∀ k, r.v.ownBlock = some k → v.ownBlock ≠ some k) := fun r hr => by
    obtain ⟨j, hj, rfl⟩ := List.mem_iff_getElem.1 hr
    by_cases hij : i = j
    · subst hij; left; simp
    · right
      rw [List.getElem_set_ne hij]
      simp at hj
      refine ⟨List.getElem_mem _, fun k hk h2 => ?_⟩
      obtain ⟨hil, hie⟩ := List.getElem?_eq_some_iff.1 hi
      have hp := List.pairwise_iff_getElem.1 h.two
      rcases Nat.lt_or_gt_of_ne hij with h3 | h3
      · have := hp i j hil hj h3 k (by rw [hie]; exact h2)
        exact this hk
      · have := hp j i hj hil h3 k hk
        rw [hie] at this
        exact this h2
  have hri : (⟨α, K, v, l⟩ : RowX) ∈ rs := List.mem_of_getElem? hi
  have hf : ∀ j, Free W b0 ks rs j → Free W' b0 ks (rs.set i ⟨α, K, v', l ++ l2⟩) j := fun j hj => ⟨hj.1, by have := hj.2.1; omega, hj.2.2.1, fun r hr h1 => by
    rcases hm r hr with rfl | ⟨h2, _⟩
    · rcases hfr j h1 with h3 | h3
      · exact hj.2.2.2 _ hri h3
      · have := hj.2.1; omega
    · exact hj.2.2.2 r h2 h1⟩
  have hk : ∀ j, Free W b0 ks rs j → W'.heap[j]? = W.heap[j]? := fun j hj => ho j hj.2.1 hj.2.2.1 fun h1 => hj.2.2.2 _ hri h1
  refine ⟨Nat.le_trans h.base hsz, fun r hr => ?_, fun r hr k h1 => ?_, ?_, fun r hr b hb x hx => ?_, fun x hx => x.mono (x.keep (h.held x hx) hk) hf⟩
  · rcases hm r hr with rfl | ⟨h2, h3⟩
    · simpa using hrow
    · exact owns_move' (h.row r h2) fun k h4 => ho k (h.lt h2 h4).2 (h.sep r h2 k h4) (h3 k h4)
  · rcases hm r hr with rfl | ⟨h2, h3⟩
    · rcases hfr k h1 with h4 | h4
      · exact h.sep _ hri k h4
      · exact h4.2
    · exact h.sep r h2 k h1
  · rw [List.pairwise_iff_getElem]
    have hp := List.pairwise_iff_getElem.1 h.two
    obtain ⟨hil, hie⟩ := List.getElem?_eq_some_iff.1 hi
    intro p q hpl hql hpq k hk1 hk2
    simp at hpl hql
    by_cases h1 : i = p
    · subst h1
      have h2 : i ≠ q := by omega
      rw [List.getElem_set_ne h2] at hk2
      simp at hk1
      rcases hfr k hk1 with h4 | h4
      · exact hp i q hpl hql hpq k (by rw [hie]; exact h4) hk2
      · have := (h.lt (List.getElem_mem hql) hk2).2; omega
    · by_cases h2 : i = q
      · subst h2
        rw [List.getElem_set_ne h1] at hk1
        simp at hk2
        rcases hfr k hk2 with h4 | h4
        · have := hp p i hpl hql hpq k hk1
          rw [hie] at this
          exact this h4
        · have := (h.lt (List.getElem_mem hpl) hk1).2; omega
      · rw [List.getElem_set_ne h1] at hk1
        rw [List.getElem_set_ne h2] at hk2
        exact hp p q hpl hql hpq k hk1 hk2
  · rcases hm r hr with rfl | ⟨h2, h3⟩
    · rcases List.mem_append.1 hb with h4 | h4
      · exact x.mono (x.keep (h.ins _ hri b h4 x hx) hk) hf
      · exact x.mono (x.keep (ha b h4 x hx) hk) hf
    · exact x.mono (x.keep (h.ins r h2 b hb x hx) hk) hf
/-- a new row. -/
theorem Fam.fresh {α : Type} {K : Kind α} {v : Value} {l : List α} (h : Fam W b0 ks rs hs) (hsz : W.heap.size ≤ W'.heap.size) (ho : ∀ j, j < W.heap.size → j ∉ ks → W'.heap[j]? = W.heap[j]?) (hrow : W'.ownsRow b0 K.ty K.m v l.length (l.flatMap K.c))
    (hv : ∀ k, v.ownBlock = some k → W.heap.size ≤ k ∧ k ∉ ks) (ha : ∀ a, a ∈ l → ∀ x, x ∈ K.sl a → x.p W (Free W b0 ks rs)) : Fam W' b0 ks (⟨α, K, v, l⟩ :: rs) hs := by
  have h1 := h.move hsz ho
  have hf : ∀ j, Free W b0 ks rs j → Free W' b0 ks (⟨α, K, v, l⟩ :: rs) j := fun j hj => ⟨hj.1, by have := hj.2.1; omega, hj.2.2.1, fun r hr h2 => by
    rcases List.mem_cons.1 hr with rfl | hr
    · have := (hv j h2).1; have := hj.2.1; omega
    · exact hj.2.2.2 r hr h2⟩
  have hk : ∀ j, Free W b0 ks rs j → W'.heap[j]? = W.heap[j]? := fun j hj => ho j hj.2.1 hj.2.2.1
  refine ⟨h1.base, fun r hr => ?_, fun r hr k h2 => ?_, .cons (fun r hr k h2 h3 => ?_) h.two, fun r hr a hb x hx => ?_, fun x hx => x.mono (x.keep (h.held x hx) hk) hf⟩
  · rcases List.mem_cons.1 hr with rfl | hr
    · exact hrow
    · exact h1.row r hr
  · rcases List.mem_cons.1 hr with rfl | hr
    · exact (hv k h2).2
    · exact h.sep r hr k h2
  · have := (hv k h2).1; have := (h.lt hr h3).2; omega
  · rcases List.mem_cons.1 hr with rfl | hr
    · exact x.mono (x.keep (ha a hb x hx) hk) hf
    · exact x.mono (x.keep (h.ins r hr a hb x hx) hk) hf
end
section
variable {P : Program} {T : TT} {N : Nat} {B : Nat} {w0 : World} {ds : List Deferred} {Q : Exit → Act → World → Prop} {F : Fr} {L : Lo} {pu : Prop} {ops : Array Oper} {rest : List Oper} {ty : TypeId} {p : String} {af : Array Edge}
variable {dst : Option Tmp} {gd : Option (Nat × Bool)}
theorem append_none_run {w : World} {base t e size bytes n c : Nat} {v : Value} {xs : List Value} (he : elemOk P t e size bytes = true) (hown : w.ownsRow base e size v n xs) : (Builtin.append_ #[t, t] ty #[v, .slice none 0 c]).run P w = .ok v w := by
  obtain ⟨hu, i, z, hi, hz, e1, e2, e3⟩ := elemOk_spec he
  rcases hown.2 with ⟨rfl, rfl⟩ | ⟨g, cap, cur, rfl, hb, hg, hc, hm, h⟩
  · simp [Builtin.append_, run_underlying hu, sizeOf_run hi, Builtin.lenOf, Builtin.firstCells]
  · have : ¬ cap < n := by omega
    simp [Builtin.append_, run_underlying hu, sizeOf_run hi, Builtin.lenOf, Builtin.firstCells, storeCells, hc, this]
theorem XL.weak1 {t : Nat} {u : Value} (h : XL P N B w0 ds Q ops rest F L) : XL P N B w0 ds Q ops rest ((1000000 + t, u) :: F) L :=
  ⟨fun a w hf hs => h.run a w ⟨hf.size, hf.defers, fun t' v ht hv => hf.get t' v ht (by
    unfold lk
    have : Nat.beq (1000000 + t) t' = false := by
      cases hb : Nat.beq (1000000 + t) t' with
      | false => rfl
      | true => have := Nat.eq_of_beq_eq_true hb; omega
    rw [this]
    exact hv)⟩ hs⟩
end
end Go.Proofs.Ytmckmlmfilmiaaa.X
/-
  A walk by lemmas (J): in a region that draws its order, reckonings too may be taken first, not only copies and addresses.
-/
namespace Go.Proofs.Ytmckmlmfilmiaaa.X
open Go Go.RowKit
set_option linter.unusedVariables false
section
variable {P : Program} {N : Nat} {B : Nat} {wS w0 : World} {ds : List Deferred} {Q : Exit → Act → World → Prop} {F : Fr} {L Ls : Lo} {ops : Array Oper} {rem rem' : List (Nat × Oper)}
/-- operations of slots alone, reckonings among them. -/
def reckOp (o : Oper) : Bool := match o.guard with
  | some _ => false
  | none => match o.op with
    | .move _ | .assign _ | .extract .. | .makeInterface .. | .build .. | .fieldAddr .. | .indexAddr .. | .binOp .. | .convert .. => true
    | .call c => match c.callee with
      | .builtin .min => true
      | .builtin .max => true
      | _ => false
    | _ => false
/-- the first of these that may come up. -/
def firstR (rem : List (Nat × Oper)) : List (Nat × Oper) → Option (Nat × Oper × List (Nat × Oper))
  | [] => none
  | (i, o) :: r => match reckOp o with
    | true => match readyB rem o with
      | true => match dropO rem i with
        | some rem' => some (i, o, rem')
        | none => none
      | false => firstR rem r
    | false => firstR rem r
theorem firstR_spec : ∀ {l : List (Nat × Oper)} {i : Nat} {o : Oper}, firstR rem l = some (i, o, rem') → (i, o) ∈ l ∧ readyB rem o = true ∧ dropO rem i = some rem' := by
  intro l
  induction l with
  | nil => intro i o h; cases h
  | cons e r ih =>
    intro i o h
    obtain ⟨j, p⟩ := e
    simp only [firstR] at h
    split at h
    · split at h
      · rename_i hr
        split at h
        · rename_i r2 hd
          simp only [Option.some.injEq, Prod.mk.injEq] at h
          obtain ⟨rfl, rfl, rfl⟩ := h
          exact ⟨List.mem_cons_self, hr, hd⟩
        · cases h
      · obtain ⟨h1, h2⟩ := ih h; exact ⟨List.mem_cons_of_mem _ h1, h2⟩
    · obtain ⟨h1, h2⟩ := ih h; exact ⟨List.mem_cons_of_mem _ h1, h2⟩
theorem XR.take2 {i : Nat} {o : Oper} (h1 : firstR rem rem = some (i, o, rem')) (hl : loneB ops rem i o = true) (h : Fw P N B wS ds False (fun F' => XR P N B wS w0 ds Q Ls ops rem' F' L) ops Ls [o] F) :
    XR P N B wS w0 ds Q Ls ops rem F L := by
  obtain ⟨hm, hr, hd⟩ := firstR_spec h1
  unfold loneB at hl
  simp only [Bool.and_eq_true] at hl
  obtain ⟨⟨hsel, hein⟩, hap⟩ := hl
  obtain ⟨v, hok, F', hal, hk⟩ := h.run
  refine ⟨fun D fuel a w hD hlen hf hs hS => ?_⟩
  have hrd : i ∈ Region.ready .any ops D := hD.mem_ready hm hr fun e he hb => by
    unfold edgesIn at hein
    have := List.all_eq_true.1 hein _ hm
    have := List.all_eq_true.1 this e (by simpa using he)
    simp only [hb, Bool.not_true, Bool.false_or] at this
    exact Nat.le_of_ble_eq_true this
  obtain ⟨n, rfl, hn⟩ := ready_count hrd hlen
  have hD' := hD.set hm hd
  refine wpAnyH_first (hD.at_ _ hm) (Region.noSelect_spec hsel) (fun c a w q => q.elim) n D a w (fun j oj hj hne hun hno => ?_) hrd (hok.yieldsIf hf) hS ?_
  · have hjs : j < ops.size := (Array.getElem?_eq_some_iff.1 hj).1
    have hon : on D j = false := by
      unfold on
      have hlt' : j < D.size := by rw [hD.size]; exact hjs
      rw [Array.getD_eq_getD_getElem?, Array.getElem?_eq_getElem hlt'] at hun ⊢
      exact hun
    obtain ⟨o', ho'⟩ := inRem_iff.1 ((hD.left j hjs).1 hon)
    have := hD.at_ _ ho'
    rw [hj] at this
    obtain rfl := Option.some.inj this
    have h2 := List.all_eq_true.1 hap _ ho'
    simp only [Bool.or_eq_true] at h2
    rcases h2 with (h2 | h2) | h2
    · exact absurd (Nat.eq_of_beq_eq_true h2) hne
    · obtain ⟨e, he, hb⟩ := Array.any_eq_true'.1 h2
      simp only [Bool.and_eq_true, beq_iff_eq] at hb
      exact absurd hb.2 (hno e he hb.1)
    · exact h2
  · exact hk.run _ n _ w hD' hn (hal.fits (hf.putF hok.1)) hs hS
theorem YO {i : Nat} {o : Oper} (h1 : firstR rem rem = some (i, o, rem') := by first | exact rfl | fail) (hl : loneB ops rem i o = true := by first | kernel_rfl | fail) : Step (Fw P N B wS ds False (fun F' => XR P N B wS w0 ds Q Ls ops rem' F' L) ops Ls [o] F) (XR P N B wS w0 ds Q Ls ops rem F L) := ⟨XR.take2 h1 hl⟩
theorem SRJ {q : Prop} (k : q) (st : Step q (XR P N B wS w0 ds Q Ls ops rem F L) := by first | exact YJ | exact YK | exact YO | exact YL | fail) : XR P N B wS w0 ds Q Ls ops rem F L := st.run k
end
end Go.Proofs.Ytmckmlmfilmiaaa.X
/-
  A walk by lemmas (K): bools compared, bits, scopes and labels, type assertions, slices of bools that are made, maps with struct keys.
-/
namespace Go.Proofs.Ytmckmlmfilmiaaa.X
open Go
set_option linter.unusedVariables false
section
variable {P : Program} {T : TT} {N : Nat} {B : Nat} {w0 : World} {ds : List Deferred} {Q : Exit → Act → World → Prop} {F : Fr} {L : Lo} {pu : Prop} {ops : Array Oper} {rest : List Oper}
variable {dst : Option Tmp} {ty : TypeId} {p : String} {af : Array Edge} {gd : Option (Nat × Bool)}
theorem eqGuard_bool {op : BinOp} {t : TypeId} {x y : Operand} {a b : Bool} (w : World) : (eqGuard op t x y (.bool a) (.bool b)).run P w = .ok () w := by
  unfold eqGuard
  cases op <;> simp
theorem Ev.eqlB {x y : Operand} {t u : TypeId} {a b : Bool} (ht : P.underlying t = some .bool) (hx : evo F x = some (.bool a)) (hy : evo F y = some (.bool b)) :
    Ev P N B w0 ds pu F L ⟨dst, .binOp .eql t x y u, ty, p, af, gd⟩ (.bool (a == b)) :=
  .of_run fun c w hf hw => by
    have h1 := run_equal_bool (P := P) w t a b ht
    simp [execOp, hf.eval hx, hf.eval hy, Sem.run_bind, eqGuard_bool, binOp, h1] <;> (cases a <;> cases b <;> rfl)
theorem Ev.neqB {x y : Operand} {t u : TypeId} {a b : Bool} (ht : P.underlying t = some .bool) (hx : evo F x = some (.bool a)) (hy : evo F y = some (.bool b)) :
    Ev P N B w0 ds pu F L ⟨dst, .binOp .neq t x y u, ty, p, af, gd⟩ (.bool (a != b)) :=
  .of_run fun c w hf hw => by
    have h1 := run_equal_bool (P := P) w t a b ht
    simp [execOp, hf.eval hx, hf.eval hy, Sem.run_bind, eqGuard_bool, binOp, h1] <;> (cases a <;> cases b <;> rfl)
/-! ### bits -/
theorem Ev.shrN {x y : Operand} {t u : TypeId} {j : IntKind} {m n : Nat} (hx : evo F x = some (.int .i64 (m : Nat))) (hy : evo F y = some (.int j (n : Nat))) (hn : n ≤ 64) :
    Ev P N B w0 ds pu F L ⟨dst, .binOp .shr t x y u, ty, p, af, gd⟩ (.int .i64 ((m >>> n : Nat) : Int)) := by
  refine Ev.shr hx hy (by omega) ?_
  have h1 : Nat.min (n : Int).toNat IntKind.i64.bits = n := by
    show Min.min n 64 = n
    omega
  rw [h1, Nat.shiftRight_eq_div_pow, Int.fdiv_eq_ediv_of_nonneg _ (by exact Int.le_of_lt (Int.pow_pos (by decide)))]
  rw [Int.natCast_ediv, Int.natCast_pow]
  rfl
theorem eqGuard_int {op : BinOp} {t : TypeId} {x y : Operand} {k j : IntKind} {a b : Int} (w : World) (h : op = .and ∨ op = .or ∨ op = .shl) : (eqGuard op t x y (.int k a) (.int j b)).run P w = .ok () w := by
  unfold eqGuard
  rcases h with rfl | rfl | rfl <;> simp
theorem Ev.and1 {x : Operand} {t u : TypeId} {m : Nat} (hx : evo F x = some (.int .i64 (m : Nat))) (hm : m < 4611686018427387904) :
    Ev P N B w0 ds pu F L ⟨dst, .binOp .and t x (.const (.int .i64 1)) u, ty, p, af, gd⟩ (.int .i64 ((m % 2 : Nat) : Int)) :=
  .of_run fun c w hf hw => by
    have h1 : (BitVec.ofInt 64 (m : Int) &&& BitVec.ofInt 64 1).toNat = m % 2 := by
      rw [BitVec.toNat_and]
      have a1 : (BitVec.ofInt 64 (m : Int)).toNat = m := by
        rw [BitVec.toNat_ofInt, Int.emod_eq_of_lt (by omega) (by omega)]; simp
      rw [a1, show (BitVec.ofInt 64 1).toNat = 1 by decide, Nat.and_one_is_mod]
    have h2 : IntKind.i64.wrap ((m % 2 : Nat) : Int) = ((m % 2 : Nat) : Int) := wrap_in (by unfold i64in; omega)
    have h3 : (Op.intBits .and .i64 (m : Int) 1).run P w = .ok (.int .i64 ((m % 2 : Nat) : Int)) w := by
      show (pure (.int .i64 (IntKind.i64.wrap ((BitVec.ofInt 64 (m : Int) &&& BitVec.ofInt 64 1).toNat : Int))) : Sem Value).run P w = _
      rw [h1, h2]; simp
    simp only [execOp, hf.eval hx, hf.eval (x := .const (.int .i64 1)) rfl, Sem.run_bind, eqGuard_int w (.inl rfl), Result.andThen_ok, binOp, ne_eq, not_true_eq_false, if_false, h3, Sem.run_pure]
theorem Ev.shl1 {y : Operand} {t u : TypeId} {j : IntKind} {n : Nat} (hy : evo F y = some (.int j (n : Nat))) (hn : n ≤ 60) :
    Ev P N B w0 ds pu F L ⟨dst, .binOp .shl t (.const (.int .i64 1)) y u, ty, p, af, gd⟩ (.int .i64 ((2 ^ n : Nat) : Int)) :=
  .of_run fun c w hf hw => by
    have h4 : (2 : Nat) ^ n ≤ 2 ^ 60 := Nat.pow_le_pow_right (by decide) hn
    have h2 : IntKind.i64.wrap ((2 ^ n : Nat) : Int) = ((2 ^ n : Nat) : Int) := by
      generalize (2 : Nat) ^ n = q at h4
      exact wrap_in (by unfold i64in; omega)
    have h3 : (Op.shift .shl .i64 1 j (n : Int)).run P w = .ok (.int .i64 ((2 ^ n : Nat) : Int)) w := by
      unfold Op.shift
      rw [if_neg (by omega)]
      show (pure (.int .i64 (IntKind.i64.wrap (1 * 2 ^ (Min.min (n : Int).toNat 64)))) : Sem Value).run P w = _
      rw [Int.toNat_natCast, show Min.min n 64 = n by omega, Int.one_mul, show ((2 : Int) ^ n) = ((2 ^ n : Nat) : Int) by rw [Int.natCast_pow]; rfl, h2]
      simp
    simp only [execOp, hf.eval hy, hf.eval (x := .const (.int .i64 1)) rfl, Sem.run_bind, eqGuard_int w (.inr (.inr rfl)), Result.andThen_ok, binOp, ne_eq, not_true_eq_false, if_false, h3, Sem.run_pure]
theorem Ev.orN {x y : Operand} {t u : TypeId} {a b : Nat} (hx : evo F x = some (.int .i64 (a : Nat))) (hy : evo F y = some (.int .i64 (b : Nat))) (ha : a < 4611686018427387904) (hb : b < 4611686018427387904) :
    Ev P N B w0 ds pu F L ⟨dst, .binOp .or t x y u, ty, p, af, gd⟩ (.int .i64 ((a ||| b : Nat) : Int)) :=
  .of_run fun c w hf hw => by
    have hlt : a ||| b < 2 ^ 62 := Nat.or_lt_two_pow (by simpa using ha) (by simpa using hb)
    have e1 : ∀ m : Nat, m < 4611686018427387904 → (BitVec.ofInt 64 (m : Int)).toNat = m := fun m hm => by
      rw [BitVec.toNat_ofInt, Int.emod_eq_of_lt (by omega) (by omega)]; simp
    have h1 : (BitVec.ofInt 64 (a : Int) ||| BitVec.ofInt 64 (b : Int)).toNat = a ||| b := by
      rw [BitVec.toNat_or, e1 a ha, e1 b hb]
    have h2 : IntKind.i64.wrap ((a ||| b : Nat) : Int) = ((a ||| b : Nat) : Int) := wrap_in (by unfold i64in; omega)
    have h3 : (Op.intBits .or .i64 (a : Int) (b : Int)).run P w = .ok (.int .i64 ((a ||| b : Nat) : Int)) w := by
      show (pure (.int .i64 (IntKind.i64.wrap ((BitVec.ofInt 64 (a : Int) ||| BitVec.ofInt 64 (b : Int)).toNat : Int))) : Sem Value).run P w = _
      rw [h1, h2]; simp
    simp only [execOp, hf.eval hx, hf.eval hy, Sem.run_bind, eqGuard_int w (.inr (.inl rfl)), Result.andThen_ok, binOp, ne_eq, not_true_eq_false, if_false, h3, Sem.run_pure]
/-! ### scopes and labels -/
theorem XC.scope {c : Code} (h : XC P N B w0 ds (Exit.noGoto Q) c F L) : XC P N B w0 ds Q (.scope c) F L := ⟨fun a w hf hw => wp_scope_straight (h.run a w hf hw)⟩
theorem XC.label {l : Nat} (h : XE N B w0 ds Q .normal F L) : XC P N B w0 ds Q (.label l) F L := ⟨fun a w hf hw => wp_label (h.run a w hf hw)⟩
theorem XE.noGoto_ret (h : XE N B w0 ds Q .ret F L) : XE N B w0 ds (Exit.noGoto Q) .ret F L := ⟨fun a w hf hw => h.run a w hf hw⟩
/-! ### type assertions -/
theorem Ev.assertOk {x : Operand} {t u : TypeId} {s : Nat} {v z : Value} (hx : evo F x = some (.iface s v)) (hu : conB (P.underlying u) = true) (hT : TOK P T) (hz : lkG T.zero u = some z) (r : Value) (hr : r = if s = u then .tuple ⟨[v, .bool true]⟩ else .tuple ⟨[z, .bool false]⟩) :
    Ev P N B w0 ds pu F L ⟨dst, .typeAssert x t u true, ty, p, af, gd⟩ r :=
  .of_run fun c w hf hw => by
    subst hr
    have hzr := zero_run hT hz w
    cases h : P.underlying u with
    | none => rw [h] at hu; cases hu
    | some d =>
      rw [h] at hu
      by_cases e : s = u
      · subst e
        cases d <;> first | (simp [execOp, Instr.typeAssert, hf.eval hx, run_underlying h]; done) | cases hu
      · cases d <;> first | (simp [execOp, Instr.typeAssert, hf.eval hx, run_underlying h, e, hzr]; done) | cases hu
/-! ### make([]bool, n) -/
def bools (l : List Bool) : List Value := l.map .bool
theorem bools_len (l : List Bool) : (bools l).length = l.length := by simp [bools]
theorem XL.makeBools {d : Nat} {t e : TypeId} {x y : Operand} {n : Nat} (he : elemOk P t e 1 1 = true) (hz : (P.info? e).bind (·.zero) = some (.bool false)) (hx : evo F x = some (.int .i64 (n : Nat))) (hy : evo F y = some (.int .i64 (n : Nat))) (hd : Nat.blt d N = true) (hn : n ≤ 1000000)
    (k : ∀ g, w0.heap.size ≤ g → XL P N B w0 ds Q ops rest ((1000000 + d, .slice none L.length 0) :: (d, .slice (some ⟨g, 0, none⟩) n n) :: F) ((g, cel e (bools (List.replicate n false))) :: L)) :
    XL P N B w0 ds Q ops ({ dst := some d, op := .makeSlice t x y, type := ty, pos := p, after := af, guard := none } :: rest) F L := by
  refine ⟨fun a w hf hw => ?_⟩
  refine wpList_plain rfl fun Kk hK => ?_
  unfold Oper.wp
  obtain ⟨hu, i, z, hi, hz', e1, e2, e3⟩ := elemOk_spec he
  rw [hi] at hz
  simp only [Option.bind_some] at hz
  have hz2 : z = .bool false := by rw [hz'] at hz; exact Option.some.inj hz
  subst hz2
  have hrun := run_makeSlice (P := P) w t e i (.bool false) hu hi hz' .i64 .i64 (n : Int) (n : Int) (by omega) (Int.le_refl _) (by rw [e1]; simp; omega) (by rw [e2]; omega) (by omega)
  have hmc : madeCells (Value.bool false).cells ((n : Int).toNat * i.size) = ⟨bools (List.replicate n false)⟩ := by
    rw [e1]
    apply Array.ext
    · simp [madeCells, bools]
    · intro j h1 h2
      simp [madeCells, bools, Value.cells, Nat.mod_one]
  rw [hmc] at hrun
  simp only [Int.toNat_natCast] at hrun
  have : (execOp a.eval { dst := some d, op := .makeSlice t x y, type := ty, pos := p, after := af, guard := none }).run P w = .ok (.value (.slice (some ⟨w.heap.size, 0, none⟩) n n)) (w.alloc (cel e (bools (List.replicate n false)))) := by
    simp [execOp, hf.eval hx, hf.eval hy, hrun]
  rw [this]
  exact hK _ _ ((k w.heap.size hw.size).run _ _ ((hf.put hd).hint d _) (hw.box _))
end
end Go.Proofs.Ytmckmlmfilmiaaa.X
/-
  A walk by lemmas (L): small words that many walks share.
-/
namespace Go.Proofs.Ytmckmlmfilmiaaa.X
open Go Go.RowKit
set_option linter.unusedVariables false
def idxL {α : Type} (l : List α) (P : α → Bool) : Int := match l.findIdx? P with
  | some i => ((i : Nat) : Int)
  | none => -1
theorem idxL_any {α : Type} (l : List α) (P : α → Bool) : decide (0 ≤ idxL l P) = l.any P := by
  unfold idxL
  cases h : l.findIdx? P with
  | none =>
    rw [List.findIdx?_eq_none_iff] at h
    have : l.any P = false := List.any_eq_false.2 fun x hx => by simp [h x hx]
    rw [this]; rfl
  | some i =>
    obtain ⟨hi, h1, _⟩ := List.findIdx?_eq_some_iff_getElem.1 h
    have : l.any P = true := List.any_eq_true.2 ⟨_, List.getElem_mem hi, h1⟩
    rw [this]
    simp
theorem Sys.keyLt {B : Nat} {w0 w : World} {L : Lo} (S : Sys B w0 L w) : ∀ j, j ∈ L.map (·.1) → j < w.heap.size := fun j hj => by
  obtain ⟨e, he, rfl⟩ := List.mem_map.1 hj
  exact S.lt he
theorem Sys.join {B : Nat} {w0 w w' : World} {L L2 L3 : Lo} (S : Sys B w0 L w) (S' : Sys w.heap.size w L2 w') (hs : List.Sublist L3 L) : Sys B w (L2 ++ L3) w' := by
  have hlt : ∀ e, e ∈ L3 → e.1 < w.heap.size := fun e he => S.lt (hs.subset he)
  refine ⟨S'.os, S'.tape, S'.output, S'.size, Nat.le_trans S.base S.size, fun k hk hn => S'.old k hk fun e he => hn e (List.mem_append_left _ he), fun e he => ?_, ?_⟩
  · rcases List.mem_append.1 he with h | h
    · exact ⟨Nat.le_trans (Nat.le_trans S.base S.size) (S'.own e h).1, (S'.own e h).2⟩
    · refine ⟨(S.own e (hs.subset h)).1, ?_⟩
      rw [S'.old e.1 (hlt e h) fun e' he' e1 => by have := (S'.own e' he').1; have := hlt e h; omega]
      exact (S.own e (hs.subset h)).2
  · rw [List.map_append]
    refine List.nodup_append.2 ⟨S'.nd, S.nd.sublist (hs.map _), fun x hx y hy e => ?_⟩
    obtain ⟨e1, he1, rfl⟩ := List.mem_map.1 hx
    obtain ⟨e2, he2, rfl⟩ := List.mem_map.1 hy
    have := (S'.own e1 he1).1
    have := hlt e2 he2
    omega
theorem Sys.ofBelow {w w1 : World} (h : Below w.heap.size w w1) : Sys w.heap.size w [] w1 := ⟨h.os, h.tape, h.output, h.size, Nat.le_refl _, fun k hk _ => h.block k hk, (fun e he => (by cases he)), List.nodup_nil⟩
theorem Free.far {W : World} {b0 : Nat} {ks : List Nat} {rs : List RowX} {L : Lo} {ad : Addr} {j : Nat} (h : Free W b0 ks rs ad.block) (hs : ∀ e, e ∈ L → e.1 ∈ ks ∨ W.heap.size ≤ e.1) : ∀ e, e ∈ L → e.1 ≠ (ad.add j).block := fun e he e1 => by
  rw [add_block] at e1
  rcases hs e he with h1 | h1
  · exact h.2.2.1 (e1 ▸ h1)
  · have := h.2.1; omega
theorem Free.far2 {W : World} {b0 : Nat} {ks : List Nat} {rs : List RowX} {L : Lo} {ad : Addr} {i j : Nat} (h : Free W b0 ks rs ad.block) (hs : ∀ e, e ∈ L → e.1 ∈ ks ∨ W.heap.size ≤ e.1) : ∀ e, e ∈ L → e.1 ≠ ((ad.add i).add j).block := fun e he e1 => by
  rw [add_block, add_block] at e1
  rcases hs e he with h1 | h1
  · exact h.2.2.1 (e1 ▸ h1)
  · have := h.2.1; omega
theorem Fam.cap {W : World} {b0 : Nat} {ks : List Nat} {rs : List RowX} {hs : List Held} {α : Type} {K : Kind α} {r : SV} {l : List α} (h : Fam W b0 ks rs hs) (hr : (⟨α, K, svV r, l⟩ : RowX) ∈ rs) (h0 : 0 < l.length) : l.length ≤ r.c := (ReadsP.own (h.row _ hr)).2.2.1 h0
theorem Free.tail {W : World} {b0 : Nat} {ks : List Nat} {x : RowX} {rs : List RowX} {j : Nat} (h : Free W b0 ks (x :: rs) j) : Free W b0 ks rs j := ⟨h.1, h.2.1, h.2.2.1, fun r hr => h.2.2.2 r (.tail _ hr)⟩
/-- a row that grows no more is held. -/
theorem Fam.freeze {W : World} {b0 : Nat} {ks : List Nat} {rs : List RowX} {hs : List Held} {α : Type} {K : Kind α} {r : SV} {l : List α} (h : Fam W b0 ks (⟨α, K, svV r, l⟩ :: rs) hs) : Fam W b0 ks rs (hList K r l :: hs) := by
  refine ⟨h.base, fun x hx => h.row x (.tail _ hx), fun x hx => h.sep x (.tail _ hx), (List.pairwise_cons.1 h.two).2, fun x hx a ha y hy => y.mono (h.ins x (.tail _ hx) a ha y hy) fun j hj => hj.tail, fun y hy => ?_⟩
  rcases List.mem_cons.1 hy with rfl | hy
  · obtain ⟨A, n, c⟩ := r
    have h1 := h.row _ (.head _)
    obtain ⟨a1, a2, a3, a4⟩ := ReadsP.own h1
    simp only at a2 a4
    subst a2
    refine ⟨⟨a1.1, fun h0 => ?_⟩, by simp only [maxLen] at a4; exact a4, fun a ha x hx => x.mono (h.ins _ (.head _) a ha x hx) fun j hj => hj.tail⟩
    obtain ⟨ad, rfl, hb, hc⟩ := a1.2 h0
    exact ⟨ad, rfl, ⟨hb.1, hb.2, h.sep _ (.head _) _ rfl, fun x hx e => (List.pairwise_cons.1 h.two).1 x hx _ rfl e⟩, hc⟩
  · exact y.mono (h.held y hy) fun j hj => hj.tail
theorem Fam.sv {W : World} {b0 : Nat} {ks : List Nat} {rs : List RowX} {hs : List Held} {α : Type} {K : Kind α} {v : Value} {l : List α} (h : Fam W b0 ks rs hs) (hr : (⟨α, K, v, l⟩ : RowX) ∈ rs) : ∃ r : SV, v = svV r ∧ r.n = l.length := owns_sv (h.row _ hr)
theorem ListAt.take {α : Type} {K : Kind α} {w : World} {ok : Nat → Prop} {A : Option Addr} {n c : Nat} {l : List α} (h : ListAt K w ok ⟨A, n, c⟩ l) {k : Nat} (hk : k ≤ l.length) (h0 : 0 < K.m) : ListAt K w ok ⟨A, k, c⟩ (l.take k) := by
  have hn := h.len h0
  simp only at hn
  subst hn
  have e : (l.take k).flatMap K.c = (l.flatMap K.c).take (k * K.m) := by
    have h1 : l.flatMap K.c = (l.take k).flatMap K.c ++ (l.drop k).flatMap K.c := by rw [← List.flatMap_append, List.take_append_drop]
    have h2 : ((l.take k).flatMap K.c).length = k * K.m := by rw [flat_len K.c K.m K.len, List.length_take, Nat.min_eq_left hk]
    conv => rhs; rw [h1, ← h2]
    exact List.take_left.symm
  refine ⟨?_, by have := h.max; simp only at this ⊢; omega, fun a ha => h.ins a (List.mem_of_mem_take ha)⟩
  obtain ⟨h1, h2⟩ := h.rd
  refine ⟨by rw [flat_len K.c K.m K.len, List.length_take, Nat.min_eq_left hk], fun h3 => ?_⟩
  obtain ⟨ad, e1, e2, e3⟩ := h2 (by simp only at h3 ⊢; omega)
  refine ⟨ad, e1, e2, fun j u hj => ?_⟩
  rw [e, List.getElem?_take] at hj
  split at hj
  · exact e3 j u hj
  · cases hj
section
variable {α : Type} {C : α → List Value} {m : Nat} (hC : ∀ a, (C a).length = m)
include hC
theorem fget {l : List α} {k : Nat} {t : α} {j : Nat} (sp : List Value) (h : l[k]? = some t) (hj : j < m) : (l.flatMap C ++ sp)[k * m + j]? = (C t)[j]? := by
  have e := flat_at C m hC l k j t h hj
  have h1 := (List.getElem?_eq_some_iff.1 h).1
  have h2 : (k + 1) * m ≤ l.length * m := Nat.mul_le_mul_right m h1
  rw [← e, List.getElem?_append_left]
  rw [flat_len C m hC]
  rw [Nat.add_mul] at h2
  omega
theorem flt {l : List α} {k : Nat} {t : α} {j : Nat} (sp : List Value) (h : l[k]? = some t) (hj : j < m) : k * m + j < (l.flatMap C ++ sp).length := by
  have h1 := (List.getElem?_eq_some_iff.1 h).1
  have h2 : (k + 1) * m ≤ l.length * m := Nat.mul_le_mul_right m h1
  rw [List.length_append, flat_len C m hC]
  rw [Nat.add_mul] at h2
  omega
theorem fset {l : List α} : ∀ {k : Nat} {t t' : α} {j : Nat} {v : Value} (sp : List Value), l[k]? = some t → (C t).set j v = C t' → j < m → (l.flatMap C ++ sp).set (k * m + j) v = (l.set k t').flatMap C ++ sp := by
  induction l with
  | nil => intro k t t' j v sp h; cases h
  | cons a l ih =>
    intro k t t' j v sp h h1 h2
    cases k with
    | zero =>
      simp only [List.getElem?_cons_zero, Option.some.injEq] at h
      subst h
      rw [List.flatMap_cons, List.append_assoc, List.set_cons_zero, List.flatMap_cons, List.append_assoc, ← h1, Nat.zero_mul, Nat.zero_add]
      rw [List.set_append_left _ _ (by rw [hC]; exact h2)]
    | succ k =>
      simp only [List.getElem?_cons_succ] at h
      rw [List.flatMap_cons, List.append_assoc, List.set_cons_succ, List.flatMap_cons, List.append_assoc]
      rw [List.set_append_right _ _ (by rw [hC, Nat.add_mul]; omega)]
      congr 1
      rw [← ih sp h h1 h2]
      congr 1
      rw [hC, Nat.add_mul]; omega
end
section
variable {P : Program} {T : TT} {N B : Nat} {w0 : World} {ds : List Deferred} {Q : Exit → Act → World → Prop} {F : Fr} {L : Lo} {ops : Array Oper} {rest : List Oper} {ty : TypeId} {p : String} {af : Array Edge}
theorem Ev.load_at_agg {pu : Prop} {dst : Option Tmp} {gd : Option (Nat × Bool)} (hT : TOK P T) (i : Nat) {t : TypeId} {x : Operand} {g o j n : Nat} {tg : TypeId} {cs vs : List Value} (hx : evo F x = some (.pointer (some ((⟨g, o, none⟩ : Addr).add j)))) (hL : L[i]? = some (g, cel tg cs)) (h1 : lkG T.agg t = some n) (hlen : vs.length = n)
    (hv : ∀ k u, vs[k]? = some u → cs[o + j + k]? = some u) : Ev P N B w0 ds pu F L ⟨dst, .load t x, ty, p, af, gd⟩ (.agg vs.toArray) :=
  .of_run fun a w hf hw => by
    have hc : ∀ k u, vs[k]? = some u → w.cell? (((⟨g, o, none⟩ : Addr).add j).add k) = some u := fun k u hk => by
      rw [add_off, add_off, hw.cell (List.mem_of_getElem? hL)]
      exact hv k u hk
    simp [execOp, Instr.loadAt, Instr.sureAddr, hf.eval hx, run_loadVar_agg (tab_ok hT.agg h1) hlen hc]
/-- a block that is known becomes one more of the own ones. -/
theorem XC.grab {c : Code} {g : Nat} {o : Obj} (hg : w0.heap[g]? = some o) (hB : B ≤ g) (hn : ∀ e, e ∈ L → e.1 ≠ g) (k : ∀ w1, Sys B w0 L w1 → XC P N B w1 ds Q c F ((g, o) :: L)) : XC P N B w0 ds Q c F L :=
  ⟨fun a w hf h => (k w h).run a w hf (Sys.start (Nat.le_trans h.base h.size) (fun e he => by
    rcases List.mem_cons.1 he with rfl | he
    · exact ⟨hB, (h.old g (Array.getElem?_eq_some_iff.1 hg).1 hn).trans hg⟩
    · exact h.own e he) (by
    rw [List.map_cons, List.nodup_cons]
    exact ⟨fun hm => by obtain ⟨e, he, e1⟩ := List.mem_map.1 hm; exact hn e he e1, h.nd⟩))⟩
end
end Go.Proofs.Ytmckmlmfilmiaaa.X
/-
  A walk by lemmas (M): maps whose keys are structs.
-/
namespace Go.Proofs.Ytmckmlmfilmiaaa.X
open Go Go.RowKit
set_option linter.unusedVariables false
theorem Fam.atEnd {w w0 : World} {B b0 : Nat} {ks : List Nat} {rs : List RowX} {hs : List Held} {L : Lo} (hF : Fam w0 b0 ks rs hs) (S : Sys B w0 L w) (hL : ∀ e, e ∈ L → e.1 ∈ ks ∨ w0.heap.size ≤ e.1) : Fam w b0 (L.map (·.1) ++ ks) rs hs :=
  (hF.add (fun k hk => by
    rcases List.mem_append.1 hk with h | h
    · obtain ⟨e, he, rfl⟩ := List.mem_map.1 h
      exact hL e he
    · exact .inl h)).sys S fun e he => .inl (List.mem_append_left _ (List.mem_map.2 ⟨e, he, rfl⟩))
theorem ReadsP.block {w : World} {g lo n size : Nat} {ty : TypeId} {cs : List Value} (h : w.heap[g]? = some (cel ty cs)) (hg : lo ≤ g) (hl : cs.length = n * size) : ReadsP w (Btw lo w.heap.size) size (some ⟨g, 0, none⟩) n cs :=
  ⟨hl, fun _ => ⟨_, rfl, ⟨hg, (Array.getElem?_eq_some_iff.1 h).1⟩, fun j u hj => by rw [add_off]; simpa [World.cell?, h] using hj⟩⟩
/-- the entries of a map's block. -/
def entO (kvs : List (Value × Value)) : List MapEntry := kvs.zipIdx.map fun x => ({ key := x.1.1, val := x.1.2, born := x.2 } : MapEntry)
theorem entO_at {kvs : List (Value × Value)} {j : Nat} {e : MapEntry} (h : (entO kvs)[j]? = some e) : kvs[j]? = some (e.key, e.val) := by
  unfold entO at h
  rw [List.getElem?_map, List.getElem?_zipIdx] at h
  cases hk : kvs[j]? with
  | none => rw [hk] at h; cases h
  | some x => rw [hk] at h; simp only [Option.map_some, Option.some.injEq] at h; subst h; rfl
theorem entO_mem {kvs : List (Value × Value)} {e : MapEntry} (h : e ∈ entO kvs) : (e.key, e.val) ∈ kvs := by
  obtain ⟨j, hj, rfl⟩ := List.mem_iff_getElem.1 h
  exact List.mem_of_getElem? (entO_at (List.getElem?_eq_getElem hj))
theorem entO_of {kvs : List (Value × Value)} {x : Value × Value} (h : x ∈ kvs) : ∃ e, e ∈ entO kvs ∧ e.key = x.1 ∧ e.val = x.2 := by
  obtain ⟨j, hj, rfl⟩ := List.mem_iff_getElem.1 h
  refine ⟨{ key := kvs[j].1, val := kvs[j].2, born := j }, List.mem_of_getElem? (i := j) ?_, rfl, rfl⟩
  unfold entO
  rw [List.getElem?_map, List.getElem?_zipIdx, List.getElem?_eq_getElem hj]
  simp
/-- all keys can be looked for, and no two are equal. -/
structure KeysOk (P : Program) (kt : TypeId) (kvs : List (Value × Value)) : Prop where
  key : ∀ e, e ∈ kvs → ∃ l, keyOf P kt e.1 = some l
  one : ∀ a b c, (a, b) ∈ kvs → (a, c) ∈ kvs → b = c
theorem KeysOk.nil {P : Program} {kt : TypeId} : KeysOk P kt [] := ⟨fun _ h => (by cases h), fun _ _ _ h => (by cases h)⟩
theorem KeysOk.push {P : Program} {kt : TypeId} {kvs : List (Value × Value)} {k v : Value} (h : KeysOk P kt kvs) (hk : ∃ l, keyOf P kt k = some l) (hn : ∀ e, e ∈ kvs → e.1 ≠ k) : KeysOk P kt (kvs ++ [(k, v)]) := by
  refine ⟨fun e he => ?_, fun a b c h1 h2 => ?_⟩
  · rcases List.mem_append.1 he with h1 | h1
    · exact h.key e h1
    · rw [List.mem_singleton.1 h1]; exact hk
  · rcases List.mem_append.1 h1 with h1 | h1 <;> rcases List.mem_append.1 h2 with h2 | h2
    · exact h.one a b c h1 h2
    · rw [List.mem_singleton, Prod.mk.injEq] at h2; exact absurd h2.1 (hn _ h1)
    · rw [List.mem_singleton, Prod.mk.injEq] at h1; exact absurd h1.1 (hn _ h2)
    · rw [List.mem_singleton, Prod.mk.injEq] at h1 h2; rw [h1.2, h2.2]
def arrB (d : Option TypeDesc) : Option (Nat × TypeId) := match d with
  | some (.array n e) => some (n, e)
  | _ => none
section
variable {P : Program} {T : TT} {N : Nat} {B : Nat} {w0 : World} {ds : List Deferred} {Q : Exit → Act → World → Prop} {F : Fr} {L : Lo} {pu : Prop}
variable {dst : Option Tmp} {ty : TypeId} {p : String} {af : Array Edge} {gd : Option (Nat × Bool)}
theorem findK {kt : TypeId} (K : WideMaps.KeyLaw P kt) {kvs : List (Value × Value)} (hk : KeysOk P kt kvs) {k : Value} (h : ∃ l, keyOf P kt k = some l) (w : World) :
    ((Instr.findKey kt k (entO kvs)).run P w = .ok none w ∧ ∀ e, e ∈ kvs → e.1 ≠ k) ∨ ∃ j v, (Instr.findKey kt k (entO kvs)).run P w = .ok (some (j, v)) w ∧ (k, v) ∈ kvs := by
  obtain ⟨l, hl⟩ := h
  rcases K.find w hl (entO kvs) (fun e he => hk.key _ (entO_mem he)) with ⟨h1, h2⟩ | ⟨j, e, h1, h2, h3⟩
  · refine .inl ⟨h1, fun x hx => ?_⟩
    obtain ⟨e, he, e1, _⟩ := entO_of hx
    rw [← e1]
    exact h2 e he
  · refine .inr ⟨j, e.val, h1, ?_⟩
    rw [← h3]
    exact List.mem_of_getElem? (entO_at h2)
/-- a key that is not there. -/
theorem Ev.lookupNo (hT : TOK P T) (i : Nat) {t kt et : TypeId} {x y : Operand} {z k : Value} (kvs : List (Value × Value)) {r : Nat} (K : WideMaps.KeyLaw P kt) (hx : evo F x = some (.map (some r))) (hy : evo F y = some k) (hL : L[i]? = some (r, mapO kvs))
    (ht : P.underlying t = some (.map kt et)) (hz : lkG T.zero et = some z) (hk : KeysOk P kt kvs) (h : ∃ l, keyOf P kt k = some l) (hn : ∀ e, e ∈ kvs → e.1 ≠ k) :
    Ev P N B w0 ds pu F L ⟨dst, .lookup t x y true, ty, p, af, gd⟩ (.tuple ⟨[z, .bool false]⟩) :=
  .of_run fun a w hf hw => by
    have h2 := getObj_run (P := P) (show w.heap[r]? = some (.map (entO kvs).toArray kvs.length) from hw.obj hL)
    obtain ⟨l, hl⟩ := h
    have hc := fun em => K.check w em hl
    rcases findK K hk ⟨l, hl⟩ w with ⟨h1, _⟩ | ⟨j, v, _, h3⟩
    · simp [execOp, hf.eval hx, hf.eval hy, Instr.lookup, run_underlying ht, h2, hc, h1, zero_run hT hz]
    · exact absurd rfl (hn _ h3)
/-- a key that is there. -/
theorem Ev.lookupYes (i : Nat) {t kt et : TypeId} {x y : Operand} {k v : Value} (kvs : List (Value × Value)) {r : Nat} (K : WideMaps.KeyLaw P kt) (hx : evo F x = some (.map (some r))) (hy : evo F y = some k) (hL : L[i]? = some (r, mapO kvs))
    (ht : P.underlying t = some (.map kt et)) (hk : KeysOk P kt kvs) (h : ∃ l, keyOf P kt k = some l) (hv : (k, v) ∈ kvs) :
    Ev P N B w0 ds pu F L ⟨dst, .lookup t x y true, ty, p, af, gd⟩ (.tuple ⟨[v, .bool true]⟩) :=
  .of_run fun a w hf hw => by
    have h2 := getObj_run (P := P) (show w.heap[r]? = some (.map (entO kvs).toArray kvs.length) from hw.obj hL)
    obtain ⟨l, hl⟩ := h
    have hc := fun em => K.check w em hl
    rcases findK K hk ⟨l, hl⟩ w with ⟨_, h3⟩ | ⟨j, v2, h1, h3⟩
    · exact absurd rfl (h3 _ hv)
    · have := hk.one _ _ _ h3 hv
      subst this
      simp [execOp, hf.eval hx, hf.eval hy, Instr.lookup, run_underlying ht, h2, hc, h1]
/-- a key that is not there yet is set. -/
theorem XL.updateK (i : Nat) {ops : Array Oper} {rest : List Oper} {t kt et : TypeId} {x y u : Operand} (kvs : List (Value × Value)) {r : Nat} {k v : Value} {L' : Lo} (K : WideMaps.KeyLaw P kt) (hx : evo F x = some (.map (some r))) (hy : evo F y = some k)
    (hu : evo F u = some v) (hL : L[i]? = some (r, mapO kvs)) (ht : P.underlying t = some (.map kt et)) (hk : KeysOk P kt kvs) (h : ∃ l, keyOf P kt k = some l) (hn : ∀ e, e ∈ kvs → e.1 ≠ k) (hL' : setN L i (r, mapO (kvs ++ [(k, v)])) = some L')
    (c : XL P N B w0 ds Q ops rest F L') :
    XL P N B w0 ds Q ops ({ dst := none, op := .mapUpdate t x y u, type := ty, pos := p, after := af, guard := none } :: rest) F L := by
  refine ⟨fun a w hf hs => ?_⟩
  refine wpList_plain rfl fun Kk hK => ?_
  unfold Oper.wp
  have hh := hs.obj hL
  have h2 := getObj_run (P := P) (show w.heap[r]? = some (.map (entO kvs).toArray kvs.length) from hh)
  obtain ⟨l, hl⟩ := h
  have hc := fun em => K.check w em hl
  rcases findK K hk ⟨l, hl⟩ w with ⟨h1, _⟩ | ⟨j, v2, _, h3⟩
  · have e1 : mapO (kvs ++ [(k, v)]) = .map ((entO kvs).toArray.push { key := k, val := v, born := kvs.length }) (kvs.length + 1) := mapO_push kvs k v
    have h3 := setObj_run (P := P) (o := mapO (kvs ++ [(k, v)])) (show w.heap[r]? = some (.map (entO kvs).toArray kvs.length) from hh)
    have : (execOp a.eval { dst := none, op := .mapUpdate t x y u, type := ty, pos := p, after := af, guard := none }).run P w = .ok .skip { w with heap := w.heap.setIfInBounds r (mapO (kvs ++ [(k, v)])) } := by
      rw [e1] at h3 ⊢
      simp only [execOp, hf.eval hx, hf.eval hy, hf.eval hu, Instr.mapUpdate, Sem.run_bind, run_underlying ht, Result.andThen_ok, h2, hc, h1, h3, Sem.run_pure]
    rw [this]
    exact hK _ _ (c.run _ _ hf (hs.setObj hL (setN_spec _ _ _ _ hL').1))
  · exact absurd rfl (hn _ h3)
/-! ### arrays -/
/-- a[:], of an array with n > 0 elements of one cell. -/
theorem Ev.sliceArr {t e : TypeId} {x : Operand} {ad : Addr} {m : Nat} {sz : Nat} (hx : evo F x = some (.pointer (some ad))) (ht : arrB (P.underlying t) = some (m, e)) (he : (P.info? e).map (·.size) = some sz) (h0 : 0 < m) :
    Ev P N B w0 ds pu F L ⟨dst, .slice t x none none none, ty, p, af, gd⟩ (.slice (some ad) m m) :=
  .of_run fun a w hf hw => by
    have hu : P.underlying t = some (.array m e) := by
      unfold arrB at ht
      split at ht
      · rename_i h; simp only [Option.some.injEq, Prod.mk.injEq] at ht; obtain ⟨rfl, rfl⟩ := ht; exact h
      · cases ht
    cases hi : P.info? e with
    | none => rw [hi] at he; cases he
    | some i =>
      have h1 : ad.add 0 = ad := by cases ad; rfl
      simp [execOp, hf.eval hx, Instr.sliceAt, Instr.sureAddr, run_underlying hu, Instr.sliceBounds, Instr.sliceBound, sizeOf_run hi, h1]
theorem setRow_obj {w : World} {g : Nat} {cs vs : List Value} {t : TypeId} (h : w.heap[g]? = some (cel t cs)) : w.setRow g vs.toArray = { w with heap := w.heap.setIfInBounds g (cel t vs) } := by
  unfold World.setRow
  congr 1
  obtain ⟨hlt, he⟩ := Array.getElem?_eq_some_iff.1 h
  apply Array.ext (by simp)
  intro j h1 h2
  rw [Array.getElem_modify, Array.getElem_setIfInBounds (by simpa using h2)]
  by_cases e : g = j
  · subst e
    simp [he]
  · simp [e]
/-- copy(own row, a slice that is not longer). -/
theorem XL.copyIn (i : Nat) {ops : Array Oper} {rest : List Oper} {d : Nat} {dT sT el : TypeId} {x y : Operand} {g o dLen dCap sLen sCap bytes : Nat} {A : Option Addr} {tg : TypeId} {cs vs : List Value} {L' : Lo} (he : elemOk P dT el 1 bytes = true)
    (hx : evo F x = some (.slice (some ⟨g, o, none⟩) dLen dCap)) (hy : evo F y = some (.slice A sLen sCap)) (hd : Nat.blt d N = true) (hL : L[i]? = some (g, cel tg cs)) (hrd : ∀ w, Sys B w0 L w → ReadsP w (Lt w.heap.size) 1 A sLen vs) (hle : sLen ≤ dLen) (hfit : o + sLen ≤ cs.length)
    (h1 : ∀ v, v ∈ vs → v.oneCell' = true) (hL' : setN L i (g, cel tg (cs.take o ++ vs ++ cs.drop (o + sLen))) = some L') (k : XL P N B w0 ds Q ops rest ((d, .int .i64 (sLen : Nat)) :: F) L') :
    XL P N B w0 ds Q ops ({ dst := some d, op := .call { callee := .builtin .copy, args := #[x, y], argTypes := #[dT, sT] }, type := ty, pos := p, after := af, guard := none } :: rest) F L := by
  refine ⟨fun a w hf hs => ?_⟩
  refine wpList_plain rfl fun Kk hK => ?_
  unfold Oper.wp
  obtain ⟨hu, q, z, hi, hz, e1, e2, e3⟩ := elemOk_spec he
  have hr := hrd w hs
  have hlen : sLen = vs.length := by have := hr.1; omega
  subst hlen
  have hsz : (P.info? el).map (·.size) = some 1 := by rw [hi]; simp [e1]
  have hg := hs.obj hL
  have hset := hs.setObj hL (setN_spec _ _ _ _ hL').1
  have hmn : Nat.min vs.length dLen = vs.length := Nat.min_eq_left hle
  have hrun : (Builtin.copy_ #[dT, sT] ty #[.slice (some ⟨g, o, none⟩) dLen dCap, .slice A vs.length sCap]).run P w = .ok (.int .i64 (vs.length : Nat)) { w with heap := w.heap.setIfInBounds g (cel tg (cs.take o ++ vs ++ cs.drop (o + vs.length))) } := by
    rcases Nat.eq_zero_or_pos vs.length with h0 | h0
    · have hv : vs = [] := List.length_eq_zero_iff.1 h0
      subst hv
      have h2 := run_copy_none (P := P) w dT sT ty el (some ⟨g, o, none⟩) A dLen dCap 0 sCap hu hsz (by omega)
      have h4 : cs.take o ++ [] ++ cs.drop (o + ([] : List Value).length) = cs := by simp
      have h5 : w.heap.setIfInBounds g (cel tg cs) = w.heap := by
        obtain ⟨hlt, he⟩ := Array.getElem?_eq_some_iff.1 hg
        rw [← he]
        apply Array.ext (by simp)
        intro j h1 h2
        rw [Array.getElem_setIfInBounds (by simpa using h2)]
        split
        · rename_i e; subst e; rfl
        · rfl
      rw [h4, h5]
      exact h2
    · obtain ⟨ad, rfl, _, hc⟩ := hr.at_ h0
      have h2 := run_copy_row (P := P) w dT sT ty el g o dLen dCap ad vs.length sCap cs.toArray tg vs hu hsz hg hmn.symm hc (by simpa using hfit) h1
      simp only [List.toList_toArray] at h2
      rw [setRow_obj hg] at h2
      exact h2
  have : (execOp a.eval { dst := some d, op := .call { callee := .builtin .copy, args := #[x, y], argTypes := #[dT, sT] }, type := ty, pos := p, after := af, guard := none }).run P w = .ok (.value (.int .i64 (vs.length : Nat))) { w with heap := w.heap.setIfInBounds g (cel tg (cs.take o ++ vs ++ cs.drop (o + vs.length))) } := by
    have hm : (#[x, y] : Array Operand).map a.eval = #[.slice (some ⟨g, o, none⟩) dLen dCap, .slice A vs.length sCap] := by simp [hf.eval hx, hf.eval hy]
    simp only [execOp, resolve, Sem.run_bind, Sem.run_pure, Result.andThen_ok, invoke, builtin, hm, hrun]
  rw [this]
  exact hK _ _ (k.run _ _ (hf.put hd) hset)
end
end Go.Proofs.Ytmckmlmfilmiaaa.X
/-
  A walk by lemmas (N): a function that holds a range over a function and is handed own blocks; its early returns; one loop variable.
-/
namespace Go.Proofs.Ytmckmlmfilmiaaa.X
open Go Go.RowKit
set_option linter.unusedVariables false
section
variable {P : Program} {T : TT} {N : Nat} {B : Nat} {w0 : World} {ds : List Deferred} {Q : Exit → Act → World → Prop} {F : Fr} {L L' : Lo}
theorem enterML {f : FuncId} {fn : Func} {c : Code} {vs : List Value} {w : World} {R : Ending → World → Prop} {n : Nat} (hf : P.funcs[f]? = some fn) (hb : fn.body = some c) (hN : fn.ntmps = n)
    (hn : Nat.ble vs.length n = true) (S : Sys B w L w) (h : XC P n B w [] (bodyPostM Fence.wide 0 P fn R) c (frame 0 vs) L) : Calls P f vs.toArray w R := by
  subst hN
  have hn' := Nat.le_of_ble_eq_true hn
  refine (callsIn_wide (n := 0)).1 (callsIn_of_wp_marks (F := Fence.wide) hf hb trivial ((wpIn_wide (n := 0)).2 (h.run _ w ⟨?_, rfl, fun t v _ hv => ?_⟩ S)))
  · simp; omega
  · obtain ⟨_, h2⟩ := lk_frame vs 0 t v hv
    have hlt : t < vs.length := (List.getElem?_eq_some_iff.1 h2).1
    simp only [Array.getD_eq_getD_getElem?]
    rw [Array.getElem?_append_left (by simpa using hlt)]
    simp at h2 ⊢
    rw [h2]; rfl
theorem XE.retM0 (hT : TOK P T) {fn : Func} {R : Ending → World → Prop} {rs : List ResultVar} {vs : List Value} {c : Prop} (h : fn.results = ⟨rs⟩) (hv : resO T F L rs = some (vs, c)) (hc : c)
    (hR : ∀ w, Sys B w0 L w → R (.returned (tupV vs)) w) : XE N B w0 [] (bodyPostM Fence.wide 0 P fn R) .ret F L :=
  ⟨fun a w hf hw => by
    show LeavesInM Fence.wide 0 P fn a.tmps R a.defers .returning w
    rw [hf.defers]
    exact ⟨_, by
      have h1 := resO_run hT hf hw hv hc
      have h2 : (results fn a.tmps).run P w = .ok (tupV vs) w := by
        unfold results
        rw [h, Array.mapM_eq_mapM_toList]
        simp only [Sem.run_bind, Sem.run_map]
        refine (congrArg (fun r : Result (List Value) => (r.andThen fun a w' => Result.ok a.toArray w').andThen fun a w' => Sem.run P (pure (if h : a.size = 1 then a[0] else Value.tuple a)) w') h1).trans ?_
        simp only [Result.andThen_ok, Sem.run_pure]
        cases vs with
        | nil => rfl
        | cons v vs => cases vs with
          | nil => rfl
          | cons u vs => simp [tupV]
      exact h2, hR w hw⟩⟩
/-- one of the own blocks alone; the others are new. -/
theorem Sys.only {g : Nat} {o : Obj} {w : World} (S : Sys B w0 L w) (hm : (g, o) ∈ L) (h : ∀ e, e ∈ L → e.1 ∈ [g] ∨ w0.heap.size ≤ e.1) : Sys B w0 [(g, o)] w :=
  ⟨S.os, S.tape, S.output, S.size, S.base, fun k hk hn => S.old k hk fun e he e1 => by
    rcases h e he with h1 | h1
    · exact hn _ (.head _) (by rw [← e1]; exact (List.mem_singleton.1 h1).symm)
    · omega, fun e he => by rw [List.mem_singleton.1 he]; exact S.own _ hm, by simp⟩
/-- what stands, gm aside. -/
def Ng' (gm : Nat) (w : World) : Nat → Prop := fun j => j < w.heap.size ∧ j ≠ gm
/-- what was there at w stands, gm aside. -/
structure Kp (gm : Nat) (w W : World) : Prop where
  below : Below gm w W
  old : ∀ j, Ng' gm w j → W.heap[j]? = w.heap[j]?
theorem Kp.refl {gm : Nat} {w : World} : Kp gm w w := ⟨Below.refl _ _, fun _ _ => rfl⟩
theorem Kp.mono {gm : Nat} {w W : World} (h : Kp gm w W) : ∀ k, Ng' gm w k → Ng' gm W k := fun k hk => ⟨Nat.lt_of_lt_of_le hk.1 h.below.size, hk.2⟩
theorem Kp.lt {gm : Nat} {w W : World} (h : Kp gm w W) : ∀ k, Ng' gm w k → Lt W.heap.size k := fun k hk => Nat.lt_of_lt_of_le hk.1 h.below.size
theorem Kp.sys {gm : Nat} {w W w' : World} (h : Kp gm w W) (S : Sys gm W L w') (hL : ∀ e, e ∈ L → e.1 ∈ [gm] ∨ w.heap.size ≤ e.1) : Kp gm w w' :=
  ⟨h.below.trans S.toBelow, fun j hj => by
    rw [S.old j (Nat.lt_of_lt_of_le hj.1 h.below.size) fun e he e1 => by
      rcases hL e he with h1 | h1
      · exact hj.2 (by rw [← e1]; exact List.mem_singleton.1 h1)
      · have := hj.1; omega]
    exact h.old j hj⟩
theorem Kp.made {gm : Nat} {w W w' : World} (h : Kp gm w W) (hb : Below W.heap.size W w') (hg : gm ≤ W.heap.size) : Kp gm w w' :=
  ⟨h.below.trans ⟨hb.os, hb.tape, hb.output, hb.size, fun k hk => hb.block k (by omega)⟩, fun j hj => (hb.block j (Nat.lt_of_lt_of_le hj.1 h.below.size)).trans (h.old j hj)⟩
theorem Kp.grow {gm : Nat} {w W W' : World} (h : Kp gm w W) (hB : Below gm W W') (ho : ∀ j, j < W.heap.size → (∀ e, e ∈ L → e.1 ≠ j) → W'.heap[j]? = W.heap[j]?) (hL : ∀ e, e ∈ L → e.1 ∈ [gm] ∨ w.heap.size ≤ e.1) : Kp gm w W' :=
  ⟨h.below.trans hB, fun j hj => (ho j (Nat.lt_of_lt_of_le hj.1 h.below.size) fun e he e1 => by
    rcases hL e he with h1 | h1
    · exact hj.2 (by rw [← e1]; exact List.mem_singleton.1 h1)
    · have := hj.1; omega).trans (h.old j hj)⟩
/-- the blocks below B alone. -/
def trunc (w : World) (n : Nat) : World := { w with heap := w.heap.extract 0 n }
theorem Sys.anchorT {wE W w' : World} {L' : Lo} (hB : Below B wE W) (S : Sys B W L w') (hs : ∀ e, e ∈ L' → e ∈ L) (hn : (L'.map (·.1)).Nodup) (hle : B ≤ wE.heap.size) : Sys B (trunc wE B) L' w' := by
  have hsz : (trunc wE B).heap.size = B := by simp [trunc]; omega
  refine ⟨S.os.trans hB.os, S.tape.trans hB.tape, S.output.trans hB.output, ?_, ?_, fun k hk _ => ?_, fun e he => S.own e (hs e he), hn⟩
  · rw [hsz]; exact Nat.le_trans S.base S.size
  · rw [hsz]; exact Nat.le_refl _
  · rw [hsz] at hk
    have h1 := S.toBelow.block k hk
    have h2 := hB.block k hk
    rw [h1, h2]
    simp [trunc, Array.getElem?_extract]
    omega
/-- at the call's end: nothing but gm has changed. -/
theorem Kp.end_ {gm : Nat} {w W w' : World} {o : Obj} (h : Kp gm w W) (S : Sys gm W L w') (hm : (gm, o) ∈ L) (hL : ∀ e, e ∈ L → e.1 ∈ [gm] ∨ w.heap.size ≤ e.1) (h0 : gm ≤ w.heap.size) : Sys gm w [(gm, o)] w' :=
  have h1 := h.sys S hL
  ⟨h1.below.os, h1.below.tape, h1.below.output, h1.below.size, h0, fun k hk hn => h1.old k ⟨hk, fun e => hn (gm, o) (.head _) e.symm⟩, fun e he => by rw [List.mem_singleton.1 he]; exact S.own _ hm, by simp⟩
/-- behind a call that only makes new things. -/
theorem Sys.made {w w' : World} (S : Sys B w0 L w) (hb : Below w.heap.size w w') : Sys B w' L w' :=
  ⟨rfl, rfl, rfl, Nat.le_refl _, Nat.le_trans S.base (Nat.le_trans S.size hb.size), fun _ _ _ => rfl, fun e he => ⟨(S.own e he).1, (hb.block e.1 (S.lt he)).trans (S.own e he).2⟩, S.nd⟩
/-- what another call, that may have changed gm, left: what was held is still held. -/
theorem Fam.after {w w' : World} {gm b : Nat} {o : Obj} {ks : List Nat} {hs hs' : List Held} (h : Fam w gm ks [] hs) (S : Sys b w [(gm, o)] w') (hk : gm ∈ ks) (h' : Fam w' gm ks [] hs') : Fam w' gm ks [] (hs' ++ hs) := by
  have h1 := h.sys S fun e he => .inl (by rw [List.mem_singleton.1 he]; exact hk)
  exact ⟨h1.base, h1.row, h1.sep, h1.two, h1.ins, fun x hx => by
    rcases List.mem_append.1 hx with h2 | h2
    · exact h'.held x h2
    · exact h1.held x h2⟩
end
section
variable {P : Program} {T : TT} {N : Nat} {B : Nat} {w0 : World} {ds : List Deferred} {Q : Exit → Act → World → Prop} {F : Fr} {L : Lo} {pu : Prop} {ops : Array Oper} {rest : List Oper} {ty : TypeId} {p : String} {af : Array Edge}
/-- append(row, a whole list). -/
theorem XL.pushLW {α : Type} {K : Kind α} {d : Nat} {t : TypeId} {x y : Operand} {v : Value} {l l2 : List α} {r2 : SV} {bytes b0 : Nat} {ks : List Nat} {rs : List RowX} {hs : List Held} {wE : World} (i : Nat) (he : elemOk P t K.ty K.m bytes = true) (h0 : 0 < K.m)
    (hx : evo F x = some v) (hy : evo F y = some (.slice r2.A r2.n r2.c)) (hd : Nat.blt d N = true) (hF : Fam w0 b0 ks rs hs) (hi : rs[i]? = some ⟨α, K, v, l⟩) (hks : ∀ k, k ∈ ks → k < w0.heap.size) (hbl : Below B wE w0) (hB : B ≤ b0)
    (hr : ∀ w, Sys B w0 L w → ListAt K w (Lt w.heap.size) r2 l2) (ha : ∀ a, a ∈ l2 → ∀ x, x ∈ K.sl a → x.p w0 (Free w0 b0 ks rs)) (h1 : ∀ a : α, (K.c a).all Value.oneCell' = true) (h63 : l.length + l2.length ≤ 10000000) (hb : bytes ≤ 10000000)
    (k : ∀ w' v', w0.heap.size ≤ w'.heap.size → (∀ j, j < w0.heap.size → (∀ e, e ∈ L → e.1 ≠ j) → v.ownBlock ≠ some j → w'.heap[j]? = w0.heap[j]?) → Fam w' b0 (L.map (·.1) ++ ks) (rs.set i ⟨α, K, v', l ++ l2⟩) hs → Below B wE w' → (∀ k, k ∈ L.map (·.1) ++ ks → k < w'.heap.size) → XL P N B w' ds Q ops rest ((d, v') :: F) L)
    (hL : ∀ e, e ∈ L → e.1 ∈ ks ∨ w0.heap.size ≤ e.1 := by (intro e he; repeat (first | (cases he; done) | (rcases List.mem_cons.1 he with rfl | he; · first | (right; assumption) | (left; simp <;> fail)))) <;> fail) :
    XL P N B w0 ds Q ops ({ dst := some d, op := .call { callee := .builtin .append, args := #[x, y], argTypes := #[t, t] }, type := ty, pos := p, after := af, guard := none } :: rest) F L := by
  obtain ⟨A, m, c⟩ := r2
  have hri : (⟨α, K, v, l⟩ : RowX) ∈ rs := List.mem_of_getElem? hi
  have hk2 : ∀ k, k ∈ L.map (·.1) ++ ks → k ∈ ks ∨ w0.heap.size ≤ k := fun k hk => by
    rcases List.mem_append.1 hk with h | h
    · obtain ⟨e, he, rfl⟩ := List.mem_map.1 h
      exact hL e he
    · exact .inl h
  have hk3 : ∀ w, Sys B w0 L w → ∀ k, k ∈ L.map (·.1) ++ ks → k < w.heap.size := fun w S k hk => by
    rcases List.mem_append.1 hk with h | h
    · obtain ⟨e, he, rfl⟩ := List.mem_map.1 h
      exact S.lt he
    · exact Nat.lt_of_lt_of_le (hks k h) S.size
  have hsepL : ∀ k, v.ownBlock = some k → ∀ e, e ∈ L → e.1 ≠ k := fun k hk e he e1 => by
    rcases hL e he with h | h
    · exact hF.sep _ hri k hk (e1 ▸ h)
    · have := (hF.lt hri hk).2; omega
  cases A with
  | none =>
    refine ⟨fun a w hf S => ?_⟩
    refine wpList_plain rfl fun Kk hK => ?_
    unfold Oper.wp
    have hl := hr w S
    have hm := hl.len h0
    simp only at hm
    have hm0 : m = 0 := by
      rcases Nat.eq_zero_or_pos m with h | h
      · exact h
      · obtain ⟨ad, e, _⟩ := hl.rd.at_ (by simpa using h)
        cases e
    subst hm0
    have hl2 : l2 = [] := List.length_eq_zero_iff.1 hm.symm
    subst hl2
    have hrun := append_none_run (ty := ty) (c := c) he (owns_sys (hF.row _ hri) S hsepL)
    have : (execOp a.eval { dst := some d, op := .call { callee := .builtin .append, args := #[x, y], argTypes := #[t, t] }, type := ty, pos := p, after := af, guard := none }).run P w = .ok (.value v) w := by
      have hm : (#[x, y] : Array Operand).map a.eval = #[v, .slice none 0 c] := by simp [hf.eval hx, hf.eval hy]
      simp only [execOp, resolve, Sem.run_bind, Sem.run_pure, Result.andThen_ok, invoke, builtin, hm, hrun]
    rw [this]
    refine hK _ _ ((k w v S.size (fun j h1 h2 _ => S.old j h1 h2) ?_ (hbl.trans S.toBelow) (hk3 w S)).run _ _ (hf.put hd) (S.rebase (List.Sublist.refl _)))
    have h2 := (hF.add (ks' := L.map (·.1) ++ ks) hk2).sys S fun e he => .inl (List.mem_append_left _ (List.mem_map.2 ⟨e, he, rfl⟩))
    obtain ⟨hil, hie⟩ := List.getElem?_eq_some_iff.1 hi
    have h3 : rs.set i ⟨α, K, v, l ++ []⟩ = rs := by
      rw [List.append_nil, ← hie]
      exact List.set_getElem_self hil
    rw [h3]
    exact h2
  | some A =>
    by_cases hex : ∃ w, Sys B w0 L w
    · obtain ⟨wx, Sx⟩ := hex
      have hm := (hr wx Sx).len h0
      simp only at hm
      subst hm
      refine XL.append2 (v := v) (m := l2.length) (n := l.length) (size := K.m) (bytes := bytes) (base := b0) (A := A) (xs := l.flatMap K.c) (news := l2.flatMap K.c) (L' := L) he h0 hx hy hd (hF.row _ hri) hsepL (by rw [flat_len K.c K.m K.len])
        (fun w S j u hj => ?_) ?_ (by unfold maxLen; omega) (Nat.le_trans (Nat.mul_le_mul h63 hb) (by decide)) hF.base (List.Sublist.refl _) (fun w v' w' S ho hg _ hfr => ?_)
      · have h2 := hr w S
        have hjl := (List.getElem?_eq_some_iff.1 hj).1
        rw [flat_len K.c K.m K.len] at hjl
        have hpos : 0 < l2.length := by
          rcases Nat.eq_zero_or_pos l2.length with h | h
          · rw [h] at hjl; omega
          · exact h
        obtain ⟨ad, e, _, h3⟩ := h2.rd.at_ hpos
        cases e
        exact h3 j u hj
      · rw [List.all_eq_true]
        intro u hu
        obtain ⟨a, ha', hu'⟩ := List.mem_flatMap.1 hu
        exact List.all_eq_true.1 (h1 a) u hu'
      · have hsz := hg.size
        have hS := S.size
        refine k w' v' (Nat.le_trans hS hsz) (fun j h1 h2 h3 => grown_old S hg h1 h2 fun e1 => h3 e1.symm) ?_ (hbl.trans (grown_below S hg fun k hk => Nat.le_trans hB (hF.lt hri hk).1)) fun q hq => Nat.lt_of_lt_of_le (hk3 w S q hq) hsz
        have hfa : ∀ j, Free w0 b0 ks rs j → Free w0 b0 (L.map (·.1) ++ ks) rs j := fun j hj => ⟨hj.1, hj.2.1, fun h => by
          rcases hk2 j h with h4 | h4
          · exact hj.2.2.1 h4
          · have := hj.2.1; omega, hj.2.2.2⟩
        refine (hF.add (ks' := L.map (·.1) ++ ks) hk2).pushL hi (fun a h4 x hx => x.mono (ha a h4 x hx) hfa) ho (Nat.le_trans hS hsz) (fun j hj hn hv => ?_) (fun k hk => ?_)
        · exact grown_old S hg hj (fun e he e1 => hn (List.mem_append_left _ (List.mem_map.2 ⟨e, he, e1⟩))) fun e1 => hv e1.symm
        · rcases hfr k hk with h | h
          · exact .inl h
          · exact .inr ⟨Nat.le_trans hS h, fun h2 => by have := hk3 w S k h2; omega⟩
    · exact ⟨fun a w hf S => absurd ⟨w, S⟩ hex⟩
/-- a slice literal is a new row. -/
theorem XL.newRowW (hT : TOK P T) {α : Type} {K : Kind α} {l : List α} {d : Nat} {t e : TypeId} {n size b0 : Nat} {ps : List (Nat × Operand)} {z : Value} {zs cs : List Value} {ks : List Nat} {rs : List RowX} {hs : List Held} {wE : World}
    (hs' : lkG T.sl t = some (e, size)) (hz : lkG T.zero e = some z) (hzs : cellsO z = some zs) (hsz : Nat.beq zs.length size = true) (h0 : Nat.blt 0 size = true) (hbig : Nat.ble (n * size) 16777216 = true) {zl : List Value} (hzl : zerosO zs n = some zl) (hc : fillS F size zl ps = some cs) (hd : Nat.blt d N = true)
    (hK : K.ty = e ∧ K.m = size) (hcs : cs = l.flatMap K.c) (hn : l.length = n) (hF : Fam w0 b0 ks rs hs) (hks : ∀ k, k ∈ ks → k < w0.heap.size) (hbl : Below B wE w0) (hb0 : b0 ≤ w0.heap.size) (ha : ∀ a, a ∈ l → ∀ x, x ∈ K.sl a → x.p w0 (Free w0 b0 ks rs))
    (k : ∀ w' g, w0.heap.size ≤ w'.heap.size → w0.heap.size ≤ g → (∀ j, j < w0.heap.size → (∀ e, e ∈ L → e.1 ≠ j) → w'.heap[j]? = w0.heap[j]?) → Fam w' b0 (L.map (·.1) ++ ks) (⟨α, K, .slice (some ⟨g, 0, none⟩) n n, l⟩ :: rs) hs → Below B wE w' → (∀ k, k ∈ L.map (·.1) ++ ks → k < w'.heap.size) → XL P N B w' ds Q ops rest ((d, .slice (some ⟨g, 0, none⟩) n n) :: F) L)
    (hL : ∀ e, e ∈ L → e.1 ∈ ks ∨ w0.heap.size ≤ e.1 := by (intro e he; repeat (first | (cases he; done) | (rcases List.mem_cons.1 he with rfl | he; · first | (right; assumption) | (left; simp <;> fail)))) <;> fail) :
    XL P N B w0 ds Q ops ({ dst := some d, op := .buildSlice t n ps.toArray, type := ty, pos := p, after := af, guard := none } :: rest) F L := by
  refine XL.buildSlice hT hs' hz hzs hsz h0 hbig hzl hc hd fun g hg => ?_
  refine XL.rebase (List.sublist_cons_self _ _) fun w1 S => ?_
  have hk2 : ∀ k, k ∈ L.map (·.1) ++ ks → k ∈ ks ∨ w0.heap.size ≤ k := fun k hk => by
    rcases List.mem_append.1 hk with h | h
    · obtain ⟨e, he, rfl⟩ := List.mem_map.1 h
      exact hL e he
    · exact .inl h
  have hk3 : ∀ k, k ∈ L.map (·.1) ++ ks → k < w1.heap.size := fun k hk => by
    rcases List.mem_append.1 hk with h | h
    · obtain ⟨e, he, rfl⟩ := List.mem_map.1 h
      exact S.lt (List.mem_cons_of_mem _ he)
    · exact Nat.lt_of_lt_of_le (hks k h) S.size
  have hgL : g ∉ L.map (·.1) := by have := S.nd; simp only [List.map_cons, List.nodup_cons] at this; exact this.1
  have hfa : ∀ j, Free w0 b0 ks rs j → Free w0 b0 (L.map (·.1) ++ ks) rs j := fun j hj => ⟨hj.1, hj.2.1, fun h => by
    rcases hk2 j h with h4 | h4
    · exact hj.2.2.1 h4
    · have := hj.2.1; omega, hj.2.2.2⟩
  obtain ⟨hK1, hK2⟩ := hK
  have hrow : w1.ownsRow b0 K.ty K.m (.slice (some ⟨g, 0, none⟩) n n) l.length (l.flatMap K.c) := by
    have h5 := (S.own (g, _) List.mem_cons_self).2
    have h6 : (l.flatMap K.c).length = n * K.m := by rw [flat_len K.c K.m K.len, hn]
    have hsz' : 0 < K.m := by rw [hK2]; exact Nat.le_of_ble_eq_true h0
    have hbig' : n * K.m ≤ 16777216 := by rw [hK2]; exact Nat.le_of_ble_eq_true hbig
    have hnm : n ≤ n * K.m := Nat.le_mul_of_pos_right n hsz'
    refine ⟨by rw [h6, hn], .inr ⟨g, n, ⟨l.flatMap K.c⟩, by rw [hn], Nat.le_trans hb0 hg, ?_, by omega, by unfold maxLen; omega, by simpa using h6, ?_⟩⟩
    · rw [hK1, ← hcs]; exact h5
    · rw [hn, ← h6]
      simp only [List.take_length]
  refine XL.weak1 (k w1 g S.size hg (fun j h1 h2 => S.old j h1 fun e he e1 => by
    rcases List.mem_cons.1 he with rfl | he
    · simp only at e1; omega
    · exact h2 e he e1) ((hF.add (ks' := L.map (·.1) ++ ks) hk2).fresh S.size (fun j hj hn' => ?_) hrow (fun q hq => ?_) fun a h4 x hx => x.mono (ha a h4 x hx) hfa) (hbl.trans S.toBelow) hk3)
  · exact S.old j hj fun e he e1 => by
      rcases List.mem_cons.1 he with rfl | he
      · simp only at e1; omega
      · exact hn' (List.mem_append_left _ (List.mem_map.2 ⟨e, he, e1⟩))
  · simp only [Value.ownBlock, Option.some.injEq] at hq
    subst hq
    refine ⟨hg, fun h7 => ?_⟩
    rcases List.mem_append.1 h7 with h8 | h8
    · exact hgL h8
    · have := hks _ h8; omega
end
section
variable {P : Program} {N B : Nat} {wS w0 : World} {ds : List Deferred} {Q : Exit → Act → World → Prop} {F : Fr} {L Ls : Lo} {ops : Array Oper} {rem : List (Nat × Oper)} {r : Option Nat} {n : Nat}
theorem XH.ofRS {l : List Oper} (wS : World) (Ls : Lo) (p q : List Nat) (hr : pickR l q = some rem)
    (hp : (pureOk l.toArray (Array.replicate l.length false) p && partB l.length p q) = true)
    (h : Fw P N B wS ds False (fun F' => XR P N B wS w0 ds Q Ls l.toArray rem F' L) l.toArray Ls (pickO l.toArray p) F) : XH P N B wS w0 ds Q Ls l.toArray (Array.replicate l.toArray.size false) F L := by
  simp only [Bool.and_eq_true] at hp
  refine XH.pure p (by simpa using hp.1) ?_
  have key : ∀ F', XR P N B wS w0 ds Q Ls l.toArray rem F' L → XH P N B wS w0 ds Q Ls l.toArray (setAll (Array.replicate l.toArray.size false) p) F' L := by
    intro F' hx
    have hset : ∀ (p : List Nat) (D : Array Bool) (i : Nat), i < D.size → on (setAll D p) i = (on D i || p.contains i) := by
      intro p
      induction p with
      | nil => intro D i _; simp [setAll]
      | cons j r ih =>
        intro D i hi
        rw [setAll, ih _ _ (by simpa using hi)]
        by_cases hj : j < D.size
        · rw [on_set hj]
          simp only [List.contains_cons]
          cases on D i <;> simp
        · have : D.setIfInBounds j true = D := Array.setIfInBounds_eq_of_size_le (by omega)
          rw [this]
          have hne : ¬ i = j := by omega
          simp [List.contains_cons, hne]
    have hsz : ∀ (p : List Nat) (D : Array Bool), (setAll D p).size = D.size := by
      intro p
      induction p with
      | nil => intro D; rfl
      | cons j r ih => intro D; rw [setAll, ih]; simp
    obtain ⟨h1, h2⟩ := pickR_spec hr
    have hpart := hp.2
    unfold partB at hpart
    simp only [Bool.and_eq_true, List.all_eq_true, List.mem_range, decide_eq_true_eq] at hpart
    obtain ⟨⟨h3, h4⟩, h5⟩ := hpart
    have hD : RemOk l.toArray (setAll (Array.replicate l.toArray.size false) p) rem := by
      refine ⟨by rw [hsz]; simp, fun e he => by simpa using h2 e he, fun i hi => ?_, by rw [h1]; exact h5⟩
      have hi' : i < l.length := by simpa using hi
      rw [hset _ _ _ (by simpa using hi')]
      have h6 : on (Array.replicate l.toArray.size false) i = false := by unfold on; simp [hi']
      rw [h6, Bool.false_or]
      have h7 := h3 i hi'
      have h8 : inRem rem i = q.contains i := by
        rw [Bool.eq_iff_iff, inRem_iff, List.contains_iff_mem, ← h1]
        simp only [List.mem_map, Prod.exists, exists_and_right, exists_eq_right]
      rw [h8]
      cases h9 : p.contains i <;> cases h10 : q.contains i <;> rw [h9, h10] at h7 <;> simp_all
    exact ⟨fun fuel a w hc hf hs hS => hx.run _ fuel a w hD hc hf hs hS⟩
  exact ⟨by
    have := h.run
    exact (show ∀ (ops : List Oper) (F : Fr) (K K' : Fr → Prop), (∀ F', K F' → K' F') → Fw0 P N B wS ds False l.toArray Ls K ops F → Fw0 P N B wS ds False l.toArray Ls K' ops F from by
      intro ops
      induction ops with
      | nil => intro F K K' hk h; exact hk _ h
      | cons o r ih => rintro F K K' hk ⟨v, h1, h2⟩; exact ⟨v, h1, ih _ _ _ hk h2⟩) _ _ _ _ (fun F' ⟨G', h1, h2⟩ => ⟨G', h1, key _ h2⟩) this⟩
/-- a region that draws its order, in a round's frame. -/
theorem wpAnyIn_of {md : Region.Mode} {K : Act → World → Prop} {Q' : Exit → Act → World → Prop} (hd : ∀ (i : Nat) (o : Oper), ops[i]? = some o → notDefer o = true) (hK : ∀ a w, K a w → Q' .normal a w) : ∀ (fuel : Nat) (listed : Array Bool) (a : Act) (w : World), wpAny P md ops (only K) fuel listed a w → wpAnyIn (fen r) n P md ops Q' fuel listed a w := by
  intro fuel
  induction fuel with
  | zero => intro listed a w h; exact ⟨h.1, hK _ _ h.2⟩
  | succ fuel ih =>
    intro listed a w h
    refine ⟨fun h0 => hK _ _ (h.1 h0), fun i hi => ?_⟩
    have h1 := h.2 i hi
    unfold wpOp at h1
    unfold wpOpIn
    split
    · rename_i ho
      rw [ho] at h1
      exact ih _ _ _ h1
    · rename_i o ho
      rw [ho] at h1
      simp only at h1
      split
      · rename_i hw
        rw [if_pos hw] at h1
        rcases h1 with h1 | ⟨_, a0, w0, q⟩
        · refine ⟨fun f _ => fen_fn r f, ?_⟩
          rw [fen_round]
          rw [Oper.semAt_eq r a.eval o (fun c e => by have := hd i o ho; simp [notDefer, e] at this)]
          refine upon_in (Q := only K) only_normal ?_
          have h2 : o.wp P a w (wpAnyIn (fen r) n P md ops Q' fuel (listed.setIfInBounds i true)) (only K) := Oper.wp_mono (fun a w h => ih _ _ _ h) h1
          exact h2
        · exact q.elim
      · rename_i hw
        rw [if_neg hw] at h1
        exact ⟨fun f _ => fen_fn r f, ih _ _ _ h1⟩
theorem XR'.drawRS {id : Nat} {l : List Oper} (wS : World) (Ls : Lo) (p q : List Nat) (hm : P.follows .mixedOrders = true) (hL : ∀ w, Sys B w0 L w → Sys B wS Ls w) (hr : pickR l q = some rem) (hnd : l.all notDefer = true)
    (hp : (pureOk l.toArray (Array.replicate l.length false) p && partB l.length p q) = true)
    (h : Fw P N B wS ds False (fun F' => XR P N B wS w0 ds (only fun a w => Q .normal a w) Ls l.toArray rem F' L) l.toArray Ls (pickO l.toArray p) F) : XR' P N B w0 ds Q r n (.region id l.toArray true) F L :=
  ⟨fun a w hf hs => by
    have h1 := (XH.ofRS (Q := only fun a w => Q .normal a w) wS Ls p q hr hp h).run l.toArray.size a { w with drawn := w.drawn + 1 } (by simp) hf hs.drew (hL _ hs.drew)
    refine wpIn_region_any hm (wpAnyIn_of (K := fun a w => Q .normal a w) (fun i o ho => ?_) (fun _ _ h => h) _ _ _ _ (wpAny_of_held _ _ _ _ h1))
    exact List.all_eq_true.1 hnd o (List.mem_of_getElem? (by simpa using ho))⟩
theorem XR'.exit {id : Nat} (h : XE N B w0 ds Q (.exit id) F L) : XR' P N B w0 ds Q r n (.exit id) F L := ⟨fun a w hf hs => wpIn_exit (h.run a w hf hs)⟩
theorem XE.onlyN (h : XE N B w0 ds Q .normal F L) : XE N B w0 ds (only fun a w => Q .normal a w) .normal F L := ⟨h.run⟩
end
end Go.Proofs.Ytmckmlmfilmiaaa.X
/-
  A call that makes new things, of which it is kept what it left as it was; a drawn region with such a call whose reads are of things made by this call's caller.
-/
namespace Go.Proofs.Ytmckmlmfilmiaaa.X
open Go Go.RowKit
set_option linter.unusedVariables false
section
variable {P : Program} {T : TT} {N : Nat} {B : Nat} {wS w0 : World} {ds : List Deferred} {Q : Exit → Act → World → Prop} {F : Fr} {L L' Ls : Lo} {ops : Array Oper} {rest : List Oper} {rem : List (Nat × Oper)} {ty : TypeId} {p : String} {af : Array Edge}
variable {dst : Option Tmp} {gd : Option (Nat × Bool)} {pu : Prop}
/-- an element's place in an array that lies at an address. -/
theorem Ev.idxArrP {t e : TypeId} {x i : Operand} {ad : Addr} {m sz : Nat} {k : IntKind} {q : Int} (j : Nat) (ht : arrB (P.underlying t) = some (m, e)) (he : (P.info? e).map (·.size) = some sz) (hx : evo F x = some (.pointer (some ad))) (hi : evo F i = some (.int k q)) (hq : q = (j : Int)) (h1 : j < m) :
    Ev P N B w0 ds pu F L ⟨dst, .indexAddr t x i, ty, p, af, gd⟩ (.pointer (some (ad.add (j * sz)))) :=
  .of_run fun a w hf hw => by
    subst hq
    have hu : P.underlying t = some (.array m e) := by
      unfold arrB at ht
      split at ht
      · rename_i h; simp only [Option.some.injEq, Prod.mk.injEq] at ht; obtain ⟨rfl, rfl⟩ := ht; exact h
      · cases ht
    cases hi2 : P.info? e with
    | none => rw [hi2] at he; cases he
    | some z =>
      have hz := sizeOf_run hi2 w
      rw [hi2] at he
      simp only [Option.map_some, Option.some.injEq] at he
      have h2 : (j : Int) < m := by omega
      simp [execOp, hf.eval hx, hf.eval hi, Instr.indexAt, asIntOf, Instr.sureAddr, run_underlying hu, h2, hz, he]
      exact fun h9 => absurd h9 (by omega)
end
end Go.Proofs.Ytmckmlmfilmiaaa.X
/-
  The walk of the iterator of all.
-/
namespace Go.Proofs.Ytmckmlmfilmiaaa.X
open Go Go.RowKit Go.Proofs.Ytmckmlmfilmiaaa.Bs
set_option linter.unusedVariables false
section
variable {base B : Nat} {ks : List Nat} {row : Option Nat} {W W' W2 : World} {v : Value} {ms : List Mom} {L : Lo}
end
end Go.Proofs.Ytmckmlmfilmiaaa.X
/-
  The walk of all.
-/
namespace Go.Proofs.Ytmckmlmfilmiaaa.X
open Go Go.RowKit Go.Proofs.Ytmckmlmfilmiaaa.Bs
set_option linter.unusedVariables false
/-- a list of moments in memory. -/
structure MomRow (w : World) (ok : Nat → Prop) (r : SV) (ms : List Mom) : Prop where
  rd : ReadsP w ok 7 r.A r.n (ms.flatMap Mom.c)
  max : r.n ≤ 1000
  ins : ∀ m, m ∈ ms → IntsAt w ok m.q m.s.fil ∧ IntsAt w ok m.r m.f.taken
end Go.Proofs.Ytmckmlmfilmiaaa.X
/-
  errors.As at a target of type **basin.failure (the lines of the worked proof ToyasAs, turned to this program): as_nil, as_hit.
-/
namespace Go.Proofs.Ytmckmlmfilmiaaa.As
open Go Go.RowKit Go.Extern.Stop Go.Stop Go.Extern

/-! ### CLOSED FACTS ON THE MODEL's ENTRIES FOR internal/reflectlite, at this program's types: 25: *p.E · 27: **p.E · 23: error · 45: reflectlite's rtype · 1: how many package-level variables the dump has -/
/-! ### THE ENTRIES THAT READ OR WRITE MEMORY: laws with a premise on the cell (after Derived/Lib/ReflectliteSlice.lean's manner: each unfolding a lemma of its own, by rfl) -/
end Go.Proofs.Ytmckmlmfilmiaaa.As
/-
  errors.As by its contracts; the walk of run.
-/
namespace Go.Proofs.Ytmckmlmfilmiaaa.X
open Go Go.RowKit Go.Proofs.Ytmckmlmfilmiaaa.Bs
set_option linter.unusedVariables false
/-- what run answers. -/
def RunR (b : Bas) (s : Sta) (ts : List Tick) (w : World) (v : Value) (w' : World) : Prop :=
  ((runE b s ts ≠ 0 ∧ v = .tuple ⟨[.slice none 0 0, .int .i64 (runE b s ts)]⟩) ∨
   (runE b s ts = 0 ∧ staErr b s = 0 ∧ ts.length ≤ 300 ∧ (∀ k, k < ts.length → errAt b s ts k = 0) ∧ ∃ r ms, v = .tuple ⟨[svV r, .int .i64 0]⟩ ∧ MomRow w' (Btw w.heap.size w'.heap.size) r ms ∧ ms.map Mom.p = momsAt b s ts ts.length)) ∧ Below w.heap.size w w'
end Go.Proofs.Ytmckmlmfilmiaaa.X
/-
  The walks of passed and of Stay.
-/
namespace Go.Proofs.Ytmckmlmfilmiaaa.X
open Go Go.RowKit Go.Proofs.Ytmckmlmfilmiaaa.Bs
set_option linter.unusedVariables false
/-- the level of volume v is above lim. -/
def overB (b : Bas) (lim v : Int) : Bool := decide (lim * den b v < num b v)
section
variable {p : BV} {b : Bas} {lim : Int} {w : World} {gb gl : Nat}
/-- the first moment whose level is above lim. -/
def firstOver (b : Bas) (lim : Int) (ms : List Mom) : Nat := ms.findIdx fun m => overB b lim m.s.vol
end
/-- what Stay answers: the hour and the fault. -/
noncomputable def stayE (b : Bas) (s : Sta) (ts : List Tick) (lim : Int) : Int := if runE b s ts ≠ 0 then runE b s ts else if outB lim (b.row 0).level 20000 = true then 7 else 0
noncomputable def stayN (b : Bas) (s : Sta) (ts : List Tick) (lim : Int) : Int := if stayE b s ts lim ≠ 0 then 0 else (((momsAt b s ts ts.length).findIdx fun x => overB b lim x.1.vol : Nat) : Int)
end Go.Proofs.Ytmckmlmfilmiaaa.X
/-
  The example's basin in plain words.
-/
namespace Go.Proofs.Ytmckmlmfilmiaaa.Bs
open Go.Proofs.Ytmckmlmfilmiaaa.X
def exB : Bas := ⟨[⟨-1000, 0⟩, ⟨0, 1000000⟩, ⟨2000, 5000000⟩], 100, 3000, 500, [⟨⟨#[108, 111, 119]⟩, 200, 300, 50000⟩, ⟨⟨#[104, 105, 103, 104]⟩, 1000, 200, 400000⟩]⟩
def exS : Sta := ⟨1000000, [0, 0]⟩
def exT : Tick := ⟨2500, 60000, 0⟩
def exTs : List Tick := [exT, exT, exT]
end Go.Proofs.Ytmckmlmfilmiaaa.Bs
/-
  The examples' functions; Volume at a level that is out of the basin; Awake.
-/
namespace Go.Proofs.Ytmckmlmfilmiaaa.X
open Go Go.RowKit Go.Proofs.Ytmckmlmfilmiaaa.Bs
set_option linter.unusedVariables false
structure BasAtP (w : World) (ok : Nat → Prop) (p : BV) (b : Bas) : Prop where
  rows : ReadsP w ok 2 p.A p.n (b.rows.flatMap rowC)
  pols : ReadsP w ok 4 p.A2 p.n2 (b.pols.flatMap polC)
  cap : p.n ≤ p.c
  len : p.n ≤ 9223372036854775807
  len2 : p.n2 ≤ 9223372036854775807
  names : ∀ q, q ∈ b.pols → q.name.size ≤ 9223372036854775807
section
variable {w w' w0 : World} {ok ok' : Nat → Prop} {B : Nat} {p : BV} {b : Bas} {L : Lo}
end
end Go.Proofs.Ytmckmlmfilmiaaa.X
/-
  The law BasinSteps.
-/
namespace Go.Proofs.Ytmckmlmfilmiaaa.X
open Go Go.RowKit Go.Proofs.Ytmckmlmfilmiaaa.Bs
set_option linter.unusedVariables false
end Go.Proofs.Ytmckmlmfilmiaaa.X
/-
  Lists of states and of flows in memory; the walk of Run.
-/
namespace Go.Proofs.Ytmckmlmfilmiaaa.Bs
/-- what Run answers. -/
noncomputable def runS (b : Bas) (s : Sta) (ts : List Tick) : List Sta := if runE b s ts ≠ 0 then [] else (List.range ts.length).map fun i => staAt b s ts (i + 1)
noncomputable def runF (b : Bas) (s : Sta) (ts : List Tick) : List Flo := if runE b s ts ≠ 0 then [] else (List.range ts.length).map fun i => floAt b s ts i
end Go.Proofs.Ytmckmlmfilmiaaa.Bs
namespace Go.Proofs.Ytmckmlmfilmiaaa.X
open Go Go.RowKit Go.Proofs.Ytmckmlmfilmiaaa.Bs
set_option linter.unusedVariables false
structure StaI where
  s : Sta
  q : SV
structure FloI where
  f : Flo
  r : SV
def StaI.c (a : StaI) : List Value := staC a.q a.s
def FloI.c (a : FloI) : List Value := floC a.r a.f
def staK : Kind StaI := ⟨28, 2, StaI.c, fun a => [hInts a.q a.s.fil], fun _ => rfl⟩
def floK : Kind FloI := ⟨162, 5, FloI.c, fun a => [hInts a.r a.f.taken], fun _ => rfl⟩
def Mom.a (m : Mom) : StaI := ⟨m.s, m.q⟩
def Mom.b (m : Mom) : FloI := ⟨m.f, m.r⟩
/-- what Run leaves. -/
def RunsR (b : Bas) (s : Sta) (ts : List Tick) (w : World) (v : Value) (w' : World) : Prop :=
  ∃ (r1 r2 : SV) (l1 : List StaI) (l2 : List FloI), v = .tuple ⟨[svV r1, svV r2, .int .i64 (runE b s ts)]⟩ ∧ ListAt staK w' (Btw w.heap.size w'.heap.size) r1 l1 ∧ ListAt floK w' (Btw w.heap.size w'.heap.size) r2 l2 ∧
    l1.map (·.s) = runS b s ts ∧ l2.map (·.f) = runF b s ts ∧ Below w.heap.size w w'
end Go.Proofs.Ytmckmlmfilmiaaa.X
/-
  The walk of the document's Run.
-/
namespace Go.Proofs.Ytmckmlmfilmiaaa.X
open Go Go.RowKit Go.Proofs.Ytmckmlmfilmiaaa.Bs
set_option linter.unusedVariables false
/-- what a tick gives. -/
def StepV (b : Bas) (s : Sta) (t : Tick) (v : Value) (new : List Held) : Prop := ∃ q r : SV, v = .tuple ⟨[staV q (outS b s t), floV r (outF b s t), .int .i64 (stepE b s t)]⟩ ∧ new = [hInts q (outS b s t).fil, hInts r (outF b s t).taken]
def RunV (b : Bas) (s : Sta) (ts : List Tick) (v : Value) (new : List Held) : Prop :=
  ∃ (r1 r2 : SV) (l1 : List StaI) (l2 : List FloI), v = .tuple ⟨[svV r1, svV r2, .int .i64 (runE b s ts)]⟩ ∧ new = [hList staK r1 l1, hList floK r2 l2] ∧ l1.map (·.s) = runS b s ts ∧ l2.map (·.f) = runF b s ts
end Go.Proofs.Ytmckmlmfilmiaaa.X
/-
  The walk of SameRun on equal runs; the law BasinRuns.
-/
namespace Go.Proofs.Ytmckmlmfilmiaaa.X
open Go Go.RowKit Go.Proofs.Ytmckmlmfilmiaaa.Bs
set_option linter.unusedVariables false
end Go.Proofs.Ytmckmlmfilmiaaa.X
/-
  The walks of the document's stay and Stay; of both Floods.
-/
namespace Go.Proofs.Ytmckmlmfilmiaaa.Bs
def Flo.t (f : Flo) (i : Nat) : Int := f.taken[i]?.getD 0
/-- the first tick in which polder i takes water, or -1. -/
def firstF (fs : List Flo) (i : Nat) : Int := match fs.findIdx? fun f => decide (0 < f.t i) with
  | some k => ((k : Nat) : Int)
  | none => -1
noncomputable def floods (b : Bas) (s : Sta) (ts : List Tick) : List Int := if runE b s ts ≠ 0 then [] else (List.range b.pols.length).map (firstF (runF b s ts))
end Go.Proofs.Ytmckmlmfilmiaaa.Bs
namespace Go.Proofs.Ytmckmlmfilmiaaa.X
open Go Go.RowKit Go.Proofs.Ytmckmlmfilmiaaa.Bs
set_option linter.unusedVariables false
end Go.Proofs.Ytmckmlmfilmiaaa.X
/-
  The walks of both Floods.
-/
namespace Go.Proofs.Ytmckmlmfilmiaaa.Bs
/-- the first tick from m on in which polder i takes water. -/
def firstG (fs : List Flo) (i m : Nat) : Int := match (fs.drop m).findIdx? fun f => decide (0 < f.t i) with
  | some k => (((m + k : Nat)) : Int)
  | none => -1
end Go.Proofs.Ytmckmlmfilmiaaa.Bs
namespace Go.Proofs.Ytmckmlmfilmiaaa.X
open Go Go.RowKit Go.Proofs.Ytmckmlmfilmiaaa.Bs
set_option linter.unusedVariables false
def intK : Kind Int := ⟨3, 1, fun k => [.int .i64 k], fun _ => [], fun _ => rfl⟩
/-- what Floods leaves. -/
def FloodV (b : Bas) (s : Sta) (ts : List Tick) (v : Value) (new : List Held) : Prop := ∃ r : SV, v = .tuple ⟨[svV r, .int .i64 (runE b s ts)]⟩ ∧ new = [hInts r (floods b s ts)]
def idxV (ms : List Mom) (P : Mom → Bool) : Int := match ms.findIdx? P with
  | some i => ((i : Nat) : Int)
  | none => -1
end Go.Proofs.Ytmckmlmfilmiaaa.X
/-
  The walk of the document's Floods; the law BasinStays.
-/
namespace Go.Proofs.Ytmckmlmfilmiaaa.X
open Go Go.RowKit Go.Proofs.Ytmckmlmfilmiaaa.Bs
set_option linter.unusedVariables false
/-- a case. -/
structure CV where
  q : SV
  r : SV
structure Cas where
  s : Sta
  ts : List Tick
  lim : Int
def caseC (x : CV) (c : Cas) : List Value := [.int .i64 c.s.vol, .slice x.q.A x.q.n x.q.c, .slice x.r.A x.r.n x.r.c, .int .i64 c.lim]
def caseV (x : CV) (c : Cas) : Value := .agg ⟨caseC x c⟩
structure CaseAt (w : World) (ok : Nat → Prop) (x : CV) (c : Cas) : Prop where
  fil : IntsAt w ok x.q c.s.fil
  tks : TksAt w ok x.r c.ts
end Go.Proofs.Ytmckmlmfilmiaaa.X
/-
  The plain words of layer 4: levels of volumes and volumes of levels, and that both are in order.
-/
namespace Go.Proofs.Ytmckmlmfilmiaaa.Bs
set_option linter.unusedVariables false
/-- the piece in which a level lies. -/
def lsegTo (b : Bas) (l : Int) : Nat → Nat
  | 0 => 0
  | k + 1 => if (b.row (k + 1)).level ≤ l then k + 1 else lsegTo b l k
def lseg (b : Bas) (l : Int) : Nat := lsegTo b l (b.rows.length - 2)
/-- the greatest volume whose level is at most l, as the program reckons it. -/
def volAt (b : Bas) (l : Int) : Int := (b.row (lseg b l)).vol + (l - (b.row (lseg b l)).level) * ((b.row (lseg b l + 1)).vol - (b.row (lseg b l)).vol) / ((b.row (lseg b l + 1)).level - (b.row (lseg b l)).level)
def volOf (b : Bas) (l : Int) : Int := min 1000000000 (volAt b l)
def levLo (b : Bas) (v : Int) : Int := num b v / den b v
def levHi (b : Bas) (v : Int) : Int := -((-(num b v)) / den b v)
section
variable {b : Bas} (h : RowsOk b)
include h
end
end Go.Proofs.Ytmckmlmfilmiaaa.Bs
/-
  The walks of Level and of Volume (both texts); the law BasinChecks.
-/
namespace Go.Proofs.Ytmckmlmfilmiaaa.Bs
/-- what Level answers: the fault, and the least and greatest whole level. -/
noncomputable def lvlE (b : Bas) (v : Int) : Int := if chkE b ≠ 0 then chkE b else if outB v (b.row 0).vol 1000000000 = true then 7 else 0
noncomputable def lvlLo (b : Bas) (v : Int) : Int := if lvlE b v ≠ 0 then 0 else levLo b v
noncomputable def lvlHi (b : Bas) (v : Int) : Int := if lvlE b v ≠ 0 then 0 else levHi b v
/-- what Volume answers. -/
noncomputable def volE (b : Bas) (l : Int) : Int := if chkE b ≠ 0 then chkE b else if outB l (b.row 0).level 20000 = true then 7 else 0
noncomputable def volN (b : Bas) (l : Int) : Int := if volE b l ≠ 0 then 0 else volOf b l
end Go.Proofs.Ytmckmlmfilmiaaa.Bs
namespace Go.Proofs.Ytmckmlmfilmiaaa.X
open Go Go.RowKit Go.Proofs.Ytmckmlmfilmiaaa.Bs
set_option linter.unusedVariables false
section
variable {N : Nat} {B : Nat} {w0 : World} {ds : List Deferred} {F : Fr} {L : Lo} {pu : Prop} {dst : Option Tmp} {ty : TypeId} {p : String} {af : Array Edge} {gd : Option (Nat × Bool)}
end
end Go.Proofs.Ytmckmlmfilmiaaa.X
/-
  The law BasinLasts.
-/
namespace Go.Proofs.Ytmckmlmfilmiaaa.Bs
end Go.Proofs.Ytmckmlmfilmiaaa.Bs
namespace Go.Proofs.Ytmckmlmfilmiaaa.X
open Go Go.RowKit Go.Proofs.Ytmckmlmfilmiaaa.Bs
set_option linter.unusedVariables false
section
variable {P : Program} {N : Nat} {B : Nat} {w0 : World} {ds : List Deferred} {F : Fr} {L : Lo} {pu : Prop} {dst : Option Tmp} {ty : TypeId} {p : String} {af : Array Edge} {gd : Option (Nat × Bool)}
end
end Go.Proofs.Ytmckmlmfilmiaaa.X
/-
  The law BasinRests.
-/
namespace Go.Proofs.Ytmckmlmfilmiaaa.Bs
/-- a basin without leak and waves. -/
def calm (b : Bas) : Bas := ⟨b.rows, 0, b.crest, 0, b.pols⟩
def restT (o : Int) : Tick := ⟨o.tmod 20001, 0, 0⟩
section
variable {b : Bas} (ho : Ok (calm b)) {s : Sta} (hs : StaOk (calm b) s) (hsill : ∀ j, j < b.pols.length → levHi (calm b) s.vol ≤ (b.pol j).sill)
include ho hs hsill
omit hs in
end
end Go.Proofs.Ytmckmlmfilmiaaa.Bs
namespace Go.Proofs.Ytmckmlmfilmiaaa.X
open Go Go.RowKit Go.Proofs.Ytmckmlmfilmiaaa.Bs
set_option linter.unusedVariables false
def tickK : Kind Tick := ⟨166, 3, tickC, fun _ => [], tickC_len⟩
end Go.Proofs.Ytmckmlmfilmiaaa.X
/-
  The plain words of layer 4: more water at first, and in each tick, is not less water later.
-/
namespace Go.Proofs.Ytmckmlmfilmiaaa.Bs
set_option linter.unusedVariables false
section
variable {b : Bas} (h : Ok b)
include h
/-- what a polder would take if it had room. -/
def takeQ (b : Bas) (i : Nat) (v : Int) : Int := (b.pol i).take * (num b v - (b.pol i).sill * den b v) / den b v
/-- a state that is not less. -/
structure StaLe (b : Bas) (s s' : Sta) : Prop where
  vol : s.vol ≤ s'.vol
  fil : ∀ i, i < b.pols.length → s.f i ≤ s'.f i
/-- a tick that brings no less. -/
structure TickLe (t t' : Tick) : Prop where
  outer : t.outer ≤ t'.outer
  river : t.river ≤ t'.river
  out : t'.out ≤ t.out
end
end Go.Proofs.Ytmckmlmfilmiaaa.Bs
/-
  The plain words of layer 4: a worse case through all its ticks.
-/
namespace Go.Proofs.Ytmckmlmfilmiaaa.Bs
set_option linter.unusedVariables false
/-- a case that is worse, where the numbers of the other one are fine. -/
structure CaseLe (b : Bas) (s s' : Sta) (ts ts' : List Tick) : Prop where
  len : ts'.length = ts.length
  sta : StaOk b s → StaLe b s s'
  tick : ∀ k, k < ts.length → tickBad (tk ts k) = false → TickLe (tk ts k) (tk ts' k)
section
variable {b : Bas} {s s' : Sta} {ts ts' : List Tick}
end
end Go.Proofs.Ytmckmlmfilmiaaa.Bs
/-
  The plain words of layer 4: sums, what Total answers, and that the water balances. No program stands here.
-/
namespace Go.Proofs.Ytmckmlmfilmiaaa.Bs
open Go.Proofs.Ytmckmlmfilmiaaa.X
set_option linter.unusedVariables false
def sumTo (g : Nat → Int) : Nat → Int
  | 0 => 0
  | k + 1 => sumTo g k + g k
/-- a flow that is out of bounds. -/
def farB (n : Int) : Bool := outB n (-1000000000) 1000000000
def floBad (f : Flo) : Bool := farB f.river || (farB f.over || (farB f.leak || (farB f.out || f.taken.any farB)))
def floShort (b : Bas) (f : Flo) : Bool := decide (f.taken.length ≠ b.pols.length)
noncomputable def totE (b : Bas) (l : List Flo) : Int := if chkE b ≠ 0 then chkE b else if 300 < l.length then 3 else if l.any (floShort b) = true then 2 else if l.any floBad = true then 7 else 0
def fl (l : List Flo) (k : Nat) : Flo := l[k]?.getD ⟨0, 0, 0, 0, []⟩
def takTo (l : List Flo) (k i : Nat) : Int := sumTo (fun j => (fl l j).t i) k
/-- the sums of the first k flows; of the next one the first i polders. -/
def totA (b : Bas) (l : List Flo) (k : Nat) : Flo := ⟨sumTo (fun j => (fl l j).river) k, sumTo (fun j => (fl l j).over) k, sumTo (fun j => (fl l j).leak) k, sumTo (fun j => (fl l j).out) k, rg b.pols.length (takTo l k)⟩
noncomputable def totF (b : Bas) (l : List Flo) : Flo := if totE b l ≠ 0 then ⟨0, 0, 0, 0, []⟩ else totA b l l.length
/-- a flow within bounds. -/
structure FloFine (f : Flo) : Prop where
  river : -1000000000 ≤ f.river ∧ f.river ≤ 1000000000
  over : -1000000000 ≤ f.over ∧ f.over ≤ 1000000000
  leak : -1000000000 ≤ f.leak ∧ f.leak ≤ 1000000000
  out : -1000000000 ≤ f.out ∧ f.out ≤ 1000000000
  taken : ∀ i, i < f.taken.length → -1000000000 ≤ f.t i ∧ f.t i ≤ 1000000000
/-- the bounds of what Total adds. -/
structure TotBd (b : Bas) (l : List Flo) : Prop where
  short : l.length ≤ 300
  len : ∀ k, k < l.length → (fl l k).taken.length = b.pols.length
  fine : ∀ k, k < l.length → FloFine (fl l k)
section
variable {b : Bas} {l : List Flo} (h : TotBd b l)
include h
end
section
variable {b : Bas} {s : Sta} {ts : List Tick}
end
end Go.Proofs.Ytmckmlmfilmiaaa.Bs
/-
  The walk of Total: what it looks through.
-/
namespace Go.Proofs.Ytmckmlmfilmiaaa.Bs
/-- the first j of m numbers from g, the others from f. -/
def mixL (m : Nat) (f g : Nat → Int) (j : Nat) : List Int := rg m fun i => if i < j then g i else f i
end Go.Proofs.Ytmckmlmfilmiaaa.Bs
namespace Go.Proofs.Ytmckmlmfilmiaaa.X
open Go Go.RowKit Go.Proofs.Ytmckmlmfilmiaaa.Bs
set_option linter.unusedVariables false
/-- what Total leaves. -/
def TotV (b : Bas) (l : List Flo) (v : Value) (new : List Held) : Prop := ∃ r : SV, v = .tuple ⟨[floV r (totF b l), .int .i64 (totE b l)]⟩ ∧ new = [hInts r (totF b l).taken]
set_option maxHeartbeats 4000000 in
theorem idxInt {f : FuncId} {cap : List Value} {P : Int → Bool} {r : SV} {ms : List Int} {w : World} (hck : callOk Try.prog f = true) (hr : IntsAt w (Lt w.heap.size) r ms) (hn : ms.length ≤ 1000)
    (hc : ∀ m, m ∈ ms → ∀ w', Below w.heap.size w w' → Calls Try.prog f ([] ++ [Value.int .i64 m] ++ cap).toArray w' fun e w'' => e = .returned (.bool (P m)) ∧ Below w'.heap.size w' w'') :
    Calls Try.prog 109 #[svV r, .func (.func f) #[] cap.toArray] w fun e w' => e = .returned (.int .i64 (idxL ms P)) ∧ Below w.heap.size w w' := by
  obtain ⟨A, n, c⟩ := r
  have hln := hr.len
  simp only at hln
  subst hln
  simp only [svV]
  refine enter Try.func109 rfl Try.ntmps109 rfl ?_; simp only [frame, Nat.zero_add, Nat.reduceAdd]
  repeat (first | (refine M0 ?_; first | refine SL ?_ | refine SB fun _ _ => ?_) | (refine M1 ?_; first | refine SC ?_ | refine SD ?_) | (refine M2 ?_; refine SE ?_) | (refine M3 ?_; first | refine SG ?_ | refine SF ?_) | (refine M4 ?_; refine SR ?_) | (refine M5 ?_; first | exact M7 | refine YM ?_ | refine YN ?_ ?_))
  refine XC.loopk [0, 1, 7] rfl (fun k : Nat => [(8, .int .i64 (k : Nat))]) (fun _ => []) (fun _ => w) (fun k => k ≤ ms.length ∧ ∀ j m, j < k → ms[j]? = some m → P m = false) (fun k => ms.length - k) 0 ⟨Nat.zero_le _, fun j m h => absurd h (by omega)⟩ ZZSUB (fun _ h => h) ?_
  rintro k ⟨hk, h0⟩
  dsimp only [List.cons_append, List.nil_append]
  repeat (first | (refine M0 ?_; first | refine SL ?_ | refine SB fun _ _ => ?_) | (refine M1 ?_; first | refine SC ?_ | refine SD ?_) | (refine M2 ?_; refine SE ?_) | (refine M3 ?_; first | refine SG ?_ | refine SF ?_) | (refine M4 ?_; refine SR ?_) | (refine M5 ?_; first | exact M7 | refine YM ?_ | refine YN ?_ ?_))
  refine XC.cond _ rfl (fun h3 => ?_) (fun h3 => ?_)
  · have hkn : k < ms.length := by simpa using h3
    obtain ⟨ad, rfl, hlt, hcells⟩ := hr.at_ (by omega)
    have hmk : ms[k]? = some ms[k] := List.getElem?_eq_getElem hkn
    have hcell := hcells k hkn
    rw [show at0 ms k = ms[k] by simp [at0, hkn]] at hcell
    repeat (first | (refine M0 ?_; first | refine SL ?_ | refine SB fun _ _ => ?_ | refine Y4 (Ev.load_old tok rfl rfl (add_lt hlt) hcell) ?_ | refine Y4 (Ev.callv (f := f) (fst := []) (cap := cap) hck rfl rfl (fun w S => hc _ (List.getElem_mem hkn) w S.toBelow)) ?_) | (refine M1 ?_; first | refine SC ?_ | refine SD ?_) | (refine M2 ?_; refine SE ?_) | (refine M3 ?_; first | refine SG ?_ | refine SF ?_ | refine YF (Ev.load_old tok rfl rfl (add_lt hlt) hcell) ?_ | refine YF (Ev.callv (f := f) (fst := []) (cap := cap) hck rfl rfl (fun w S => hc _ (List.getElem_mem hkn) w S.toBelow)) ?_) | (refine M4 ?_; refine SR ?_) | (refine M5 ?_; first | exact M7 | refine YM ?_ | refine YN ?_ ?_))
    refine XC.cond _ rfl (fun h4 => ?_) (fun h4 => ?_)
    · repeat (first | (refine M0 ?_; first | refine SL ?_ | refine SB fun _ _ => ?_) | (refine M1 ?_; first | refine SC ?_ | refine SD ?_) | (refine M2 ?_; refine SE ?_) | (refine M3 ?_; first | refine SG ?_ | refine SF ?_) | (refine M4 ?_; refine SR ?_) | (refine M5 ?_; first | exact M7 | refine YM ?_ | refine YN ?_ ?_))
      refine XE.retg tok Try.results109 rfl (by simp only [and_self, and_true]) (fun w' S => ?_)
      have : ms.findIdx? P = some k := by
        rw [List.findIdx?_eq_some_iff_getElem]
        exact ⟨hkn, h4, fun j hj => by simpa using h0 j _ hj (List.getElem?_eq_getElem (by omega))⟩
      unfold idxL
      rw [this]
      exact ⟨rfl, S.toBelow⟩
    · repeat (first | (refine M0 ?_; first | refine SL ?_ | refine SB fun _ _ => ?_) | (refine M1 ?_; first | refine SC ?_ | refine SD ?_) | (refine M2 ?_; refine SE ?_) | (refine M3 ?_; first | refine SG ?_ | refine SF ?_) | (refine M4 ?_; refine SR ?_) | (refine M5 ?_; first | exact M7 | refine YM ?_ | refine YN ?_ ?_))
      refine XE.round (k + 1) ⟨hkn, fun j m hj hm => ?_⟩ (by omega) ZZSUB (fun _ h => h)
      rcases Nat.lt_or_ge j k with h5 | h5
      · exact h0 j m h5 hm
      · have : j = k := by omega
        subst this
        rw [hmk] at hm
        cases hm
        exact h4
  · have hkn : ¬ k < ms.length := by simpa using h3
    repeat (first | (refine M0 ?_; first | refine SL ?_ | refine SB fun _ _ => ?_) | (refine M1 ?_; first | refine SC ?_ | refine SD ?_) | (refine M2 ?_; refine SE ?_) | (refine M3 ?_; first | refine SG ?_ | refine SF ?_) | (refine M4 ?_; refine SR ?_) | (refine M5 ?_; first | exact M7 | refine YM ?_ | refine YN ?_ ?_))
    refine XE.retg tok Try.results109 rfl (by simp only [and_self, and_true]) (fun w' S => ?_)
    have : ms.findIdx? P = none := by
      rw [List.findIdx?_eq_none_iff]
      intro m hm
      obtain ⟨j, hj, e⟩ := List.mem_iff_getElem.1 hm
      exact h0 j m (by omega) (by rw [List.getElem?_eq_getElem hj, e])
    unfold idxL
    rw [this]
    exact ⟨rfl, S.toBelow⟩
theorem contInt {f : FuncId} {cap : List Value} {P : Int → Bool} {r : SV} {ms : List Int} {w : World} (hck : callOk Try.prog f = true) (hr : IntsAt w (Lt w.heap.size) r ms) (hn : ms.length ≤ 1000)
    (hc : ∀ m, m ∈ ms → ∀ w', Below w.heap.size w w' → Calls Try.prog f ([] ++ [Value.int .i64 m] ++ cap).toArray w' fun e w'' => e = .returned (.bool (P m)) ∧ Below w'.heap.size w' w'') :
    Calls Try.prog 96 #[svV r, .func (.func f) #[] cap.toArray] w fun e w' => e = .returned (.bool (ms.any P)) ∧ Below w.heap.size w w' := by
  obtain ⟨A, n, c⟩ := r
  simp only [svV]
  refine enter Try.func96 rfl Try.ntmps96 rfl ?_; simp only [frame, Nat.zero_add, Nat.reduceAdd]
  repeat (first | (refine M0 ?_; first | refine SL ?_ | refine SB fun _ _ => ?_ | refine Y4 (Ev.call (f := 109) (ck rfl) rfl (fun w5 S5 => (idxInt (f := f) (cap := cap) (P := P) (r := ⟨A, n, c⟩) (ms := ms) hck (hr.arg S5) hn (fun m hm w' hb => hc m hm w' (S5.toBelow.trans (hb.mono S5.size))) :))) ?_) | (refine M1 ?_; first | refine SC ?_ | refine SD ?_) | (refine M2 ?_; refine SE ?_) | (refine M3 ?_; first | refine SG ?_ | refine SF ?_ | refine YF (Ev.call (f := 109) (ck rfl) rfl (fun w5 S5 => (idxInt (f := f) (cap := cap) (P := P) (r := ⟨A, n, c⟩) (ms := ms) hck (hr.arg S5) hn (fun m hm w' hb => hc m hm w' (S5.toBelow.trans (hb.mono S5.size))) :))) ?_) | (refine M4 ?_; refine SR ?_) | (refine M5 ?_; first | exact M7 | refine YM ?_ | refine YN ?_ ?_))
  refine XE.retg tok Try.results96 rfl (by simp only [and_self, and_true]) (fun w' S => ?_)
  exact ⟨by rw [idxL_any]; rfl, S.toBelow⟩
end Go.Proofs.Ytmckmlmfilmiaaa.X
/-
  The plain words of layer 4: Need and Spare, and that they are monotone. No program stands here.
-/
namespace Go.Proofs.Ytmckmlmfilmiaaa.Bs
open Go.Proofs.Ytmckmlmfilmiaaa.X
set_option linter.unusedVariables false
def needT (t : Tick) (n : Nat) : Tick := ⟨t.outer, t.river, min 10000000 (t.out + n)⟩
def spareT (t : Tick) (n : Nat) : Tick := ⟨t.outer, t.river + n, t.out⟩
def chTs (ch : Tick → Nat → Tick) (ts : List Tick) (n : Nat) : List Tick := ts.map fun t => ch t n
/-- no fault, and never above the limit. -/
def hold (b : Bas) (s : Sta) (ts : List Tick) (lim : Int) : Prop := ∀ k, k < ts.length → errAt b s ts k = 0 ∧ overB b lim (staAt b s ts (k + 1)).vol = false
open Classical in
noncomputable def holdB (b : Bas) (s : Sta) (lim : Int) (ch : Tick → Nat → Tick) (ts : List Tick) (n : Nat) : Bool := decide (hold b s (chTs ch ts n) lim)
/-- the binary search of sort.Search. -/
def srch (P : Nat → Bool) : Nat → Nat → Nat → Nat
  | 0, i, _ => i
  | f + 1, i, j => if i < j then (if P ((i + j) / 2) = true then srch P f i ((i + j) / 2) else srch P f ((i + j) / 2 + 1) j) else i
def top : Nat := 10000001
noncomputable def askE (b : Bas) (s : Sta) (ts : List Tick) (lim : Int) : Int := if staErr b s ≠ 0 then staErr b s else if outB lim (b.row 0).level 20000 = true then 7 else runE b s ts
noncomputable def needI (b : Bas) (s : Sta) (ts : List Tick) (lim : Int) : Nat := srch (holdB b s lim needT ts) top 0 top
noncomputable def spareI (b : Bas) (s : Sta) (ts : List Tick) (lim : Int) : Nat := srch (fun n => !holdB b s lim spareT ts n) top 0 top
noncomputable def needE (b : Bas) (s : Sta) (ts : List Tick) (lim : Int) : Int := if askE b s ts lim ≠ 0 then askE b s ts lim else if 10000000 < needI b s ts lim then 9 else 0
noncomputable def needN (b : Bas) (s : Sta) (ts : List Tick) (lim : Int) : Int := if needE b s ts lim ≠ 0 then 0 else (needI b s ts lim : Int)
noncomputable def spareE (b : Bas) (s : Sta) (ts : List Tick) (lim : Int) : Int := if askE b s ts lim ≠ 0 then askE b s ts lim else if spareI b s ts lim = 0 then 9 else 0
noncomputable def spareN (b : Bas) (s : Sta) (ts : List Tick) (lim : Int) : Int := if spareE b s ts lim ≠ 0 then 0 else (spareI b s ts lim : Int) - 1
section
variable {b : Bas} {s s' : Sta} {ts ts' : List Tick} {lim : Int}
end
end Go.Proofs.Ytmckmlmfilmiaaa.Bs
/-
  The walks of sort.Search and of asked.
-/
namespace Go.Proofs.Ytmckmlmfilmiaaa.X
open Go Go.RowKit Go.Proofs.Ytmckmlmfilmiaaa.Bs
set_option linter.unusedVariables false
end Go.Proofs.Ytmckmlmfilmiaaa.X
/-
  The walks of slices.Clone of ticks, and of what changes a tick.
-/
namespace Go.Proofs.Ytmckmlmfilmiaaa.X
open Go Go.RowKit Go.Proofs.Ytmckmlmfilmiaaa.Bs
set_option linter.unusedVariables false
end Go.Proofs.Ytmckmlmfilmiaaa.X
/-
  The walks of trial and of what it returns.
-/
namespace Go.Proofs.Ytmckmlmfilmiaaa.Bs
open Go.Proofs.Ytmckmlmfilmiaaa.X
/-- the first i ticks are changed. -/
def chTo (ch : Tick → Nat → Tick) (ts : List Tick) (n i : Nat) : List Tick := (List.range ts.length).map fun j => if j < i then ch (tk ts j) n else tk ts j
end Go.Proofs.Ytmckmlmfilmiaaa.Bs
namespace Go.Proofs.Ytmckmlmfilmiaaa.X
open Go Go.RowKit Go.Proofs.Ytmckmlmfilmiaaa.Bs
set_option linter.unusedVariables false
section
variable {w w' : World} {ok ok' : Nat → Prop} {g5 g6 g7 g8 g9 : Nat} {p : BV} {b : Bas} {q : SV} {s : Sta} {r : SV} {lim : Int} {f : FuncId}
end
def trCap (g5 g6 g7 g8 g9 : Nat) : List Value := [.pointer (some ⟨g7, 0, none⟩), .pointer (some ⟨g9, 0, none⟩), .pointer (some ⟨g5, 0, none⟩), .pointer (some ⟨g6, 0, none⟩), .pointer (some ⟨g8, 0, none⟩)]
end Go.Proofs.Ytmckmlmfilmiaaa.X
/-
  The walks of layer 1's small functions (tide).
-/
namespace Go.Proofs.Ytmckmlmfilmiaaa.Bs
/-- a constituent, and a table. -/
structure Con where
  name : ByteArray
  hs : List Int
  off : Int
  step : Int
  den : Int
  slack : Int
structure ConOk (c : Con) : Prop where
  hs : 2 ≤ c.hs.length ∧ c.hs.length ≤ 48
  h : ∀ i, i < c.hs.length → -10000 ≤ c.hs[i]?.getD 0 ∧ c.hs[i]?.getD 0 ≤ 10000
  off : 0 ≤ c.off ∧ c.off ≤ c.den * c.hs.length - 1
  step : 1 ≤ c.step ∧ c.step ≤ 100000
  den : 1 ≤ c.den ∧ c.den ≤ 1000
  slack : 0 ≤ c.slack ∧ c.slack ≤ 1000
end Go.Proofs.Ytmckmlmfilmiaaa.Bs
namespace Go.Proofs.Ytmckmlmfilmiaaa.X
open Go Go.RowKit Go.Proofs.Ytmckmlmfilmiaaa.Bs
set_option linter.unusedVariables false
def conC (q : SV) (c : Con) : List Value := [.string c.name, .slice q.A q.n q.c, .int .i64 c.off, .int .i64 c.step, .int .i64 c.den, .int .i64 c.slack]
structure ConI where
  c : Con
  q : SV
def ConI.v (a : ConI) : List Value := conC a.q a.c
def conK : Kind ConI := ⟨181, 6, ConI.v, fun a => [hInts a.q a.c.hs], fun _ => rfl⟩
theorem tdout_any (n lo hi : Int) (w : World) :
    Calls Try.prog 88 #[.int .i64 n, .int .i64 lo, .int .i64 hi] w fun e w' => e = .returned (.bool (outB n lo hi)) ∧ Below w.heap.size w w' := by
  refine enter Try.func88 rfl Try.ntmps88 rfl ?_; simp only [frame, Nat.zero_add, Nat.reduceAdd]
  repeat (first | (refine M0 ?_; first | refine SL ?_ | refine SB fun _ _ => ?_) | (refine M1 ?_; first | refine SC ?_ | refine SD ?_) | (refine M2 ?_; refine SE ?_) | (refine M3 ?_; first | refine SG ?_ | refine SF ?_) | (refine M4 ?_; refine SRJ ?_) | (refine M5 ?_; first | exact M7 | refine YM ?_ | refine YN ?_ ?_))
  refine XL.split _ _ rfl (fun h => ?_) (fun h => ?_) <;> rw [h]
  · repeat (first | (refine M0 ?_; first | refine SL ?_ | refine SB fun _ _ => ?_) | (refine M1 ?_; first | refine SC ?_ | refine SD ?_) | (refine M2 ?_; refine SE ?_) | (refine M3 ?_; first | refine SG ?_ | refine SF ?_) | (refine M4 ?_; refine SRJ ?_) | (refine M5 ?_; first | exact M7 | refine YM ?_ | refine YN ?_ ?_))
    refine XE.retg tok Try.results88 rfl (by simp only [and_self, and_true]) (fun w' S => ?_)
    exact ⟨by unfold outB; rw [h]; rfl, S.toBelow⟩
  · repeat (first | (refine M0 ?_; first | refine SL ?_ | refine SB fun _ _ => ?_) | (refine M1 ?_; first | refine SC ?_ | refine SD ?_) | (refine M2 ?_; refine SE ?_) | (refine M3 ?_; first | refine SG ?_ | refine SF ?_) | (refine M4 ?_; refine SRJ ?_) | (refine M5 ?_; first | exact M7 | refine YM ?_ | refine YN ?_ ?_))
    refine XE.retg tok Try.results88 rfl (by simp only [and_self, and_true]) (fun w' S => ?_)
    exact ⟨by unfold outB; rw [h]; rfl, S.toBelow⟩
theorem cycle_any {q : SV} {c : Con} {w : World} (hq : q.n = c.hs.length) (hn : c.hs.length ≤ 48) (hd : 1 ≤ c.den ∧ c.den ≤ 1000) :
    Calls Try.prog 95 #[.agg ⟨conC q c⟩] w fun e w' => e = .returned (.int .i64 (c.den * c.hs.length)) ∧ Below w.heap.size w w' := by
  obtain ⟨A, n, cc⟩ := q
  simp only at hq
  subst hq
  simp only [conC]
  have hm : i64in (c.den * (c.hs.length : Int)) := by
    have := mul_bd (X := 1000) (Y := 48) (x := c.den) (y := (c.hs.length : Int)) (by omega) (by omega)
    unfold i64in; omega
  refine enter Try.func95 rfl Try.ntmps95 rfl ?_; simp only [frame, Nat.zero_add, Nat.reduceAdd]
  repeat (first | (refine M0 ?_; first | refine SL ?_ | refine SB fun _ _ => ?_) | (refine M1 ?_; first | refine SC ?_ | refine SD ?_) | (refine M2 ?_; refine SE ?_) | (refine M3 ?_; first | refine SG ?_ | refine SF ?_) | (refine M4 ?_; refine SRJ ?_) | (refine M5 ?_; first | exact M7 | refine YM ?_ | refine YN ?_ ?_))
  refine XE.retg tok Try.results95 rfl (by simp only [and_self, and_true]) (fun w' S => ?_)
  exact ⟨rfl, S.toBelow⟩
theorem ticks1_any (n : Int) (w : World) :
    Calls Try.prog 110 #[.int .i64 n] w fun e w' => e = .returned (.bool (outB n 0 200000)) ∧ Below w.heap.size w w' := by
  refine enter Try.func110 rfl Try.ntmps110 rfl ?_; simp only [frame, Nat.zero_add, Nat.reduceAdd]
  repeat (first | (refine M0 ?_; first | refine SL ?_ | refine SB fun _ _ => ?_ | refine Y4 (Ev.call (f := 88) (ck rfl) rfl (fun w S => tdout_any _ _ _ w)) ?_) | (refine M1 ?_; first | refine SC ?_ | refine SD ?_) | (refine M2 ?_; refine SE ?_) | (refine M3 ?_; first | refine SG ?_ | refine SF ?_ | refine YF (Ev.call (f := 88) (ck rfl) rfl (fun w S => tdout_any _ _ _ w)) ?_) | (refine M4 ?_; refine SRJ ?_) | (refine M5 ?_; first | exact M7 | refine YM ?_ | refine YN ?_ ?_))
  refine XE.retg tok Try.results110 rfl (by simp only [and_self, and_true]) (fun w' S => ?_)
  exact ⟨rfl, S.toBelow⟩
theorem check3_any (n : Int) (w : World) :
    Calls Try.prog 90 #[.int .i64 n] w fun e w' => e = .returned (.bool (outB n (-10000) 10000)) ∧ Below w.heap.size w w' := by
  refine enter Try.func90 rfl Try.ntmps90 rfl ?_; simp only [frame, Nat.zero_add, Nat.reduceAdd]
  repeat (first | (refine M0 ?_; first | refine SL ?_ | refine SB fun _ _ => ?_ | refine Y4 (Ev.call (f := 88) (ck rfl) rfl (fun w S => tdout_any _ _ _ w)) ?_) | (refine M1 ?_; first | refine SC ?_ | refine SD ?_) | (refine M2 ?_; refine SE ?_) | (refine M3 ?_; first | refine SG ?_ | refine SF ?_ | refine YF (Ev.call (f := 88) (ck rfl) rfl (fun w S => tdout_any _ _ _ w)) ?_) | (refine M4 ?_; refine SRJ ?_) | (refine M5 ?_; first | exact M7 | refine YM ?_ | refine YN ?_ ?_))
  refine XE.retg tok Try.results90 rfl (by simp only [and_self, and_true]) (fun w' S => ?_)
  exact ⟨rfl, S.toBelow⟩
theorem ticks_any {q : SV} {l : List Int} {w : World} (hq : IntsAt w (Lt w.heap.size) q l) (hn : l.length ≤ 1000) :
    Calls Try.prog 97 #[svV q] w fun e w' => e = .returned (.int .i64 (if l.any (fun n => outB n 0 200000) = true then 7 else 0)) ∧ Below w.heap.size w w' := by
  obtain ⟨A, n, c⟩ := q
  simp only [svV]
  refine enter Try.func97 rfl Try.ntmps97 rfl ?_; simp only [frame, Nat.zero_add, Nat.reduceAdd]
  repeat (first | (refine M0 ?_; first | refine SL ?_ | refine SB fun _ _ => ?_) | (refine M1 ?_; first | refine SC ?_ | refine SD ?_) | (refine M2 ?_; refine SE ?_) | (refine M3 ?_; first | refine SG ?_ | refine SF ?_) | (refine M4 ?_; refine SRJ ?_) | (refine M5 ?_; first | exact M7 | refine YM ?_ | refine YN ?_ ?_))
  refine XL.step _ (Ev.call (f := 96) (ck rfl) rfl (fun w5 S5 => (contInt (f := 110) (cap := []) (P := fun n => outB n 0 200000) (r := ⟨A, n, c⟩) (ms := l) (ck rfl) (hq.arg S5) hn (fun m hm w' hb => ticks1_any m w') :))) rfl ?_
  repeat (first | (refine M0 ?_; first | refine SL ?_ | refine SB fun _ _ => ?_) | (refine M1 ?_; first | refine SC ?_ | refine SD ?_) | (refine M2 ?_; refine SE ?_) | (refine M3 ?_; first | refine SG ?_ | refine SF ?_) | (refine M4 ?_; refine SRJ ?_) | (refine M5 ?_; first | exact M7 | refine YM ?_ | refine YN ?_ ?_))
  refine XC.cond _ rfl (fun h => ?_) (fun h => ?_)
  · repeat (first | (refine M0 ?_; first | refine SL ?_ | refine SB fun _ _ => ?_) | (refine M1 ?_; first | refine SC ?_ | refine SD ?_) | (refine M2 ?_; refine SE ?_) | (refine M3 ?_; first | refine SG ?_ | refine SF ?_) | (refine M4 ?_; refine SRJ ?_) | (refine M5 ?_; first | exact M7 | refine YM ?_ | refine YN ?_ ?_))
    refine XE.retg tok Try.results97 rfl (by simp only [and_self, and_true]) (fun w' S => ?_)
    exact ⟨by rw [if_pos h]; rfl, S.toBelow⟩
  · repeat (first | (refine M0 ?_; first | refine SL ?_ | refine SB fun _ _ => ?_) | (refine M1 ?_; first | refine SC ?_ | refine SD ?_) | (refine M2 ?_; refine SE ?_) | (refine M3 ?_; first | refine SG ?_ | refine SF ?_) | (refine M4 ?_; refine SRJ ?_) | (refine M5 ?_; first | exact M7 | refine YM ?_ | refine YN ?_ ?_))
    refine XE.retg tok Try.results97 rfl (by simp only [and_self, and_true]) (fun w' S => ?_)
    exact ⟨by rw [if_neg (by simp [h])]; rfl, S.toBelow⟩
/-- what is asked of some ticks: the error. -/
def someE (a n : Int) : Int := if outB n 0 400 = true then 3 else if n = 0 then 0 else if outB a 0 200000 = true then 7 else if outB (a + n - 1) 0 200000 = true then 7 else 0
set_option maxHeartbeats 4000000 in
theorem some_any (a n : Int) (w : World) :
    Calls Try.prog 67 #[.int .i64 a, .int .i64 n] w fun e w' => e = .returned (.int .i64 (someE a n)) ∧ Below w.heap.size w w' := by
  refine enter Try.func67 rfl Try.ntmps67 rfl ?_; simp only [frame, Nat.zero_add, Nat.reduceAdd]
  repeat (first | (refine M0 ?_; first | refine SL ?_ | refine SB fun _ _ => ?_ | refine Y4 (Ev.call (f := 88) (ck rfl) rfl (fun w S => tdout_any _ _ _ w)) ?_) | (refine M1 ?_; first | refine SC ?_ | refine SD ?_) | (refine M2 ?_; refine SE ?_) | (refine M3 ?_; first | refine SG ?_ | refine SF ?_ | refine YF (Ev.call (f := 88) (ck rfl) rfl (fun w S => tdout_any _ _ _ w)) ?_) | (refine M4 ?_; refine SRJ ?_) | (refine M5 ?_; first | exact M7 | refine YM ?_ | refine YN ?_ ?_))
  refine XC.cond _ rfl (fun h0 => ?_) (fun h0 => ?_)
  · repeat (first | (refine M0 ?_; first | refine SL ?_ | refine SB fun _ _ => ?_) | (refine M1 ?_; first | refine SC ?_ | refine SD ?_) | (refine M2 ?_; refine SE ?_) | (refine M3 ?_; first | refine SG ?_ | refine SF ?_) | (refine M4 ?_; refine SRJ ?_) | (refine M5 ?_; first | exact M7 | refine YM ?_ | refine YN ?_ ?_))
    refine XE.retg tok Try.results67 rfl (by simp only [and_self, and_true]) (fun w' S => ?_)
    exact ⟨by unfold someE; rw [if_pos h0]; rfl, S.toBelow⟩
  repeat (first | (refine M0 ?_; first | refine SL ?_ | refine SB fun _ _ => ?_) | (refine M1 ?_; first | refine SC ?_ | refine SD ?_) | (refine M2 ?_; refine SE ?_) | (refine M3 ?_; first | refine SG ?_ | refine SF ?_) | (refine M4 ?_; refine SRJ ?_) | (refine M5 ?_; first | exact M7 | refine YM ?_ | refine YN ?_ ?_))
  refine XC.cond _ rfl (fun h1 => ?_) (fun h1 => ?_)
  · repeat (first | (refine M0 ?_; first | refine SL ?_ | refine SB fun _ _ => ?_) | (refine M1 ?_; first | refine SC ?_ | refine SD ?_) | (refine M2 ?_; refine SE ?_) | (refine M3 ?_; first | refine SG ?_ | refine SF ?_) | (refine M4 ?_; refine SRJ ?_) | (refine M5 ?_; first | exact M7 | refine YM ?_ | refine YN ?_ ?_))
    refine XE.retg tok Try.results67 rfl (by simp only [and_self, and_true]) (fun w' S => ?_)
    exact ⟨by unfold someE; rw [if_neg (by simp [h0]), if_pos (of_decide_eq_true h1)]; rfl, S.toBelow⟩
  repeat (first | (refine M0 ?_; first | refine SL ?_ | refine SB fun _ _ => ?_ | refine Y4 (Ev.call (f := 88) (ck rfl) rfl (fun w S => tdout_any _ _ _ w)) ?_) | (refine M1 ?_; first | refine SC ?_ | refine SD ?_) | (refine M2 ?_; refine SE ?_) | (refine M3 ?_; first | refine SG ?_ | refine SF ?_ | refine YF (Ev.call (f := 88) (ck rfl) rfl (fun w S => tdout_any _ _ _ w)) ?_) | (refine M4 ?_; refine SRJ ?_) | (refine M5 ?_; first | exact M7 | refine YM ?_ | refine YN ?_ ?_))
  refine XC.cond _ rfl (fun h2 => ?_) (fun h2 => ?_)
  · repeat (first | (refine M0 ?_; first | refine SL ?_ | refine SB fun _ _ => ?_) | (refine M1 ?_; first | refine SC ?_ | refine SD ?_) | (refine M2 ?_; refine SE ?_) | (refine M3 ?_; first | refine SG ?_ | refine SF ?_) | (refine M4 ?_; refine SRJ ?_) | (refine M5 ?_; first | exact M7 | refine YM ?_ | refine YN ?_ ?_))
    refine XE.retg tok Try.results67 rfl (by simp only [and_self, and_true]) (fun w' S => ?_)
    exact ⟨by unfold someE; rw [if_neg (by simp [h0]), if_neg (of_decide_eq_false h1), if_pos h2]; rfl, S.toBelow⟩
  have b0 := outB_f.1 h0
  have b2 := outB_f.1 h2
  repeat (first | (refine M0 ?_; first | refine SL ?_ | refine SB fun _ _ => ?_ | refine XL.buildSlice tok rfl rfl rfl rfl rfl rfl rfl rfl rfl (fun _ _ => ?_)) | (refine M1 ?_; first | refine SC ?_ | refine SD ?_) | (refine M2 ?_; refine SE ?_) | (refine M3 ?_; first | refine SG ?_ | refine SF ?_) | (refine M4 ?_; refine SRJ ?_) | (refine M5 ?_; first | exact M7 | refine YM ?_ | refine YN ?_ ?_))
  refine XL.step _ (Ev.call (f := 97) (ck rfl) rfl (fun w5 S5 => (ticks_any (q := ⟨some ⟨_, 0, none⟩, 1, 1⟩) (l := [a + n - 1]) ⟨(ReadsP.block (S5.own _ List.mem_cons_self).2 (Nat.zero_le _) rfl).mono fun j hj => hj.2, by simp⟩ (by simp)))) rfl ?_
  repeat (first | (refine M0 ?_; first | refine SL ?_ | refine SB fun _ _ => ?_) | (refine M1 ?_; first | refine SC ?_ | refine SD ?_) | (refine M2 ?_; refine SE ?_) | (refine M3 ?_; first | refine SG ?_ | refine SF ?_) | (refine M4 ?_; refine SRJ ?_) | (refine M5 ?_; first | exact M7 | refine YM ?_ | refine YN ?_ ?_))
  refine XE.retg tok Try.results67 rfl (by simp only [and_self, and_true]) (fun w' S => ?_)
  refine ⟨?_, S.toBelow⟩
  have e9 : someE a n = if outB (a + n - 1) 0 200000 = true then 7 else 0 := by
    unfold someE
    rw [if_neg (by simp [h0]), if_neg (of_decide_eq_false h1), if_neg (by simp [h2])]
  rw [e9, show ([a + n - 1].any fun n => outB n 0 200000) = outB (a + n - 1) 0 200000 by simp]
  rfl
theorem tdfloor_any {a b : Int} (hb : 1 ≤ b) (ha : -9223372036854775807 ≤ a ∧ a ≤ 9223372036854775807) (w : World) :
    Calls Try.prog 112 #[.int .i64 a, .int .i64 b] w fun e w' => e = .returned (.int .i64 (a / b)) ∧ Below w.heap.size w w' := by
  have h1 := tdiv_bd (a := a) hb
  have h2 := tdiv_mul (a := a) hb
  have h3 := floor_bd (a := a) hb
  have h4 := floor_eq (a := a) hb
  have h8 := Int.mul_tdiv_add_tmod a b
  rw [Int.mul_comm] at h8
  have h5 : i64in a := by unfold i64in; omega
  refine enter Try.func112 rfl Try.ntmps112 rfl ?_; simp only [frame, Nat.zero_add, Nat.reduceAdd]
  repeat (first | (refine M0 ?_; first | refine SL ?_ | refine SB fun _ _ => ?_ | refine Y4 (Ev.rem rfl rfl (by omega)) ?_) | (refine M1 ?_; first | refine SC ?_ | refine SD ?_) | (refine M2 ?_; refine SE ?_) | (refine M3 ?_; first | refine SG ?_ | refine SF ?_ | refine YF (Ev.rem rfl rfl (by omega)) ?_) | (refine M4 ?_; refine SRJ ?_) | (refine M5 ?_; first | exact M7 | refine YM ?_ | refine YN ?_ ?_))
  refine XC.cond _ rfl (fun h => ?_) (fun h => ?_)
  · have h9 : a < a.tdiv b * b := by have := of_decide_eq_true h; omega
    rw [if_pos h9] at h4
    have h7 : i64in (a.tdiv b - 1) := by unfold i64in; omega
    repeat (first | (refine M0 ?_; first | refine SL ?_ | refine SB fun _ _ => ?_) | (refine M1 ?_; first | refine SC ?_ | refine SD ?_) | (refine M2 ?_; refine SE ?_) | (refine M3 ?_; first | refine SG ?_ | refine SF ?_) | (refine M4 ?_; refine SRJ ?_) | (refine M5 ?_; first | exact M7 | refine YM ?_ | refine YN ?_ ?_))
    refine XE.retg tok Try.results112 rfl (by simp only [and_self, and_true]) (fun w' S => ?_)
    exact ⟨by rw [h4]; rfl, S.toBelow⟩
  · have h9 : ¬ a < a.tdiv b * b := by have := of_decide_eq_false h; omega
    rw [if_neg h9] at h4
    repeat (first | (refine M0 ?_; first | refine SL ?_ | refine SB fun _ _ => ?_) | (refine M1 ?_; first | refine SC ?_ | refine SD ?_) | (refine M2 ?_; refine SE ?_) | (refine M3 ?_; first | refine SG ?_ | refine SF ?_) | (refine M4 ?_; refine SRJ ?_) | (refine M5 ?_; first | exact M7 | refine YM ?_ | refine YN ?_ ?_))
    refine XE.retg tok Try.results112 rfl (by simp only [and_self, and_true]) (fun w' S => ?_)
    exact ⟨by rw [h4]; rfl, S.toBelow⟩
/-- the levels a span is added to, in a row's block. -/
def spC (x : Int × Int) : List Value := [.int .i64 x.1, .int .i64 x.2]
theorem spC_len (x : Int × Int) : (spC x).length = 2 := rfl
set_option maxHeartbeats 4000000 in
theorem add_any {g k : Nat} {l : List (Int × Int)} {sp : List Value} {x y : Int × Int} {w : World} (h : w.heap[g]? = some (cel 187 (l.flatMap spC ++ sp))) (hk : l[k]? = some x) (h1 : i64in (x.1 + y.1)) (h2 : i64in (x.2 + y.2)) :
    Calls Try.prog 98 #[.pointer (some ((⟨g, 0, none⟩ : Addr).add (k * 2))), .agg ⟨[.int .i64 y.1, .int .i64 y.2]⟩] w fun e w' => e = .returned (.tuple ⟨[]⟩) ∧ Sys g w [(g, cel 187 ((l.set k (x.1 + y.1, x.2 + y.2)).flatMap spC ++ sp))] w' := by
  have hg0 : (l.flatMap spC ++ sp)[0 + k * 2 + 0]? = some (.int .i64 x.1) := by rw [Nat.zero_add, fget spC_len sp hk (by decide)]; rfl
  have hk1 : (l.set k (x.1 + y.1, x.2))[k]? = some (x.1 + y.1, x.2) := by rw [List.getElem?_set_self (List.getElem?_eq_some_iff.1 hk).1]
  have hg1 : ((l.set k (x.1 + y.1, x.2)).flatMap spC ++ sp)[k * 2 + 1]? = some (.int .i64 x.2) := by rw [fget spC_len sp hk1 (by decide)]; rfl
  refine enterL Try.func98 rfl Try.ntmps98 rfl (Sys.start1 (Nat.le_refl g) h) ?_; simp only [frame, Nat.zero_add, Nat.reduceAdd]
  simp only [add_off]
  repeat (first | (refine M0 ?_; first | refine SL ?_ | refine SB fun _ _ => ?_) | (refine M1 ?_; refine SC ?_) | (refine M2 ?_; refine SE ?_))
  rename_i g3 hg3
  refine XC.drawT mixed rfl rfl (by kernel_rfl) ?_
  repeat (first | (refine M0 ?_; first | refine SL ?_ | refine SB fun _ _ => ?_ | refine Y4 (Ev.load_loc tok 1 (g := g) (o := 0 + k * 2 + 0) rfl rfl rfl hg0) ?_) | (refine M2 ?_; refine SE ?_) | (refine M3 ?_; first | refine SG ?_ | refine SF ?_ | refine YF (Ev.load_loc tok 1 (g := g) (o := 0 + k * 2 + 0) rfl rfl rfl hg0) ?_) | (refine M4 ?_; refine SRJ ?_) | (refine M5 ?_; first | exact M7 | refine YM ?_ | refine YN ?_ ?_))
  refine XL.store_at tok 1 (g := g) (o := 0 + k * 2) (j := 0) (by rw [add_off]; rfl) rfl rfl rfl rfl (by rw [Nat.zero_add]; exact flt spC_len sp hk (by decide)) rfl ?_
  rw [Nat.zero_add, fset (t' := (x.1 + y.1, x.2)) spC_len sp hk rfl (by decide)]
  repeat (first | (refine M0 ?_; first | refine SL ?_ | refine SB fun _ _ => ?_) | (refine M1 ?_; refine SC ?_) | (refine M2 ?_; refine SE ?_))
  refine XC.drawT mixed rfl rfl (by kernel_rfl) ?_
  repeat (first | (refine M0 ?_; first | refine SL ?_ | refine SB fun _ _ => ?_ | refine Y4 (Ev.load_loc tok 1 (g := g) (o := k * 2 + 1) rfl rfl rfl hg1) ?_) | (refine M2 ?_; refine SE ?_) | (refine M3 ?_; first | refine SG ?_ | refine SF ?_ | refine YF (Ev.load_loc tok 1 (g := g) (o := k * 2 + 1) rfl rfl rfl hg1) ?_) | (refine M4 ?_; refine SRJ ?_) | (refine M5 ?_; first | exact M7 | refine YM ?_ | refine YN ?_ ?_))
  refine XL.store_at tok 1 (g := g) (o := k * 2) (j := 1) (by rw [add_off]; rfl) rfl rfl rfl rfl (flt spC_len sp hk1 (by decide)) rfl ?_
  rw [fset (t' := (x.1 + y.1, x.2 + y.2)) spC_len sp hk1 rfl (by decide), List.set_set]
  repeat (first | (refine M0 ?_; first | refine SL ?_ | refine SB fun _ _ => ?_) | (refine M1 ?_; refine SC ?_) | (refine M2 ?_; refine SE ?_))
  refine XE.endg tok Try.results98 rfl trivial (fun w' S => ?_)
  exact ⟨rfl, S.pop hg3⟩
end Go.Proofs.Ytmckmlmfilmiaaa.X
/-
  The walks of parts (tide) and of what it returns.
-/
namespace Go.Proofs.Ytmckmlmfilmiaaa.Bs
def Con.cyc (c : Con) : Int := c.den * c.hs.length
def Con.at (c : Con) (i : Int) : Int := c.hs[i.toNat]?.getD 0
/-- the height, times Den, at a place; the span there; the next place. -/
def Con.hi (c : Con) (p : Int) : Int := c.at (p.tdiv c.den) * c.den + (c.at ((p.tdiv c.den + 1).tmod c.hs.length) - c.at (p.tdiv c.den)) * p.tmod c.den
def Con.span (c : Con) (p : Int) : Int × Int := (c.hi p / c.den - c.slack, -((-(c.hi p)) / c.den) + c.slack)
def Con.next (c : Con) (p : Int) : Int := (p + c.step).tmod c.cyc
def Con.start (c : Con) (t : Int) : Int := (IntKind.i64.wrap (c.off + IntKind.i64.wrap (c.step * t))).tmod c.cyc
section
variable {c : Con} (h : ConOk c)
include h
theorem cyc_bd : 2 ≤ c.cyc ∧ c.cyc ≤ 48000 := by
  unfold Con.cyc
  have h1 := h.hs
  have h2 := h.den
  have h3 := mul_bd (X := 1000) (Y := 48) (x := c.den) (y := (c.hs.length : Int)) (by omega) (by omega)
  have h4 : 1 * (c.hs.length : Int) ≤ c.den * c.hs.length := Int.mul_le_mul_of_nonneg_right h2.1 (by omega)
  omega
theorem place {p : Int} (hp : 0 ≤ p ∧ p < c.cyc) : (0 ≤ p.tdiv c.den ∧ p.tdiv c.den < c.hs.length) ∧ (0 ≤ p.tmod c.den ∧ p.tmod c.den < c.den) ∧ (0 ≤ (p.tdiv c.den + 1).tmod c.hs.length ∧ (p.tdiv c.den + 1).tmod c.hs.length < c.hs.length) := by
  have h2 := h.den
  have h1 := h.hs
  have a1 := Int.tdiv_nonneg hp.1 (show 0 ≤ c.den by omega)
  have a2 := Int.tmod_nonneg c.den hp.1
  have a3 := Int.tmod_lt_of_pos p (show 0 < c.den by omega)
  have a4 := Int.mul_tdiv_add_tmod p c.den
  have a5 : p.tdiv c.den < c.hs.length := by
    by_cases h5 : p.tdiv c.den < c.hs.length
    · exact h5
    · have := Int.mul_le_mul_of_nonneg_left (Int.not_lt.1 h5) (show 0 ≤ c.den by omega)
      have h6 := hp.2
      unfold Con.cyc at h6
      omega
  exact ⟨⟨a1, a5⟩, ⟨a2, a3⟩, Int.tmod_nonneg _ (by omega), Int.tmod_lt_of_pos _ (by omega)⟩
theorem at_bd {i : Int} (hi : 0 ≤ i ∧ i < c.hs.length) : -10000 ≤ c.at i ∧ c.at i ≤ 10000 := h.h i.toNat (by omega)
theorem hi_bd {p : Int} (hp : 0 ≤ p ∧ p < c.cyc) : -40000000 ≤ c.hi p ∧ c.hi p ≤ 40000000 := by
  obtain ⟨h1, h2, h3⟩ := place h hp
  have b1 := at_bd h h1
  have b2 := at_bd h h3
  have hd := h.den
  have m1 := mul_bd (X := 10000) (Y := 1000) (x := c.at (p.tdiv c.den)) (y := c.den) (by omega) (by omega)
  have m2 := mul_bd (X := 20000) (Y := 1000) (x := c.at ((p.tdiv c.den + 1).tmod c.hs.length) - c.at (p.tdiv c.den)) (y := p.tmod c.den) (by omega) (by omega)
  unfold Con.hi
  omega
theorem span_ok {p : Int} (hp : 0 ≤ p ∧ p < c.cyc) : (c.span p).1 ≤ (c.span p).2 ∧ -50000000 ≤ (c.span p).1 ∧ (c.span p).2 ≤ 50000000 := by
  have h1 := hi_bd h hp
  have hd := h.den
  have hs := h.slack
  have f1 := floor_bd (a := c.hi p) hd.1
  have f2 := floor_bd (a := -(c.hi p)) hd.1
  have f3 : c.hi p / c.den * c.den ≤ c.hi p := Int.ediv_mul_le _ (by omega)
  have f4 : -(c.hi p) / c.den * c.den ≤ -(c.hi p) := Int.ediv_mul_le _ (by omega)
  have f5 : c.hi p / c.den ≤ -((-(c.hi p)) / c.den) := by
    by_cases h5 : -((-(c.hi p)) / c.den) < c.hi p / c.den
    · have h6 : 1 * c.den ≤ (c.hi p / c.den + (-(c.hi p)) / c.den) * c.den := Int.mul_le_mul_of_nonneg_right (by omega) (by omega)
      rw [Int.add_mul] at h6
      omega
    · exact Int.not_lt.1 h5
  unfold Con.span
  simp only
  omega
theorem next_ok {p : Int} (hp : 0 ≤ p ∧ p < c.cyc) : 0 ≤ c.next p ∧ c.next p < c.cyc := by
  have := cyc_bd h
  have := h.step
  exact ⟨Int.tmod_nonneg _ (by omega), Int.tmod_lt_of_pos _ (by omega)⟩
theorem start_ok {t : Int} (ht : 0 ≤ t ∧ t ≤ 200000) : 0 ≤ c.start t ∧ c.start t < c.cyc := by
  have hcy := cyc_bd h
  have h1 := h.step
  have h2 := h.off
  have : 0 ≤ c.step * t := Int.mul_nonneg (by omega) ht.1
  have m1 := mul_bd (X := 100000) (Y := 200000) (x := c.step) (y := t) (by omega) (by omega)
  have e : c.start t = (c.off + c.step * t).tmod c.cyc := by
    unfold Con.start
    rw [X.wrap_in (x := c.step * t) (by unfold X.i64in; omega), X.wrap_in (by unfold Con.cyc at hcy; unfold X.i64in; omega)]
  rw [e]
  exact ⟨Int.tmod_nonneg _ (by omega), Int.tmod_lt_of_pos _ (by omega)⟩
end
end Go.Proofs.Ytmckmlmfilmiaaa.Bs
namespace Go.Proofs.Ytmckmlmfilmiaaa.X
open Go Go.RowKit Go.Proofs.Ytmckmlmfilmiaaa.Bs
set_option linter.unusedVariables false
/-- the two boxes of parts. -/
structure PtAt (w : World) (ok : Nat → Prop) (gp gc : Nat) (q : SV) (c : Con) (pp : Int) : Prop where
  kp : ok gp
  kc : ok gc
  lt : gc < gp
  hp : w.heap[gp]? = some (cel 3 [.int .i64 pp])
  hc : w.heap[gc]? = some (cel 181 (conC q c))
theorem PtAt.keep {w w' : World} {ok : Nat → Prop} {gp gc : Nat} {q : SV} {c : Con} {pp : Int} (h : PtAt w ok gp gc q c pp) (hk : ∀ k, ok k → w'.heap[k]? = w.heap[k]?) : PtAt w' ok gp gc q c pp := ⟨h.kp, h.kc, h.lt, (hk _ h.kp).trans h.hp, (hk _ h.kc).trans h.hc⟩
theorem PtAt.mono {w : World} {ok ok' : Nat → Prop} {gp gc : Nat} {q : SV} {c : Con} {pp : Int} (h : PtAt w ok gp gc q c pp) (hk : ∀ k, ok k → ok' k) : PtAt w ok' gp gc q c pp := ⟨hk _ h.kp, hk _ h.kc, h.lt, h.hp, h.hc⟩
def hPt (gp gc : Nat) (q : SV) (c : Con) (pp : Int) : Held := ⟨fun w ok => PtAt w ok gp gc q c pp, PtAt.keep, PtAt.mono⟩
def PartsV (q : SV) (c : Con) (pp : Int) (v : Value) (new : List Held) : Prop := ∃ gp gc : Nat, v = .func (.func 111) #[] #[.pointer (some ⟨gp, 0, none⟩), .pointer (some ⟨gc, 0, none⟩)] ∧ new = [hPt gp gc q c pp]
set_option maxHeartbeats 8000000 in
theorem parts1_any {gp gc : Nat} {q : SV} {c : Con} {pp : Int} {w : World} (hP : PtAt w (Lt w.heap.size) gp gc q c pp) (hq : IntsAt w (Lt gp) q c.hs) (ho : ConOk c) (hpp : 0 ≤ pp ∧ pp < c.cyc) :
    Calls Try.prog 111 #[.pointer (some ⟨gp, 0, none⟩), .pointer (some ⟨gc, 0, none⟩)] w fun e w' => e = .returned (.agg ⟨spC (c.span pp)⟩) ∧ Sys gp w [(gp, cel 3 [.int .i64 (c.next pp)])] w' := by
  obtain ⟨kp, kc, hlt, hp, hc⟩ := hP
  obtain ⟨A, n, cc⟩ := q
  have hqn := hq.len
  simp only at hqn
  subst hqn
  obtain ⟨p1, p2, p3⟩ := place ho hpp
  have hh := ho.hs
  have hd := ho.den
  obtain ⟨ad, rfl, hla, hcells⟩ := hq.at_ (by omega)
  have c0 : ∀ j u, (conC ⟨some ad, c.hs.length, cc⟩ c)[j]? = some u → w.cell? ((⟨gc, 0, none⟩ : Addr).add j) = some u := fun j u hj => by rw [add_off]; simp [World.cell?, hc, hj]
  have c1 := c0 1 _ rfl
  have c3 := c0 3 _ rfl
  have c4 := c0 4 _ rfl
  have c5 := c0 5 _ rfl
  refine enterL Try.func111 rfl Try.ntmps111 rfl (Sys.start1 (Nat.le_refl gp) hp) ?_; simp only [frame, Nat.zero_add, Nat.reduceAdd]
  refine XC.hint 0 0 ?_
  have hcy := cyc_bd ho
  have hin : i64in pp := by unfold i64in; omega
  have hd0 : c.den ≠ 0 := by omega
  have hl0 : (c.hs.length : Int) ≠ 0 := by omega
  have ha1 := at_bd ho p1
  have ha2 := at_bd ho p3
  obtain ⟨H1, hH1⟩ : ∃ H1, H1 = c.at (pp.tdiv c.den) := ⟨_, rfl⟩
  obtain ⟨H2, hH2⟩ : ∃ H2, H2 = c.at ((pp.tdiv c.den + 1).tmod c.hs.length) := ⟨_, rfl⟩
  have hhi : c.hi pp = H1 * c.den + (H2 - H1) * pp.tmod c.den := by unfold Con.hi; rw [← hH1, ← hH2]
  have hhb := hi_bd ho hpp
  rw [← hH1] at ha1
  rw [← hH2] at ha2
  have m1 := mul_bd (X := 10000) (Y := 1000) (x := H1) (y := c.den) (by omega) (by omega)
  have m2 := mul_bd (X := 20000) (Y := 1000) (x := H2 - H1) (y := pp.tmod c.den) (by omega) (by omega)
  have i1 : i64in (H1 * c.den) := by unfold i64in; omega
  have i2 : i64in ((H2 - H1) * pp.tmod c.den) := by unfold i64in; omega
  have i3 : i64in (H2 - H1) := by unfold i64in; omega
  have i4 : i64in (H1 * c.den + (H2 - H1) * pp.tmod c.den) := by rw [← hhi]; unfold i64in; omega
  have hi1 := hcells (pp.tdiv c.den).toNat (by omega)
  have hi2 := hcells ((pp.tdiv c.den + 1).tmod c.hs.length).toNat (by omega)
  rw [show at0 c.hs (pp.tdiv c.den).toNat = H1 from hH1.symm] at hi1
  rw [show at0 c.hs ((pp.tdiv c.den + 1).tmod c.hs.length).toNat = H2 from hH2.symm] at hi2
  refine XC.seq (XC.region ?_)
  repeat (first | (refine M0 ?_; first | refine SL ?_ | refine SB fun _ _ => ?_) | (refine M2 ?_; refine SE ?_) | (refine M3 ?_; first | refine SG ?_ | refine SF ?_) | (refine M4 ?_; refine SR ?_) | (refine M5 ?_; first | exact M7 | refine YM ?_ | refine YN ?_ ?_))
  refine XC.seq (XC.draw mixed rfl (by kernel_rfl) ?_)
  repeat (first | (refine M0 ?_; first | refine SL ?_ | refine SB fun _ _ => ?_ | refine Y4 (Ev.rem rfl rfl hd0) ?_ | refine Y4 (Ev.rem rfl rfl hl0) ?_ | refine Y4 (Ev.quo rfl rfl hd.1 hin) ?_ | refine Y4 (Ev.load_old tok rfl rfl hlt c4) ?_ | refine Y4 (Ev.load_old tok rfl rfl hlt c1) ?_ | refine Y4 (Ev.load_old tok rfl rfl (add_lt hla) hi1) ?_ | refine Y4 (Ev.load_old tok rfl rfl (add_lt hla) hi2) ?_) | (refine M2 ?_; refine SE ?_) | (refine M3 ?_; first | refine SG ?_ | refine SF ?_ | refine YF (Ev.rem rfl rfl hd0) ?_ | refine YF (Ev.rem rfl rfl hl0) ?_ | refine YF (Ev.quo rfl rfl hd.1 hin) ?_ | refine YF (Ev.load_old tok rfl rfl hlt c4) ?_ | refine YF (Ev.load_old tok rfl rfl hlt c1) ?_ | refine YF (Ev.load_old tok rfl rfl (add_lt hla) hi1) ?_ | refine YF (Ev.load_old tok rfl rfl (add_lt hla) hi2) ?_) | (refine M4 ?_; refine SR ?_) | (refine M5 ?_; first | exact M7 | refine YM ?_ | refine YN ?_ ?_))
  refine XC.seq (XC.draw mixed rfl (by kernel_rfl) ?_)
  repeat (first | (refine M0 ?_; first | refine SL ?_ | refine SB fun _ _ => ?_ | refine Y4 (Ev.rem rfl rfl hd0) ?_ | refine Y4 (Ev.rem rfl rfl hl0) ?_ | refine Y4 (Ev.quo rfl rfl hd.1 hin) ?_ | refine Y4 (Ev.load_old tok rfl rfl hlt c4) ?_ | refine Y4 (Ev.load_old tok rfl rfl hlt c1) ?_ | refine Y4 (Ev.load_old tok rfl rfl (add_lt hla) hi1) ?_ | refine Y4 (Ev.load_old tok rfl rfl (add_lt hla) hi2) ?_) | (refine M2 ?_; refine SE ?_) | (refine M3 ?_; first | refine SG ?_ | refine SF ?_ | refine YF (Ev.rem rfl rfl hd0) ?_ | refine YF (Ev.rem rfl rfl hl0) ?_ | refine YF (Ev.quo rfl rfl hd.1 hin) ?_ | refine YF (Ev.load_old tok rfl rfl hlt c4) ?_ | refine YF (Ev.load_old tok rfl rfl hlt c1) ?_ | refine YF (Ev.load_old tok rfl rfl (add_lt hla) hi1) ?_ | refine YF (Ev.load_old tok rfl rfl (add_lt hla) hi2) ?_) | (refine M4 ?_; refine SR ?_) | (refine M5 ?_; first | exact M7 | refine YM ?_ | refine YN ?_ ?_))
  refine XC.seq (XC.draw mixed rfl (by kernel_rfl) ?_)
  repeat (first | (refine M0 ?_; first | refine SL ?_ | refine SB fun _ _ => ?_ | refine Y4 (Ev.rem rfl rfl hd0) ?_ | refine Y4 (Ev.rem rfl rfl hl0) ?_ | refine Y4 (Ev.quo rfl rfl hd.1 hin) ?_ | refine Y4 (Ev.load_old tok rfl rfl hlt c4) ?_ | refine Y4 (Ev.load_old tok rfl rfl hlt c1) ?_ | refine Y4 (Ev.load_old tok rfl rfl (add_lt hla) hi1) ?_ | refine Y4 (Ev.load_old tok rfl rfl (add_lt hla) hi2) ?_) | (refine M2 ?_; refine SE ?_) | (refine M3 ?_; first | refine SG ?_ | refine SF ?_ | refine YF (Ev.rem rfl rfl hd0) ?_ | refine YF (Ev.rem rfl rfl hl0) ?_ | refine YF (Ev.quo rfl rfl hd.1 hin) ?_ | refine YF (Ev.load_old tok rfl rfl hlt c4) ?_ | refine YF (Ev.load_old tok rfl rfl hlt c1) ?_ | refine YF (Ev.load_old tok rfl rfl (add_lt hla) hi1) ?_ | refine YF (Ev.load_old tok rfl rfl (add_lt hla) hi2) ?_) | (refine M4 ?_; refine SR ?_) | (refine M5 ?_; first | exact M7 | refine YM ?_ | refine YN ?_ ?_))
  rw [← hhi]
  have hst := ho.step
  have i5 : i64in (pp + c.step) := by unfold i64in; omega
  have hcy0 : c.den * (c.hs.length : Int) ≠ 0 := by have := hcy.1; unfold Con.cyc at this; omega
  refine XC.seq (XC.drawT mixed rfl rfl (by kernel_rfl) ?_)
  repeat (first | (refine M0 ?_; first | refine SL ?_ | refine SB fun _ _ => ?_ | refine Y4 (Ev.load_old tok rfl rfl hlt c3) ?_ | refine Y4 (Ev.load_old_agg tok (conC ⟨some ad, c.hs.length, cc⟩ c) rfl rfl rfl hlt c0) ?_ | refine Y4 (Ev.call (f := 95) (ck rfl) rfl (fun w5 S5 => cycle_any (q := ⟨some ad, c.hs.length, cc⟩) (c := c) rfl hh.2 hd)) ?_ | refine Y4 (Ev.rem rfl rfl hcy0) ?_) | (refine M2 ?_; refine SE ?_) | (refine M3 ?_; first | refine SG ?_ | refine SF ?_ | refine YF (Ev.load_old tok rfl rfl hlt c3) ?_ | refine YF (Ev.load_old_agg tok (conC ⟨some ad, c.hs.length, cc⟩ c) rfl rfl rfl hlt c0) ?_ | refine YF (Ev.call (f := 95) (ck rfl) rfl (fun w5 S5 => cycle_any (q := ⟨some ad, c.hs.length, cc⟩) (c := c) rfl hh.2 hd)) ?_ | refine YF (Ev.rem rfl rfl hcy0) ?_) | (refine M4 ?_; refine SR ?_) | (refine M5 ?_; first | exact M7 | refine YM ?_ | refine YN ?_ ?_))
  have f1 := floor_bd (a := c.hi pp) hd.1
  have f2 := floor_bd (a := -(c.hi pp)) hd.1
  have hsl := ho.slack
  refine XC.seq (XC.drawT mixed rfl rfl (by kernel_rfl) ?_)
  repeat (first | (refine M0 ?_; first | refine SL ?_ | refine SB fun _ _ => ?_ | refine Y4 (Ev.load_old tok rfl rfl hlt c4) ?_ | refine Y4 (Ev.load_old tok rfl rfl hlt c5) ?_ | refine Y4 (Ev.call (f := 112) (vs := [.int .i64 (c.hi pp), .int .i64 c.den]) (ck rfl) rfl (fun w5 S5 => tdfloor_any hd.1 (by omega) w5)) ?_ | refine Y4 (Ev.call (f := 112) (vs := [.int .i64 (-(c.hi pp)), .int .i64 c.den]) (ck rfl) rfl (fun w5 S5 => tdfloor_any hd.1 (by omega) w5)) ?_) | (refine M2 ?_; refine SE ?_) | (refine M3 ?_; first | refine SG ?_ | refine SF ?_ | refine YF (Ev.load_old tok rfl rfl hlt c4) ?_ | refine YF (Ev.load_old tok rfl rfl hlt c5) ?_ | refine YF (Ev.call (f := 112) (vs := [.int .i64 (c.hi pp), .int .i64 c.den]) (ck rfl) rfl (fun w5 S5 => tdfloor_any hd.1 (by omega) w5)) ?_ | refine YF (Ev.call (f := 112) (vs := [.int .i64 (-(c.hi pp)), .int .i64 c.den]) (ck rfl) rfl (fun w5 S5 => tdfloor_any hd.1 (by omega) w5)) ?_) | (refine M4 ?_; refine SR ?_) | (refine M5 ?_; first | exact M7 | refine YM ?_ | refine YN ?_ ?_))
  repeat (first | (refine M0 ?_; first | refine SL ?_ | refine SB fun _ _ => ?_) | (refine M1 ?_; refine SC ?_) | (refine M2 ?_; refine SE ?_))
  rename_i g2 hg2
  refine XE.retg tok Try.results111 rfl (by simp only [and_self, and_true]) (fun w' S => ?_)
  exact ⟨rfl, S.pop hg2⟩
set_option maxHeartbeats 8000000 in
theorem parts_made {q : SV} {c : Con} {t : Int} {w : World} (hq : q.n = c.hs.length) (ho : ConOk c) :
    Calls Try.prog 99 #[.agg ⟨conC q c⟩, .int .i64 t] w (Made w (PartsV q c (c.start t))) := by
  have hst := ho.step
  have hof := ho.off
  have hd := ho.den
  have hh := ho.hs
  have hcy := cyc_bd ho
  have hcy0 : c.den * (c.hs.length : Int) ≠ 0 := by have := hcy.1; unfold Con.cyc at this; omega
  simp only [conC]
  refine enter Try.func99 rfl Try.ntmps99 rfl ?_; simp only [frame, Nat.zero_add, Nat.reduceAdd]
  repeat (first | (refine M0 ?_; first | refine SL ?_ | refine SB fun _ _ => ?_) | (refine M1 ?_; refine SC ?_) | (refine M2 ?_; refine SE ?_))
  rename_i gc hgc
  refine XC.rebase (List.Sublist.refl _) (fun w1 S1 => ?_)
  have hgcl := S1.lt (e := (gc, _)) (.head _)
  have hs1 := S1.size
  refine XC.cutln [2] rfl (fun g : Nat => [(5, .pointer (some ⟨g, 0, none⟩))]) (fun g => [(g, cel 3 [.int .i64 (c.start t)])]) (fun g => w1.heap.size ≤ g) ?_ ?_
  · refine XC.drawR _ [0, 1, 2, 3, 4, 5, 6, 7] [8, 9, 10, 11] mixed (fun _ h => h) rfl (by kernel_rfl) ?_
    repeat (any_goals (first | (refine M0 ?_; first | refine SL ?_ | refine SB fun _ _ => ?_ | refine Y4 (Ev.rem rfl rfl hcy0) ?_ | refine Y4 (Ev.fieldAddr_loc tok rfl rfl rfl) ?_ | refine Y4 (Ev.load_loc tok 0 rfl rfl rfl rfl) ?_ | refine Y4 (Ev.move rfl) ?_ | refine Y4 (Ev.mul_w rfl rfl) ?_ | refine Y4 (Ev.add_w rfl rfl) ?_ | refine Y4 (Ev.call (f := 95) (ck rfl) rfl (fun w5 S5 => cycle_any (q := q) (c := c) hq hh.2 hd)) ?_) | (refine M1 ?_; refine SC ?_) | (refine M2 ?_; refine SE ?_) | (refine M3 ?_; first | refine SG ?_ | refine SF ?_ | refine YF (Ev.rem rfl rfl hcy0) ?_ | refine YF (Ev.fieldAddr_loc tok rfl rfl rfl) ?_ | refine YF (Ev.load_loc tok 0 rfl rfl rfl rfl) ?_ | refine YF (Ev.move rfl) ?_ | refine YF (Ev.mul_w rfl rfl) ?_ | refine YF (Ev.add_w rfl rfl) ?_ | refine YF (Ev.call (f := 95) (ck rfl) rfl (fun w5 S5 => cycle_any (q := q) (c := c) hq hh.2 hd)) ?_) | (refine M4 ?_; refine SR ?_) | (refine M5 ?_; first | exact M7 | refine YM ?_ | refine YN ?_ ?_)))
    any_goals (repeat (first | exact AnyR.nil | refine AnyR.skip rfl ?_))
    all_goals
      rw [show (IntKind.i64.wrap (c.off + IntKind.i64.wrap (c.step * t))).tmod (c.den * (c.hs.length : Int)) = c.start t from rfl]
      refine XE.leaf _ ZZSUB (fun _ S' => by first | exact S' | exact S'.perm (by repeat (first | exact List.Perm.refl _ | refine perm1 ?_ | refine List.Perm.cons _ ?_ | refine perm2 ?_)) | exact (S'.pop (by assumption)) | exact (S'.pop2 (by assumption))) ?_
      assumption
  rintro gp hgp
  dsimp only [List.cons_append, List.nil_append]
  repeat (first | (refine M0 ?_; first | refine SL ?_ | refine SB fun _ _ => ?_ | refine Y4 (Ev.makeFunc rfl rfl) ?_) | (refine M1 ?_; refine SC ?_) | (refine M2 ?_; refine SE ?_))
  refine XE.retg tok Try.results99 rfl (by simp only [and_self, and_true]) (fun w' S => ?_)
  refine ⟨_, _, rfl, ⟨gp, gc, rfl, rfl⟩, fun x hx => ?_, S1.toBelow.trans S.toBelow⟩
  rw [List.mem_singleton] at hx
  subst hx
  exact ⟨⟨Nat.le_trans hs1 hgp, S.keyLt _ (by simp)⟩, ⟨hgc, S.keyLt _ (by simp)⟩, Nat.lt_of_lt_of_le hgcl hgp, S.obj (i := 0) rfl, S.obj (i := 1) rfl⟩
end Go.Proofs.Ytmckmlmfilmiaaa.X
/-
  The walks of first and of Check's rules (tide).
-/
namespace Go.Proofs.Ytmckmlmfilmiaaa.X
open Go Go.RowKit Go.Proofs.Ytmckmlmfilmiaaa.Bs
set_option linter.unusedVariables false
/-- a rule: its function, what that holds, its error, and whether it is broken. -/
structure RuleI where
  f : FuncId
  cap : List Value
  e : Int
  b : Bool
def RuleI.v (a : RuleI) : List Value := [.func (.func a.f) #[] a.cap.toArray, .int .i64 a.e]
def ruleK : Kind RuleI := ⟨179, 2, RuleI.v, fun _ => [], fun _ => rfl⟩
def firstE : List RuleI → Int
  | [] => 0
  | a :: r => if a.b = true then a.e else firstE r
def RuleOk (w : World) (a : RuleI) : Prop := callOk Try.prog a.f = true ∧ ∀ w', Below w.heap.size w w' → Calls Try.prog a.f ([] ++ [] ++ a.cap).toArray w' fun e w'' => e = .returned (.bool a.b) ∧ Below w'.heap.size w' w''
theorem firstE_0 : ∀ {rs : List RuleI}, (∀ a, a ∈ rs → a.e ≠ 0) → firstE rs = 0 → ∀ a, a ∈ rs → a.b = false := by
  intro rs
  induction rs with
  | nil => intro _ _ a ha; cases ha
  | cons x r ih =>
    intro he h0 a ha
    unfold firstE at h0
    split at h0
    · exact absurd h0 (he x (.head _))
    · rename_i h1
      rcases List.mem_cons.1 ha with rfl | ha
      · simpa using h1
      · exact ih (fun y hy => he y (.tail _ hy)) h0 a ha
set_option maxHeartbeats 4000000 in
theorem first_any {r : SV} {rs : List RuleI} {w : World} (hr : ListAt ruleK w (Lt w.heap.size) r rs) (hn : rs.length ≤ 1000)
    (hc : ∀ k, (h : k < rs.length) → (∀ j, (hj : j < k) → (rs[j]'(by omega)).b = false) → RuleOk w rs[k]) :
    Calls Try.prog 86 #[svV r] w fun e w' => e = .returned (.int .i64 (firstE rs)) ∧ Below w.heap.size w w' := by
  obtain ⟨A, n, c⟩ := r
  have hln := hr.len (by decide)
  simp only at hln
  subst hln
  simp only [svV]
  refine enter Try.func86 rfl Try.ntmps86 rfl ?_; simp only [frame, Nat.zero_add, Nat.reduceAdd]
  repeat (first | (refine M0 ?_; first | refine SL ?_ | refine SB fun _ _ => ?_) | (refine M1 ?_; refine SC ?_) | (refine M2 ?_; refine SE ?_))
  refine XC.loopk [5, 6] rfl (fun k : Nat => [(7, .int .i64 (k : Nat))]) (fun _ => []) (fun _ => w) (fun k => k ≤ rs.length ∧ firstE (rs.drop k) = firstE rs ∧ ∀ j, (h : j < rs.length) → j < k → rs[j].b = false) (fun k => rs.length - k) 0 ⟨Nat.zero_le _, by simp, fun j h hj => absurd hj (by omega)⟩ ZZSUB (fun _ h => h) ?_
  rintro k ⟨hk, hE, hb⟩
  dsimp only [List.cons_append, List.nil_append]
  repeat (first | (refine M0 ?_; first | refine SL ?_ | refine SB fun _ _ => ?_) | (refine M1 ?_; refine SC ?_) | (refine M2 ?_; refine SE ?_))
  refine XC.cond _ rfl (fun h1 => ?_) (fun h1 => ?_)
  · have hkn : k < rs.length := by simpa using h1
    obtain ⟨ad, rfl, hlt⟩ := hr.addr (by decide) (by omega)
    have hcell : ∀ j u, rs[k].v[j]? = some u → w.cell? ((ad.add (k * 2)).add j) = some u := hr.elem (List.getElem?_eq_getElem hkn)
    obtain ⟨hck, hcall⟩ := hc k hkn fun j hj => hb j (by omega) hj
    rw [List.drop_eq_getElem_cons hkn] at hE
    rw [show firstE (rs[k] :: rs.drop (k + 1)) = if rs[k].b = true then rs[k].e else firstE (rs.drop (k + 1)) from rfl] at hE
    repeat (first | (refine M0 ?_; first | refine SL ?_ | refine SB fun _ _ => ?_ | refine Y4 (Ev.load_old_agg tok rs[k].v rfl rfl rfl (add_lt hlt) hcell) ?_) | (refine M1 ?_; refine SC ?_) | (refine M2 ?_; refine SE ?_))
    rename_i g4 hg4
    refine XL.step _ (Ev.callv (f := rs[k].f) (fst := []) (cap := rs[k].cap) hck rfl rfl (fun w5 S5 => hcall w5 S5.toBelow)) rfl ?_
    repeat (first | (refine M0 ?_; first | refine SL ?_ | refine SB fun _ _ => ?_) | (refine M1 ?_; refine SC ?_) | (refine M2 ?_; refine SE ?_))
    refine XC.cond _ rfl (fun h2 => ?_) (fun h2 => ?_)
    · rw [if_pos h2] at hE
      repeat (first | (refine M0 ?_; first | refine SL ?_ | refine SB fun _ _ => ?_) | (refine M1 ?_; refine SC ?_) | (refine M2 ?_; refine SE ?_))
      refine XE.retg tok Try.results86 rfl (by simp only [and_self, and_true]) (fun w' S => ?_)
      exact ⟨by rw [← hE]; rfl, S.toBelow⟩
    · rw [if_neg (by simp [h2])] at hE
      repeat (first | (refine M0 ?_; first | refine SL ?_ | refine SB fun _ _ => ?_) | (refine M1 ?_; refine SC ?_) | (refine M2 ?_; refine SE ?_))
      refine XE.round (k + 1) ⟨hkn, hE, fun j h hj => ?_⟩ (by omega) ZZSUB (fun _ h => h.pop hg4)
      by_cases e : j = k
      · subst e; exact h2
      · exact hb j h (by omega)
  · have hkn : k = rs.length := by have : ¬ (k < rs.length) := by simpa using h1
                                   omega
    subst hkn
    rw [List.drop_length] at hE
    repeat (first | (refine M0 ?_; first | refine SL ?_ | refine SB fun _ _ => ?_) | (refine M1 ?_; refine SC ?_) | (refine M2 ?_; refine SE ?_))
    refine XE.retg tok Try.results86 rfl (by simp only [and_self, and_true]) (fun w' S => ?_)
    exact ⟨by rw [← hE]; rfl, S.toBelow⟩
section
variable {g g2 : Nat} {q : SV} {c : Con} {w : World}
theorem conBox (h : w.heap[g]? = some (cel 181 (conC q c))) : g < w.heap.size ∧ ∀ j u, (conC q c)[j]? = some u → w.cell? ((⟨g, 0, none⟩ : Addr).add j) = some u :=
  ⟨(Array.getElem?_eq_some_iff.1 h).1, fun j u hj => by rw [add_off]; simp [World.cell?, h, hj]⟩
theorem check4_any (h : w.heap[g]? = some (cel 181 (conC q c))) (hs : c.name.size ≤ 9223372036854775807) :
    Calls Try.prog 91 #[.pointer (some ⟨g, 0, none⟩)] w fun e w' => e = .returned (.bool (!nameB c.name)) ∧ Below w.heap.size w w' := by
  obtain ⟨hl, c0⟩ := conBox h
  have d0 := c0 0 _ rfl
  refine enter Try.func91 rfl Try.ntmps91 rfl ?_; simp only [frame, Nat.zero_add, Nat.reduceAdd]
  repeat (first | (refine M0 ?_; first | refine SL ?_ | refine SB fun _ _ => ?_ | refine Y4 (Ev.load_old tok rfl rfl hl d0) ?_ | refine Y4 (Ev.call (f := 45) (ck rfl) rfl (fun w _ => name_any _ hs w)) ?_) | (refine M1 ?_; first | refine SC ?_ | refine SD ?_) | (refine M2 ?_; refine SE ?_) | (refine M3 ?_; first | refine SG ?_ | refine SF ?_ | refine YF (Ev.load_old tok rfl rfl hl d0) ?_ | refine YF (Ev.call (f := 45) (ck rfl) rfl (fun w _ => name_any _ hs w)) ?_) | (refine M4 ?_; refine SR ?_) | (refine M5 ?_; first | exact M7 | refine YM ?_ | refine YN ?_ ?_))
  refine XE.retg tok Try.results91 rfl (by simp only [and_self, and_true]) (fun w' S => ?_)
  exact ⟨rfl, S.toBelow⟩
theorem check6_any (h : w.heap[g]? = some (cel 181 (conC q c))) (hq : q.n = c.hs.length) :
    Calls Try.prog 93 #[.pointer (some ⟨g, 0, none⟩)] w fun e w' => e = .returned (.bool (outB c.hs.length 2 48)) ∧ Below w.heap.size w w' := by
  obtain ⟨A, n, cc⟩ := q
  simp only at hq
  subst hq
  obtain ⟨hl, c0⟩ := conBox h
  have d1 := c0 1 _ rfl
  refine enter Try.func93 rfl Try.ntmps93 rfl ?_; simp only [frame, Nat.zero_add, Nat.reduceAdd]
  repeat (first | (refine M0 ?_; first | refine SL ?_ | refine SB fun _ _ => ?_ | refine Y4 (Ev.load_old tok rfl rfl hl d1) ?_ | refine Y4 (Ev.call (f := 88) (ck rfl) rfl (fun w _ => tdout_any _ _ _ w)) ?_) | (refine M1 ?_; first | refine SC ?_ | refine SD ?_) | (refine M2 ?_; refine SE ?_) | (refine M3 ?_; first | refine SG ?_ | refine SF ?_ | refine YF (Ev.load_old tok rfl rfl hl d1) ?_ | refine YF (Ev.call (f := 88) (ck rfl) rfl (fun w _ => tdout_any _ _ _ w)) ?_) | (refine M4 ?_; refine SR ?_) | (refine M5 ?_; first | exact M7 | refine YM ?_ | refine YN ?_ ?_))
  refine XE.retg tok Try.results93 rfl (by simp only [and_self, and_true]) (fun w' S => ?_)
  exact ⟨rfl, S.toBelow⟩
/-- the numbers of a constituent are no good. -/
def badC (c : Con) : Bool := outB c.den 1 1000 || (outB c.step 1 100000 || (outB c.slack 0 1000 || (outB c.off 0 (c.den * c.hs.length - 1) || c.hs.any fun h => outB h (-10000) 10000)))
set_option maxHeartbeats 16000000 in
theorem check7_any (h : w.heap[g]? = some (cel 181 (conC q c))) (h2 : w.heap[g2]? = some (cel 154 [.func (.func 90) #[] #[]])) (hq : IntsAt w (Lt w.heap.size) q c.hs) (hn : c.hs.length ≤ 48) :
    Calls Try.prog 94 #[.pointer (some ⟨g, 0, none⟩), .pointer (some ⟨g2, 0, none⟩)] w fun e w' => e = .returned (.bool (badC c)) ∧ Below w.heap.size w w' := by
  obtain ⟨A, n, cc⟩ := q
  have hqn := hq.len
  simp only at hqn
  subst hqn
  obtain ⟨hl, c0⟩ := conBox h
  have d1 := c0 1 _ rfl
  have d2 := c0 2 _ rfl
  have d3 := c0 3 _ rfl
  have d4 := c0 4 _ rfl
  have d5 := c0 5 _ rfl
  have hl2 := (Array.getElem?_eq_some_iff.1 h2).1
  have f2 : w.cell? ⟨g2, 0, none⟩ = some (.func (.func 90) #[] #[]) := by simp [World.cell?, h2]
  have oo : ∀ (n lo hi : Int) (b : Bool), outB n lo hi = b → ∀ w, Calls Try.prog 88 #[.int .i64 n, .int .i64 lo, .int .i64 hi] w fun e w' => e = .returned (.bool b) ∧ Below w.heap.size w w' := fun n lo hi b e w => by subst e; exact tdout_any n lo hi w
  refine enter Try.func94 rfl Try.ntmps94 rfl ?_; simp only [frame, Nat.zero_add, Nat.reduceAdd]
  cases e0 : outB c.den 1 1000 with
  | true =>
    repeat (first | (refine M0 ?_; first | refine SL ?_ | refine SB fun _ _ => ?_ | refine Y4 (Ev.load_old tok rfl rfl hl d4) ?_ | refine Y4 (Ev.call (f := 88) (vs := [.int .i64 c.den, .int .i64 1, .int .i64 1000]) (ck rfl) rfl (fun w S => oo _ _ _ _ e0 w)) ?_) | (refine M1 ?_; first | refine SC ?_ | refine SD ?_) | (refine M2 ?_; refine SE ?_) | (refine M3 ?_; first | refine SG ?_ | refine SF ?_ | refine YF (Ev.load_old tok rfl rfl hl d4) ?_ | refine YF (Ev.call (f := 88) (vs := [.int .i64 c.den, .int .i64 1, .int .i64 1000]) (ck rfl) rfl (fun w S => oo _ _ _ _ e0 w)) ?_) | (refine M4 ?_; refine SR ?_) | (refine M5 ?_; first | exact M7 | refine YM ?_ | refine YN ?_ ?_))
    refine XE.retg tok Try.results94 rfl (by simp only [and_self, and_true]) (fun w' S => ?_)
    exact ⟨by rw [show badC c = true by simp only [badC, e0, Bool.true_or]]; rfl, S.toBelow⟩
  | false =>
  cases e1 : outB c.step 1 100000 with
  | true =>
    repeat (first | (refine M0 ?_; first | refine SL ?_ | refine SB fun _ _ => ?_ | refine Y4 (Ev.load_old tok rfl rfl hl d4) ?_ | refine Y4 (Ev.load_old tok rfl rfl hl d3) ?_ | refine Y4 (Ev.call (f := 88) (vs := [.int .i64 c.den, .int .i64 1, .int .i64 1000]) (ck rfl) rfl (fun w S => oo _ _ _ _ e0 w)) ?_ | refine Y4 (Ev.call (f := 88) (vs := [.int .i64 c.step, .int .i64 1, .int .i64 100000]) (ck rfl) rfl (fun w S => oo _ _ _ _ e1 w)) ?_) | (refine M1 ?_; first | refine SC ?_ | refine SD ?_) | (refine M2 ?_; refine SE ?_) | (refine M3 ?_; first | refine SG ?_ | refine SF ?_ | refine YF (Ev.load_old tok rfl rfl hl d4) ?_ | refine YF (Ev.load_old tok rfl rfl hl d3) ?_ | refine YF (Ev.call (f := 88) (vs := [.int .i64 c.den, .int .i64 1, .int .i64 1000]) (ck rfl) rfl (fun w S => oo _ _ _ _ e0 w)) ?_ | refine YF (Ev.call (f := 88) (vs := [.int .i64 c.step, .int .i64 1, .int .i64 100000]) (ck rfl) rfl (fun w S => oo _ _ _ _ e1 w)) ?_) | (refine M4 ?_; refine SR ?_) | (refine M5 ?_; first | exact M7 | refine YM ?_ | refine YN ?_ ?_))
    refine XE.retg tok Try.results94 rfl (by simp only [and_self, and_true]) (fun w' S => ?_)
    exact ⟨by rw [show badC c = true by simp only [badC, e0, e1, Bool.true_or, Bool.false_or]]; rfl, S.toBelow⟩
  | false =>
  cases e2 : outB c.slack 0 1000 with
  | true =>
    repeat (first | (refine M0 ?_; first | refine SL ?_ | refine SB fun _ _ => ?_ | refine Y4 (Ev.load_old tok rfl rfl hl d4) ?_ | refine Y4 (Ev.load_old tok rfl rfl hl d3) ?_ | refine Y4 (Ev.load_old tok rfl rfl hl d5) ?_ | refine Y4 (Ev.call (f := 88) (vs := [.int .i64 c.den, .int .i64 1, .int .i64 1000]) (ck rfl) rfl (fun w S => oo _ _ _ _ e0 w)) ?_ | refine Y4 (Ev.call (f := 88) (vs := [.int .i64 c.step, .int .i64 1, .int .i64 100000]) (ck rfl) rfl (fun w S => oo _ _ _ _ e1 w)) ?_ | refine Y4 (Ev.call (f := 88) (vs := [.int .i64 c.slack, .int .i64 0, .int .i64 1000]) (ck rfl) rfl (fun w S => oo _ _ _ _ e2 w)) ?_) | (refine M1 ?_; first | refine SC ?_ | refine SD ?_) | (refine M2 ?_; refine SE ?_) | (refine M3 ?_; first | refine SG ?_ | refine SF ?_ | refine YF (Ev.load_old tok rfl rfl hl d4) ?_ | refine YF (Ev.load_old tok rfl rfl hl d3) ?_ | refine YF (Ev.load_old tok rfl rfl hl d5) ?_ | refine YF (Ev.call (f := 88) (vs := [.int .i64 c.den, .int .i64 1, .int .i64 1000]) (ck rfl) rfl (fun w S => oo _ _ _ _ e0 w)) ?_ | refine YF (Ev.call (f := 88) (vs := [.int .i64 c.step, .int .i64 1, .int .i64 100000]) (ck rfl) rfl (fun w S => oo _ _ _ _ e1 w)) ?_ | refine YF (Ev.call (f := 88) (vs := [.int .i64 c.slack, .int .i64 0, .int .i64 1000]) (ck rfl) rfl (fun w S => oo _ _ _ _ e2 w)) ?_) | (refine M4 ?_; refine SR ?_) | (refine M5 ?_; first | exact M7 | refine YM ?_ | refine YN ?_ ?_))
    refine XE.retg tok Try.results94 rfl (by simp only [and_self, and_true]) (fun w' S => ?_)
    exact ⟨by rw [show badC c = true by simp only [badC, e0, e1, e2, Bool.true_or, Bool.false_or]]; rfl, S.toBelow⟩
  | false =>
  have hd := outB_f.1 e0
  have hm := mul_bd (X := 1000) (Y := 48) (x := c.den) (y := (c.hs.length : Int)) (by omega) (by omega)
  have i1 : i64in (c.den * (c.hs.length : Int) - 1) := by unfold i64in; omega
  cases e3 : outB c.off 0 (c.den * c.hs.length - 1) with
  | true =>
    repeat (first | (refine M0 ?_; first | refine SL ?_ | refine SB fun _ _ => ?_ | refine Y4 (Ev.load_old tok rfl rfl hl d4) ?_ | refine Y4 (Ev.load_old tok rfl rfl hl d3) ?_ | refine Y4 (Ev.load_old tok rfl rfl hl d5) ?_ | refine Y4 (Ev.load_old tok rfl rfl hl d2) ?_ | refine Y4 (Ev.load_old_agg tok (conC ⟨A, c.hs.length, cc⟩ c) rfl rfl rfl hl c0) ?_ | refine Y4 (Ev.call (f := 95) (ck rfl) rfl (fun w5 S5 => cycle_any (q := ⟨A, c.hs.length, cc⟩) (c := c) rfl hn hd)) ?_ | refine Y4 (Ev.call (f := 88) (vs := [.int .i64 c.den, .int .i64 1, .int .i64 1000]) (ck rfl) rfl (fun w S => oo _ _ _ _ e0 w)) ?_ | refine Y4 (Ev.call (f := 88) (vs := [.int .i64 c.step, .int .i64 1, .int .i64 100000]) (ck rfl) rfl (fun w S => oo _ _ _ _ e1 w)) ?_ | refine Y4 (Ev.call (f := 88) (vs := [.int .i64 c.slack, .int .i64 0, .int .i64 1000]) (ck rfl) rfl (fun w S => oo _ _ _ _ e2 w)) ?_ | refine Y4 (Ev.call (f := 88) (vs := [.int .i64 c.off, .int .i64 0, .int .i64 (c.den * c.hs.length - 1)]) (ck rfl) rfl (fun w S => oo _ _ _ _ e3 w)) ?_) | (refine M1 ?_; first | refine SC ?_ | refine SD ?_) | (refine M2 ?_; refine SE ?_) | (refine M3 ?_; first | refine SG ?_ | refine SF ?_ | refine YF (Ev.load_old tok rfl rfl hl d4) ?_ | refine YF (Ev.load_old tok rfl rfl hl d3) ?_ | refine YF (Ev.load_old tok rfl rfl hl d5) ?_ | refine YF (Ev.load_old tok rfl rfl hl d2) ?_ | refine YF (Ev.load_old_agg tok (conC ⟨A, c.hs.length, cc⟩ c) rfl rfl rfl hl c0) ?_ | refine YF (Ev.call (f := 95) (ck rfl) rfl (fun w5 S5 => cycle_any (q := ⟨A, c.hs.length, cc⟩) (c := c) rfl hn hd)) ?_ | refine YF (Ev.call (f := 88) (vs := [.int .i64 c.den, .int .i64 1, .int .i64 1000]) (ck rfl) rfl (fun w S => oo _ _ _ _ e0 w)) ?_ | refine YF (Ev.call (f := 88) (vs := [.int .i64 c.step, .int .i64 1, .int .i64 100000]) (ck rfl) rfl (fun w S => oo _ _ _ _ e1 w)) ?_ | refine YF (Ev.call (f := 88) (vs := [.int .i64 c.slack, .int .i64 0, .int .i64 1000]) (ck rfl) rfl (fun w S => oo _ _ _ _ e2 w)) ?_ | refine YF (Ev.call (f := 88) (vs := [.int .i64 c.off, .int .i64 0, .int .i64 (c.den * c.hs.length - 1)]) (ck rfl) rfl (fun w S => oo _ _ _ _ e3 w)) ?_) | (refine M4 ?_; refine SR ?_) | (refine M5 ?_; first | exact M7 | refine YM ?_ | refine YN ?_ ?_))
    refine XE.retg tok Try.results94 rfl (by simp only [and_self, and_true]) (fun w' S => ?_)
    exact ⟨by rw [show badC c = true by simp only [badC, e0, e1, e2, e3, Bool.true_or, Bool.false_or]]; rfl, S.toBelow⟩
  | false =>
  repeat (first | (refine M0 ?_; first | refine SL ?_ | refine SB fun _ _ => ?_ | refine Y4 (Ev.load_old tok rfl rfl hl d4) ?_ | refine Y4 (Ev.load_old tok rfl rfl hl d3) ?_ | refine Y4 (Ev.load_old tok rfl rfl hl d5) ?_ | refine Y4 (Ev.load_old tok rfl rfl hl d2) ?_ | refine Y4 (Ev.load_old_agg tok (conC ⟨A, c.hs.length, cc⟩ c) rfl rfl rfl hl c0) ?_ | refine Y4 (Ev.call (f := 95) (ck rfl) rfl (fun w5 S5 => cycle_any (q := ⟨A, c.hs.length, cc⟩) (c := c) rfl hn hd)) ?_ | refine Y4 (Ev.call (f := 88) (vs := [.int .i64 c.den, .int .i64 1, .int .i64 1000]) (ck rfl) rfl (fun w S => oo _ _ _ _ e0 w)) ?_ | refine Y4 (Ev.call (f := 88) (vs := [.int .i64 c.step, .int .i64 1, .int .i64 100000]) (ck rfl) rfl (fun w S => oo _ _ _ _ e1 w)) ?_ | refine Y4 (Ev.call (f := 88) (vs := [.int .i64 c.slack, .int .i64 0, .int .i64 1000]) (ck rfl) rfl (fun w S => oo _ _ _ _ e2 w)) ?_ | refine Y4 (Ev.call (f := 88) (vs := [.int .i64 c.off, .int .i64 0, .int .i64 (c.den * c.hs.length - 1)]) (ck rfl) rfl (fun w S => oo _ _ _ _ e3 w)) ?_ | refine Y4 (Ev.load_old tok rfl rfl hl d1) ?_ | refine Y4 (Ev.load_old tok rfl rfl hl2 f2) ?_ | refine Y4 (Ev.call (f := 96) (ck rfl) rfl (fun w5 S5 => (contInt (f := 90) (cap := []) (P := fun h => outB h (-10000) 10000) (r := ⟨A, c.hs.length, cc⟩) (ms := c.hs) (ck rfl) (hq.arg S5) (by omega) (fun m hm w' hb => check3_any m w') :))) ?_) | (refine M1 ?_; first | refine SC ?_ | refine SD ?_) | (refine M2 ?_; refine SE ?_) | (refine M3 ?_; first | refine SG ?_ | refine SF ?_ | refine YF (Ev.load_old tok rfl rfl hl d4) ?_ | refine YF (Ev.load_old tok rfl rfl hl d3) ?_ | refine YF (Ev.load_old tok rfl rfl hl d5) ?_ | refine YF (Ev.load_old tok rfl rfl hl d2) ?_ | refine YF (Ev.load_old_agg tok (conC ⟨A, c.hs.length, cc⟩ c) rfl rfl rfl hl c0) ?_ | refine YF (Ev.call (f := 95) (ck rfl) rfl (fun w5 S5 => cycle_any (q := ⟨A, c.hs.length, cc⟩) (c := c) rfl hn hd)) ?_ | refine YF (Ev.call (f := 88) (vs := [.int .i64 c.den, .int .i64 1, .int .i64 1000]) (ck rfl) rfl (fun w S => oo _ _ _ _ e0 w)) ?_ | refine YF (Ev.call (f := 88) (vs := [.int .i64 c.step, .int .i64 1, .int .i64 100000]) (ck rfl) rfl (fun w S => oo _ _ _ _ e1 w)) ?_ | refine YF (Ev.call (f := 88) (vs := [.int .i64 c.slack, .int .i64 0, .int .i64 1000]) (ck rfl) rfl (fun w S => oo _ _ _ _ e2 w)) ?_ | refine YF (Ev.call (f := 88) (vs := [.int .i64 c.off, .int .i64 0, .int .i64 (c.den * c.hs.length - 1)]) (ck rfl) rfl (fun w S => oo _ _ _ _ e3 w)) ?_ | refine YF (Ev.load_old tok rfl rfl hl d1) ?_ | refine YF (Ev.load_old tok rfl rfl hl2 f2) ?_ | refine YF (Ev.call (f := 96) (ck rfl) rfl (fun w5 S5 => (contInt (f := 90) (cap := []) (P := fun h => outB h (-10000) 10000) (r := ⟨A, c.hs.length, cc⟩) (ms := c.hs) (ck rfl) (hq.arg S5) (by omega) (fun m hm w' hb => check3_any m w') :))) ?_) | (refine M4 ?_; refine SR ?_) | (refine M5 ?_; first | exact M7 | refine YM ?_ | refine YN ?_ ?_))
  refine XE.retg tok Try.results94 rfl (by simp only [and_self, and_true]) (fun w' S => ?_)
  exact ⟨by rw [show badC c = c.hs.any (fun h => outB h (-10000) 10000) by simp only [badC, e0, e1, e2, e3, Bool.false_or]]; rfl, S.toBelow⟩
end
end Go.Proofs.Ytmckmlmfilmiaaa.X
/-
  The walk of Check (tide).
-/
namespace Go.Proofs.Ytmckmlmfilmiaaa.X
open Go Go.RowKit Go.Proofs.Ytmckmlmfilmiaaa.Bs
set_option linter.unusedVariables false
/-- a table in memory. -/
def tabC (r : SV) (m : Int) : List Value := [.int .i64 m, .slice r.A r.n r.c]
structure TabAt (w : World) (ok : Nat → Prop) (r : SV) (cs : List ConI) : Prop where
  ls : ListAt conK w ok r cs
  nm : ∀ a, a ∈ cs → a.c.name.size ≤ 9223372036854775807
structure TabOk (m : Int) (cs : List ConI) : Prop where
  mean : -20000 ≤ m ∧ m ≤ 20000
  len : cs.length ≤ 12
  con : ∀ a, a ∈ cs → ConOk a.c
def nmKV (cs : List ConI) (k : Nat) : List (ByteArray × Value) := (cs.take k).map fun a => (a.c.name, .bool true)
def seenC (cs : List ConI) (k : Nat) (s : ByteArray) : Bool := (findS (nmKV cs k) s).isSome
theorem seenC_v (cs : List ConI) (k : Nat) (s : ByteArray) : (findS (nmKV cs k) s).getD (.bool false) = .bool (seenC cs k s) := by
  unfold seenC
  cases h : findS (nmKV cs k) s with
  | none => rfl
  | some v =>
    unfold findS at h
    cases h2 : (nmKV cs k).find? fun e => decide (s = e.1) with
    | none => rw [h2] at h; cases h
    | some e =>
      rw [h2] at h
      have h3 := List.mem_of_find?_eq_some h2
      unfold nmKV at h3
      obtain ⟨a, _, rfl⟩ := List.mem_map.1 h3
      simp only [Option.map_some, Option.some.injEq] at h
      subst h
      rfl
theorem nmKV_succ {cs : List ConI} {k : Nat} (h : k < cs.length) : nmKV cs (k + 1) = nmKV cs k ++ [(cs[k].c.name, .bool true)] := by
  unfold nmKV
  rw [List.take_add_one, List.map_append, List.getElem?_eq_getElem h]
  rfl
section
variable {P : Program} {T : TT} {N B : Nat} {w0 : World} {ds : List Deferred} {pu : Prop} {F : Fr} {L : Lo} {dst : Option Tmp} {ty : TypeId} {p : String} {af : Array Edge} {gd : Option (Nat × Bool)}
theorem Ev.lookupM (hT : TOK P T) {t kt et : TypeId} {x y : Operand} {z v : Value} (kvs : List (ByteArray × Value)) {r : Nat} {k : ByteArray} (hx : evo F x = some (.map (some r))) (hy : evo F y = some (.string k)) (hm : w0.heap[r]? = some (mapS kvs)) (hn : ∀ e, e ∈ L → e.1 ≠ r)
    (ht : P.underlying t = some (.map kt et)) (hkt : P.underlying kt = some .string) (hz : lkG T.zero et = some z) (hv : (findS kvs k).getD z = v) :
    Ev P N B w0 ds pu F L ⟨dst, .lookup t x y false, ty, p, af, gd⟩ v :=
  .of_run fun a w hf hw => by
    have h1 : w.heap[r]? = some (mapS kvs) := (hw.old r (Array.getElem?_eq_some_iff.1 hm).1 (fun e he => hn e he)).trans hm
    have := lookupS_run (k := k) (ok := false) hT ht hkt hz h1
    rw [← hv]
    simp [execOp, hf.eval hx, hf.eval hy, this]
end
section
variable {g g4 gm : Nat} {r q : SV} {c : Con} {m : Int} {w : World}
theorem check1_any (h : w.heap[g]? = some (cel 85 (tabC r m))) :
    Calls Try.prog 87 #[.pointer (some ⟨g, 0, none⟩)] w fun e w' => e = .returned (.bool (outB m (-20000) 20000)) ∧ Below w.heap.size w w' := by
  have hl := (Array.getElem?_eq_some_iff.1 h).1
  have d0 : w.cell? ⟨g, 0, none⟩ = some (.int .i64 m) := by simp [World.cell?, h, tabC]
  refine enter Try.func87 rfl Try.ntmps87 rfl ?_; simp only [frame, Nat.zero_add, Nat.reduceAdd]
  repeat (first | (refine M0 ?_; first | refine SL ?_ | refine SB fun _ _ => ?_ | refine Y4 (Ev.load_old tok rfl rfl hl d0) ?_ | refine Y4 (Ev.call (f := 88) (ck rfl) rfl (fun w _ => tdout_any _ _ _ w)) ?_) | (refine M1 ?_; first | refine SC ?_ | refine SD ?_) | (refine M2 ?_; refine SE ?_) | (refine M3 ?_; first | refine SG ?_ | refine SF ?_ | refine YF (Ev.load_old tok rfl rfl hl d0) ?_ | refine YF (Ev.call (f := 88) (ck rfl) rfl (fun w _ => tdout_any _ _ _ w)) ?_) | (refine M4 ?_; refine SR ?_) | (refine M5 ?_; first | exact M7 | refine YM ?_ | refine YN ?_ ?_))
  refine XE.retg tok Try.results87 rfl (by simp only [and_self, and_true]) (fun w' S => ?_)
  exact ⟨rfl, S.toBelow⟩
theorem check2_any (h : w.heap[g]? = some (cel 85 (tabC r m))) :
    Calls Try.prog 89 #[.pointer (some ⟨g, 0, none⟩)] w fun e w' => e = .returned (.bool (decide ((12 : Int) < r.n))) ∧ Below w.heap.size w w' := by
  have hl := (Array.getElem?_eq_some_iff.1 h).1
  have d1 : w.cell? ⟨g, 1, none⟩ = some (.slice r.A r.n r.c) := by simp [World.cell?, h, tabC]
  refine enter Try.func89 rfl Try.ntmps89 rfl ?_; simp only [frame, Nat.zero_add, Nat.reduceAdd]
  repeat (first | (refine M0 ?_; first | refine SL ?_ | refine SB fun _ _ => ?_ | refine Y4 (Ev.load_old tok rfl rfl hl d1) ?_) | (refine M1 ?_; first | refine SC ?_ | refine SD ?_) | (refine M2 ?_; refine SE ?_) | (refine M3 ?_; first | refine SG ?_ | refine SF ?_ | refine YF (Ev.load_old tok rfl rfl hl d1) ?_) | (refine M4 ?_; refine SR ?_) | (refine M5 ?_; first | exact M7 | refine YM ?_ | refine YN ?_ ?_))
  refine XE.retg tok Try.results89 rfl (by simp only [and_self, and_true]) (fun w' S => ?_)
  exact ⟨rfl, S.toBelow⟩
theorem check5_any {cs : List ConI} {k : Nat} (h4 : w.heap[g4]? = some (cel 155 [.map (some gm)])) (hm : w.heap[gm]? = some (mapS (nmKV cs k))) (h : w.heap[g]? = some (cel 181 (conC q c))) :
    Calls Try.prog 92 #[.pointer (some ⟨g4, 0, none⟩), .pointer (some ⟨g, 0, none⟩)] w fun e w' => e = .returned (.bool (seenC cs k c.name)) ∧ Below w.heap.size w w' := by
  obtain ⟨hl, c0⟩ := conBox h
  have d0 := c0 0 _ rfl
  have hl4 := (Array.getElem?_eq_some_iff.1 h4).1
  have d4 : w.cell? ⟨g4, 0, none⟩ = some (.map (some gm)) := by simp [World.cell?, h4]
  refine enter Try.func92 rfl Try.ntmps92 rfl ?_; simp only [frame, Nat.zero_add, Nat.reduceAdd]
  repeat (first | (refine M0 ?_; first | refine SL ?_ | refine SB fun _ _ => ?_ | refine Y4 (Ev.load_old tok rfl rfl hl4 d4) ?_ | refine Y4 (Ev.load_old tok rfl rfl hl d0) ?_ | refine Y4 (Ev.lookupM tok (nmKV cs k) rfl rfl hm (fun e he => by cases he) Try.underlying155 Try.underlying9 rfl (seenC_v cs k c.name)) ?_) | (refine M1 ?_; first | refine SC ?_ | refine SD ?_) | (refine M2 ?_; refine SE ?_) | (refine M3 ?_; first | refine SG ?_ | refine SF ?_ | refine YF (Ev.load_old tok rfl rfl hl4 d4) ?_ | refine YF (Ev.load_old tok rfl rfl hl d0) ?_ | refine YF (Ev.lookupM tok (nmKV cs k) rfl rfl hm (fun e he => by cases he) Try.underlying155 Try.underlying9 rfl (seenC_v cs k c.name)) ?_) | (refine M4 ?_; refine SR ?_) | (refine M5 ?_; first | exact M7 | refine YM ?_ | refine YN ?_ ?_))
  refine XE.retg tok Try.results92 rfl (by simp only [and_self, and_true]) (fun w' S => ?_)
  exact ⟨rfl, S.toBelow⟩
end
/-- what Check answers. -/
def ChkV (m : Int) (cs : List ConI) (v : Value) (new : List Held) : Prop := ∃ i e : Int, v = .tuple ⟨[.int .i64 i, .int .i64 e]⟩ ∧ (e = 0 → TabOk m cs) ∧ new = []
set_option maxHeartbeats 16000000 in
theorem tdCheck_made {r : SV} {m : Int} {cs : List ConI} {w : World} (hr : TabAt w (Lt w.heap.size) r cs) :
    Calls Try.prog 66 #[.agg ⟨tabC r m⟩] w (Made w (ChkV m cs)) := by
  obtain ⟨A, n, c⟩ := r
  have hn := hr.ls.len (by decide)
  have hmx := hr.ls.max
  simp only at hn hmx
  subst hn
  simp only [tabC]
  refine enter Try.func66 rfl Try.ntmps66 rfl ?_; simp only [frame, Nat.zero_add, Nat.reduceAdd]
  repeat (first | (refine M0 ?_; first | refine SL ?_ | refine SB fun _ _ => ?_ | refine Y4 (Ev.makeFunc rfl rfl) ?_ | refine XL.buildSlice tok rfl rfl rfl rfl rfl rfl rfl rfl rfl (fun _ _ => ?_)) | (refine M1 ?_; refine SC ?_) | (refine M2 ?_; refine SE ?_))
  rename_i g1 hg1 gr hgr
  obtain ⟨rs1, hrs1⟩ : ∃ rs1 : List RuleI, rs1 = [⟨87, [.pointer (some ⟨g1, 0, none⟩)], 7, outB m (-20000) 20000⟩, ⟨89, [.pointer (some ⟨g1, 0, none⟩)], 3, decide ((12 : Int) < (cs.length : Int))⟩] := ⟨_, rfl⟩
  refine XL.step _ (Ev.call (f := 86) (ck rfl) rfl (fun w5 S5 => (first_any (r := ⟨some ⟨gr, 0, none⟩, 2, 2⟩) (rs := [⟨87, [.pointer (some ⟨g1, 0, none⟩)], 7, outB m (-20000) 20000⟩, ⟨89, [.pointer (some ⟨g1, 0, none⟩)], 3, decide ((12 : Int) < (cs.length : Int))⟩]) ⟨(ReadsP.block (S5.own _ List.mem_cons_self).2 (Nat.zero_le _) rfl).mono fun j hj => hj.2, by simp, fun a ha x hx => by cases hx⟩ (by simp) (fun k hk hb => by
    have h1 := fun (w' : World) (hb : Below w5.heap.size w5 w') => (hb.block g1 (S5.lt (e := (g1, _)) (.tail _ (.head _)))).trans (S5.own (g1, _) (.tail _ (.head _))).2
    match k, hk with
    | 0, _ => exact ⟨ck rfl, fun w' hb => check1_any (r := ⟨A, cs.length, c⟩) (h1 w' hb)⟩
    | 1, _ => exact ⟨ck rfl, fun w' hb => check2_any (r := ⟨A, cs.length, c⟩) (m := m) (h1 w' hb)⟩)))) rfl ?_
  rw [← hrs1]
  repeat (first | (refine M0 ?_; first | refine SL ?_ | refine SB fun _ _ => ?_) | (refine M1 ?_; refine SC ?_) | (refine M2 ?_; refine SE ?_))
  refine XC.cond _ rfl (fun h0 => ?_) (fun h0 => ?_)
  · repeat (first | (refine M0 ?_; first | refine SL ?_ | refine SB fun _ _ => ?_) | (refine M1 ?_; refine SC ?_) | (refine M2 ?_; refine SE ?_))
    refine XE.retg tok Try.results66 rfl (by simp only [and_self, and_true]) (fun w' S => ?_)
    exact ⟨_, [], rfl, ⟨-1, _, rfl, fun h => absurd h (by simpa using h0), rfl⟩, (fun x hx => by cases hx), S.toBelow⟩
  have hE0 : firstE rs1 = 0 := by simpa using h0
  have hB := firstE_0 (by rw [hrs1]; intro a ha; simp only [List.mem_cons, List.not_mem_nil, or_false] at ha; rcases ha with rfl | rfl <;> simp) hE0
  rw [hrs1] at hB
  have hB1 : outB m (-20000) 20000 = false := hB _ (.head _)
  have hB2 : decide ((12 : Int) < (cs.length : Int)) = false := hB _ (.tail _ (.head _))
  have hmap := Try.underlying155
  have hstr := Try.underlying9
  repeat (first | (refine M0 ?_; first | refine SL ?_ | refine SB fun _ _ => ?_ | refine XL.makeMap rfl (fun _ _ => ?_)) | (refine M1 ?_; refine SC ?_) | (refine M2 ?_; refine SE ?_))
  rename_i gm hgm g4 hg4
  refine XC.loopk [4, 20, 21] rfl (fun k : Nat => [(22, .int .i64 (k : Nat))]) (fun k => [(g4, cel 155 [.map (some gm)]), (gm, mapS (nmKV cs k)), _, _]) (fun _ => w) (fun k => k ≤ cs.length ∧ ∀ j, (h : j < cs.length) → j < k → ConOk cs[j].c) (fun k => cs.length - k) 0 ⟨Nat.zero_le _, fun j h hj => absurd hj (by omega)⟩ ZZSUB (fun _ h => h) ?_
  rintro k ⟨hk, hok⟩
  dsimp only [List.cons_append, List.nil_append]
  repeat (first | (refine M0 ?_; first | refine SL ?_ | refine SB fun _ _ => ?_) | (refine M1 ?_; refine SC ?_) | (refine M2 ?_; refine SE ?_))
  refine XC.cond _ rfl (fun h1 => ?_) (fun h1 => ?_)
  rotate_left
  · have hkn : k = cs.length := by have : ¬ (k < cs.length) := by simpa using h1
                                   omega
    subst hkn
    repeat (first | (refine M0 ?_; first | refine SL ?_ | refine SB fun _ _ => ?_) | (refine M1 ?_; refine SC ?_) | (refine M2 ?_; refine SE ?_))
    refine XE.retg tok Try.results66 rfl (by simp only [and_self, and_true]) (fun w' S => ?_)
    refine ⟨_, [], rfl, ⟨0, 0, rfl, fun _ => ⟨outB_f.1 hB1, by have := of_decide_eq_false hB2; omega, fun a ha => ?_⟩, rfl⟩, (fun x hx => by cases hx), S.toBelow⟩
    obtain ⟨j, hj, rfl⟩ := List.mem_iff_getElem.1 ha
    exact hok j hj hj
  have hkn : k < cs.length := by simpa using h1
  obtain ⟨ad, rfl, hlt⟩ := hr.ls.addr (by decide) (by omega)
  have hcell : ∀ j u, cs[k].v[j]? = some u → w.cell? ((ad.add (k * 6)).add j) = some u := hr.ls.elem (List.getElem?_eq_getElem hkn)
  have hq : IntsAt w (Lt w.heap.size) cs[k].q cs[k].c.hs := hr.ls.ins _ (List.getElem_mem hkn) (hInts _ _) (.head _)
  have hnm := hr.nm _ (List.getElem_mem hkn)
  have hsu := nmKV_succ hkn
  have hokk : ∀ j, (h : j < cs.length) → j < k + 1 → ConOk cs[k].c → ConOk cs[j].c := fun j h hj ho => by
    by_cases e : j = k
    · subst e; exact ho
    · exact hok j h (by omega)
  obtain ⟨a, haa⟩ : ∃ a, a = cs[k] := ⟨_, rfl⟩
  rw [← haa] at hcell hq hnm hsu
  simp only [← haa] at hokk
  obtain ⟨cn, ⟨Aq, nq, cq⟩⟩ := a
  have hcell' : ∀ j u, (conC ⟨Aq, nq, cq⟩ cn)[j]? = some u → w.cell? ((ad.add (k * 6)).add j) = some u := hcell
  simp only at hq hnm hsu hokk
  have hnq := hq.len
  simp only at hnq
  repeat (first | (refine M0 ?_; first | refine SL ?_ | refine SB fun _ _ => ?_ | refine Y4 (Ev.load_old_agg tok (conC ⟨Aq, nq, cq⟩ cn) rfl rfl rfl (add_lt hlt) hcell') ?_ | refine Y4 (Ev.makeFunc rfl rfl) ?_ | refine XL.buildSlice tok rfl rfl rfl rfl rfl rfl rfl rfl rfl (fun _ _ => ?_)) | (refine M1 ?_; refine SC ?_) | (refine M2 ?_; refine SE ?_))
  rename_i g6 hg6 g7 hg7 gr2 hgr2
  obtain ⟨rs2, hrs2⟩ : ∃ rs2 : List RuleI, rs2 = [⟨91, [.pointer (some ⟨g6, 0, none⟩)], 6, !nameB cn.name⟩, ⟨92, [.pointer (some ⟨g4, 0, none⟩), .pointer (some ⟨g6, 0, none⟩)], 5, seenC cs k cn.name⟩, ⟨93, [.pointer (some ⟨g6, 0, none⟩)], 3, outB cn.hs.length 2 48⟩, ⟨94, [.pointer (some ⟨g6, 0, none⟩), .pointer (some ⟨g7, 0, none⟩)], 7, badC cn⟩] := ⟨_, rfl⟩
  refine XL.step _ (Ev.call (f := 86) (ck rfl) rfl (fun w5 S5 => (first_any (r := ⟨some ⟨gr2, 0, none⟩, 4, 4⟩) (rs := [⟨91, [.pointer (some ⟨g6, 0, none⟩)], 6, !nameB cn.name⟩, ⟨92, [.pointer (some ⟨g4, 0, none⟩), .pointer (some ⟨g6, 0, none⟩)], 5, seenC cs k cn.name⟩, ⟨93, [.pointer (some ⟨g6, 0, none⟩)], 3, outB cn.hs.length 2 48⟩, ⟨94, [.pointer (some ⟨g6, 0, none⟩), .pointer (some ⟨g7, 0, none⟩)], 7, badC cn⟩]) ⟨(ReadsP.block (S5.own _ List.mem_cons_self).2 (Nat.zero_le _) rfl).mono fun j hj => hj.2, by simp, fun a ha x hx => by cases hx⟩ (by simp) (fun k hk hb => by
    have h6 := fun (w' : World) (hb : Below w5.heap.size w5 w') => (hb.block g6 (S5.lt (e := (g6, _)) (.tail _ (.tail _ (.head _))))).trans (S5.own (g6, _) (.tail _ (.tail _ (.head _)))).2
    have h7 := fun (w' : World) (hb : Below w5.heap.size w5 w') => (hb.block g7 (S5.lt (e := (g7, _)) (.tail _ (.head _)))).trans (S5.own (g7, _) (.tail _ (.head _))).2
    have h4 := fun (w' : World) (hb : Below w5.heap.size w5 w') => (hb.block g4 (S5.lt (e := (g4, _)) (.tail _ (.tail _ (.tail _ (.head _)))))).trans (S5.own (g4, _) (.tail _ (.tail _ (.tail _ (.head _))))).2
    have hm := fun (w' : World) (hb : Below w5.heap.size w5 w') => (hb.block gm (S5.lt (e := (gm, _)) (.tail _ (.tail _ (.tail _ (.tail _ (.head _))))))).trans (S5.own (gm, _) (.tail _ (.tail _ (.tail _ (.tail _ (.head _)))))).2
    match k, hk with
    | 0, _ => exact ⟨ck rfl, fun w' hb => check4_any (q := ⟨Aq, nq, cq⟩) (h6 w' hb) hnm⟩
    | 1, _ => exact ⟨ck rfl, fun w' hb => check5_any (q := ⟨Aq, nq, cq⟩) (h4 w' hb) (hm w' hb) (h6 w' hb)⟩
    | 2, _ => exact ⟨ck rfl, fun w' hb => check6_any (q := ⟨Aq, nq, cq⟩) (h6 w' hb) hnq⟩
    | 3, _ =>
      have h48 : outB cn.hs.length 2 48 = false := hb 2 (by omega)
      exact ⟨ck rfl, fun w' hb => check7_any (q := ⟨Aq, nq, cq⟩) (h6 w' hb) (h7 w' hb) (((hq.arg S5).below hb).mono fun j hj => Nat.lt_of_lt_of_le hj hb.size) (by have := outB_f.1 h48; omega)⟩)))) rfl ?_
  rw [← hrs2]
  repeat (first | (refine M0 ?_; first | refine SL ?_ | refine SB fun _ _ => ?_) | (refine M1 ?_; refine SC ?_) | (refine M2 ?_; refine SE ?_))
  refine XC.cond _ rfl (fun h2 => ?_) (fun h2 => ?_)
  · repeat (first | (refine M0 ?_; first | refine SL ?_ | refine SB fun _ _ => ?_) | (refine M1 ?_; refine SC ?_) | (refine M2 ?_; refine SE ?_))
    refine XE.retg tok Try.results66 rfl (by simp only [and_self, and_true]) (fun w' S => ?_)
    exact ⟨_, [], rfl, ⟨(k : Nat), _, rfl, fun h => absurd h (by simpa using h2), rfl⟩, (fun x hx => by cases hx), S.toBelow⟩
  have hE2 : firstE rs2 = 0 := by simpa using h2
  have hC := firstE_0 (by rw [hrs2]; intro a ha; simp only [List.mem_cons, List.not_mem_nil, or_false] at ha; rcases ha with rfl | rfl | rfl | rfl <;> simp) hE2
  rw [hrs2] at hC
  have c2 : seenC cs k cn.name = false := hC _ (.tail _ (.head _))
  have c3 : outB cn.hs.length 2 48 = false := hC _ (.tail _ (.tail _ (.head _)))
  have c4 : badC cn = false := hC _ (.tail _ (.tail _ (.tail _ (.head _))))
  have hcon : ConOk cn := by
    simp only [badC, Bool.or_eq_false_iff, List.any_eq_false] at c4
    obtain ⟨d1, d2, d3, d4, d5⟩ := c4
    refine ⟨by have := outB_f.1 c3; omega, fun i hi => ?_, outB_f.1 d4, outB_f.1 d2, outB_f.1 d1, outB_f.1 d3⟩
    have := d5 cn.hs[i] (List.getElem_mem hi)
    rw [List.getElem?_eq_getElem hi]
    exact outB_f.1 (by simpa using this)
  have hnone : findS (nmKV cs k) cn.name = none := by
    unfold seenC at c2
    cases h : findS (nmKV cs k) cn.name with
    | none => rfl
    | some v => rw [h] at c2; cases c2
  repeat (first | (refine M0 ?_; first | refine SL ?_ | refine SB fun _ _ => ?_) | (refine M1 ?_; refine SC ?_) | (refine M2 ?_; refine SE ?_))
  refine XL.updateS 4 (nmKV cs k) rfl rfl rfl rfl hmap hstr hnone rfl ?_
  rw [← hsu]
  repeat (first | (refine M0 ?_; first | refine SL ?_ | refine SB fun _ _ => ?_) | (refine M1 ?_; refine SC ?_) | (refine M2 ?_; refine SE ?_))
  exact XE.round (k + 1) ⟨hkn, fun j h hj => hokk j h hj hcon⟩ (by omega) ZZSUB (fun _ h => ((h.pop hgr2).pop hg7).pop hg6)
end Go.Proofs.Ytmckmlmfilmiaaa.X
/-
  The walk of levels and Levels (tide).
-/
namespace Go.Proofs.Ytmckmlmfilmiaaa.X
open Go Go.RowKit Go.Proofs.Ytmckmlmfilmiaaa.Bs
set_option linter.unusedVariables false
section
variable {P : Program} {T : TT} {N B : Nat} {w0 : World} {ds : List Deferred} {Q : Exit → Act → World → Prop} {F : Fr} {L : Lo} {ops : Array Oper} {rest : List Oper} {ty : TypeId} {p : String} {af : Array Edge}
/-- make([]T, n), of spans. -/
theorem XL.makeSp {d : Nat} {t e : TypeId} {x y : Operand} {n : Nat} {z0 : Value} (he : elemOk P t e 2 16 = true) (hz : (P.info? e).bind (·.zero) = some z0) (hzc : z0.cells = #[.int .i64 0, .int .i64 0]) (hx : evo F x = some (.int .i64 (n : Nat))) (hy : evo F y = some (.int .i64 (n : Nat))) (hd : Nat.blt d N = true) (hn : n ≤ 1000000)
    (k : ∀ g, w0.heap.size ≤ g → XL P N B w0 ds Q ops rest ((1000000 + d, .slice none L.length 0) :: (d, .slice (some ⟨g, 0, none⟩) n n) :: F) ((g, cel e ((List.replicate n (0, 0)).flatMap spC)) :: L)) :
    XL P N B w0 ds Q ops ({ dst := some d, op := .makeSlice t x y, type := ty, pos := p, after := af, guard := none } :: rest) F L := by
  refine ⟨fun a w hf hw => ?_⟩
  refine wpList_plain rfl fun Kk hK => ?_
  unfold Oper.wp
  obtain ⟨hu, i, z, hi, hz', e1, e2, e3⟩ := elemOk_spec he
  rw [hi] at hz
  simp only [Option.bind_some] at hz
  have hz2 : z = z0 := by rw [hz'] at hz; exact Option.some.inj hz
  subst hz2
  have hrun := run_makeSlice (P := P) w t e i z hu hi hz' .i64 .i64 (n : Int) (n : Int) (by omega) (Int.le_refl _) (by rw [e1]; simp; omega) (by rw [e2]; omega) (by omega)
  have hmc : madeCells z.cells ((n : Int).toNat * i.size) = ⟨(List.replicate n (0, 0)).flatMap spC⟩ := by
    rw [e1, hzc]
    apply Array.ext
    · simp [madeCells, flat_len spC 2 spC_len]
    · intro j h1 h2
      have h3 : ∀ x, x ∈ (List.replicate n ((0 : Int), (0 : Int))).flatMap spC → x = .int .i64 0 := fun x hx => by
        obtain ⟨y, hy, hy2⟩ := List.mem_flatMap.1 hx
        obtain rfl := List.eq_of_mem_replicate hy
        simpa [spC] using hy2
      have h4 : (⟨(List.replicate n (0, 0)).flatMap spC⟩ : Array Value)[j] = .int .i64 0 := h3 _ (by exact List.getElem_mem _)
      rw [h4]
      simp [madeCells]
      rcases Nat.mod_two_eq_zero_or_one j with h5 | h5 <;> simp [h5]
  rw [hmc] at hrun
  simp only [Int.toNat_natCast] at hrun
  have : (execOp a.eval { dst := some d, op := .makeSlice t x y, type := ty, pos := p, after := af, guard := none }).run P w = .ok (.value (.slice (some ⟨w.heap.size, 0, none⟩) n n)) (w.alloc (cel e ((List.replicate n (0, 0)).flatMap spC))) := by
    simp [execOp, hf.eval hx, hf.eval hy, hrun]
  rw [this]
  exact hK _ _ ((k w.heap.size hw.size).run _ _ ((hf.put hd).hint d _) (hw.box _))
end
def spanK : Kind (Int × Int) := ⟨65, 2, spC, fun _ => [], spC_len⟩
theorem span_el : elemOk Try.prog 69 spanK.ty spanK.m 16 = true := by kernel_rfl
theorem tspan_el : elemOk Try.prog 185 187 2 16 = true := by kernel_rfl
theorem tspan_zero : (Try.prog.info? 187).bind (·.zero) = some (.agg #[.int .i64 0, .int .i64 0]) := by kernel_rfl
/-- n spans, none wider than so. -/
structure SpsOk (n : Nat) (K : Int) (l : List (Int × Int)) : Prop where
  len : l.length = n
  ok : ∀ j, (h : j < l.length) → l[j].1 ≤ l[j].2 ∧ -K ≤ l[j].1 ∧ l[j].2 ≤ K
/-- the first i of them have been widened by K2. -/
structure SpsTo (n : Nat) (K K2 : Int) (i : Nat) (l : List (Int × Int)) : Prop where
  len : l.length = n
  ok : ∀ j, (h : j < l.length) → l[j].1 ≤ l[j].2 ∧ (j < i → -(K + K2) ≤ l[j].1 ∧ l[j].2 ≤ K + K2) ∧ (i ≤ j → -K ≤ l[j].1 ∧ l[j].2 ≤ K)
theorem SpsTo.start {n : Nat} {K K2 : Int} {l : List (Int × Int)} (h : SpsOk n K l) : SpsTo n K K2 0 l := ⟨h.len, fun j hj => ⟨(h.ok j hj).1, fun h0 => absurd h0 (by omega), fun _ => (h.ok j hj).2⟩⟩
theorem SpsTo.done {n : Nat} {K K2 : Int} {l : List (Int × Int)} (h : SpsTo n K K2 n l) : SpsOk n (K + K2) l := ⟨h.len, fun j hj => ⟨(h.ok j hj).1, (h.ok j hj).2.1 (by have := h.len; omega)⟩⟩
theorem SpsTo.step {n i : Nat} {K K2 : Int} {l : List (Int × Int)} {y : Int × Int} (h : SpsTo n K K2 i l) (hi : i < l.length) (hy : y.1 ≤ y.2 ∧ -K2 ≤ y.1 ∧ y.2 ≤ K2) : SpsTo n K K2 (i + 1) (l.set i (l[i].1 + y.1, l[i].2 + y.2)) := by
  refine ⟨by rw [List.length_set]; exact h.len, fun j hj => ?_⟩
  rw [List.length_set] at hj
  have h1 := h.ok j hj
  rw [List.getElem_set]
  by_cases e : i = j
  · subst e
    rw [if_pos rfl]
    have h2 := h1.2.2 (Nat.le_refl _)
    refine ⟨?_, fun _ => ?_, fun h0 => absurd h0 (by omega)⟩ <;> simp only <;> omega
  · rw [if_neg e]
    exact ⟨h1.1, fun h0 => h1.2.1 (by omega), fun h0 => h1.2.2 (by omega)⟩
/-- what levels leaves. -/
def LevV (n : Nat) (v : Value) (new : List Held) : Prop := ∃ (r : SV) (l : List (Int × Int)), v = svV r ∧ new = [hList spanK r l] ∧ SpsOk n 1000000000 l
set_option maxHeartbeats 16000000 in
theorem levels_made {r : SV} {m t : Int} {cs : List ConI} {n : Nat} {w : World} (hr : TabAt w (Lt w.heap.size) r cs) (ho : TabOk m cs) (hn : n ≤ 400) (ht : 0 < n → 0 ≤ t ∧ t ≤ 200000) :
    Calls Try.prog 68 #[.agg ⟨tabC r m⟩, .int .i64 t, .int .i64 (n : Nat)] w (Made w (LevV n)) := by
  obtain ⟨A, rn, c⟩ := r
  have hrn := hr.ls.len (by decide)
  simp only at hrn
  subst hrn
  have hmean := ho.mean
  have h12 := ho.len
  simp only [tabC]
  refine enter Try.func68 rfl Try.ntmps68 rfl ?_; simp only [frame, Nat.zero_add, Nat.reduceAdd]
  repeat (first | (refine M0 ?_; first | refine SL ?_ | refine SB fun _ _ => ?_) | (refine M1 ?_; refine SC ?_) | (refine M2 ?_; refine SE ?_))
  rename_i g3 hg3
  refine XL.makeSp tspan_el tspan_zero rfl rfl rfl rfl (by omega) (fun gm hgm => ?_)
  repeat (first | (refine M0 ?_; first | refine SL ?_ | refine SB fun _ _ => ?_) | (refine M1 ?_; refine SC ?_) | (refine M2 ?_; refine SE ?_))
  refine XC.loopk [1, 3, 7, 19] rfl (fun s : Nat × List (Int × Int) => [(20, .int .i64 (s.1 : Nat))]) (fun s => [(gm, cel 187 (s.2.flatMap spC)), (g3, cel 85 [.int .i64 m, .slice A cs.length c])]) (fun _ => w) (fun s => s.1 ≤ n ∧ SpsTo n 0 20000 s.1 s.2) (fun s => n - s.1) (0, List.replicate n (0, 0)) ⟨Nat.zero_le _, SpsTo.start ⟨by simp, fun j hj => by simp⟩⟩ ZZSUB (fun _ h => h) ?_
  rintro ⟨i, l⟩ ⟨hi, hl⟩
  simp only at hi hl
  dsimp only [List.cons_append, List.nil_append]
  repeat (first | (refine M0 ?_; first | refine SL ?_ | refine SB fun _ _ => ?_) | (refine M1 ?_; refine SC ?_) | (refine M2 ?_; refine SE ?_))
  refine XC.cond _ rfl (fun h1 => ?_) (fun h1 => ?_)
  · have hin : i < n := by simpa using h1
    have hll := hl.len
    have hx := hl.ok i (by omega)
    have hx2 := hx.2.2 (Nat.le_refl _)
    have hli : l[i]? = some l[i] := List.getElem?_eq_getElem (by omega)
    repeat (first | (refine M0 ?_; first | refine SL ?_ | refine SB fun _ _ => ?_) | (refine M1 ?_; refine SC ?_) | (refine M2 ?_; refine SE ?_))
    refine XC.drawT mixed rfl rfl (by kernel_rfl) ?_
    repeat (first | (refine M0 ?_; first | refine SL ?_ | refine SB fun _ _ => ?_) | (refine M2 ?_; refine SE ?_) | (refine M3 ?_; first | refine SG ?_ | refine SF ?_) | (refine M4 ?_; refine SR ?_) | (refine M5 ?_; first | exact M7 | refine YM ?_ | refine YN ?_ ?_))
    refine XL.callT (B' := gm) 0 (fst := []) (cap := []) (vs := [.pointer (some ((⟨gm, 0, none⟩ : Addr).add ((i : Int).toNat * 2))), .agg ⟨[.int .i64 m, .int .i64 m]⟩]) (ck rfl) rfl rfl rfl rfl rfl (fun w5 S5 => by
      have h9 := add_any (g := gm) (k := i) (l := l) (sp := []) (x := l[i]) (y := (m, m)) (w := w5) (by rw [List.append_nil]; exact S5.obj (i := 0) rfl) hli (by unfold i64in; simp only; omega) (by unfold i64in; simp only; omega)
      simp only [List.append_nil] at h9
      exact h9) ?_
    repeat (first | (refine M0 ?_; first | refine SL ?_ | refine SB fun _ _ => ?_) | (refine M1 ?_; refine SC ?_) | (refine M2 ?_; refine SE ?_))
    refine XE.round (s := (i, l)) (i + 1, l.set i (l[i].1 + m, l[i].2 + m)) ⟨hin, hl.step (y := (m, m)) (by omega) ⟨Int.le_refl _, by simp only; omega, by simp only; omega⟩⟩ (by simp only; omega) ZZSUB (fun _ h => h)
  have hin : i = n := by have : ¬ (i < n) := by simpa using h1
                         omega
  subst hin
  have hl2 : SpsOk i 20000 l := by have := hl.done; simpa using this
  have i22 := hr
  refine XC.rebase (List.Sublist.refl _) (fun W0 S0 => ?_)
  repeat (first | (refine M0 ?_; first | refine SL ?_ | refine SB fun _ _ => ?_) | (refine M1 ?_; refine SC ?_) | (refine M2 ?_; refine SE ?_))
  refine XC.loopk [1, 3, 7, 34, 35] rfl (fun s : Nat × World × List (Int × Int) => [(36, .int .i64 (s.1 : Nat))]) (fun s => [(gm, cel 187 (s.2.2.flatMap spC)), (g3, cel 85 [.int .i64 m, .slice A cs.length c])]) (fun s => s.2.1)
    (fun s => s.1 ≤ cs.length ∧ SpsOk i (20000 + 50000000 * s.1) s.2.2 ∧ Below w.heap.size w s.2.1 ∧ gm < s.2.1.heap.size ∧ g3 < s.2.1.heap.size)
    (fun s => cs.length - s.1) (0, W0, l) ⟨Nat.zero_le _, by simpa using hl2, S0.toBelow, S0.keyLt gm (by simp), S0.keyLt g3 (by simp)⟩ ZZSUB (fun _ h => h) ?_
  rintro ⟨k, W, l⟩ ⟨hk, hl, hBW, hgm1, hg31⟩
  simp only at hk hl hBW hgm1 hg31
  clear hl2
  dsimp only [List.cons_append, List.nil_append]
  repeat (first | (refine M0 ?_; first | refine SL ?_ | refine SB fun _ _ => ?_) | (refine M1 ?_; refine SC ?_) | (refine M2 ?_; refine SE ?_))
  refine XC.cond _ rfl (fun h1 => ?_) (fun h1 => ?_)
  · have hkn : k < cs.length := by simpa using h1
    have hrW := hr.ls.below hBW
    obtain ⟨ad, rfl, hlt⟩ := hr.ls.addr (by decide) (by omega)
    have hcell : ∀ j u, cs[k].v[j]? = some u → W.cell? ((ad.add (k * 6)).add j) = some u := hrW.elem (List.getElem?_eq_getElem hkn)
    have hq : IntsAt W (Lt w.heap.size) cs[k].q cs[k].c.hs := hrW.ins _ (List.getElem_mem hkn) (hInts _ _) (.head _)
    have hqw : IntsAt w (Lt w.heap.size) cs[k].q cs[k].c.hs := hr.ls.ins _ (List.getElem_mem hkn) (hInts _ _) (.head _)
    have hco := ho.con _ (List.getElem_mem hkn)
    obtain ⟨a, haa⟩ : ∃ a, a = cs[k] := ⟨_, rfl⟩
    rw [← haa] at hcell hq hqw hco
    obtain ⟨cn, ⟨Aq, nq, cq⟩⟩ := a
    have hcell' : ∀ j u, (conC ⟨Aq, nq, cq⟩ cn)[j]? = some u → W.cell? ((ad.add (k * 6)).add j) = some u := hcell
    simp only at hq hqw hco
    have hnq := hq.len
    simp only at hnq
    repeat (first | (refine M0 ?_; first | refine SL ?_ | refine SB fun _ _ => ?_ | refine Y4 (Ev.load_old_agg tok (conC ⟨Aq, nq, cq⟩ cn) rfl rfl rfl (add_lt hlt) hcell') ?_) | (refine M1 ?_; refine SC ?_) | (refine M2 ?_; refine SE ?_))
    rename_i g10 hg10
    have hks : ∀ k, k ∈ [gm, g3] → k < W.heap.size := fun k hk => by
      rcases List.mem_cons.1 hk with rfl | hk
      · exact hgm1
      · rw [List.mem_singleton.1 hk]; exact hg31
    refine XL.callF (PartsV ⟨Aq, nq, cq⟩ cn (cn.start t)) (vs := [.agg ⟨conC ⟨Aq, nq, cq⟩ cn⟩, .int .i64 t]) (ck rfl) rfl rfl (Fam.start (ks := [gm, g3]) (Nat.le_refl W.heap.size)) hks hBW (fun w1 S1 _ _ => parts_made (q := ⟨Aq, nq, cq⟩) hnq hco) (fun W2 v new hR hF2 hB2 hk2 => ?_)
    obtain ⟨gp, gc, rfl, rfl⟩ := hR
    have hpt : PtAt W2 (Free W2 W.heap.size _ []) gp gc ⟨Aq, nq, cq⟩ cn (cn.start t) := hF2.held _ (.head _)
    have hWs := hBW.size
    repeat (first | (refine M0 ?_; first | refine SL ?_ | refine SB fun _ _ => ?_) | (refine M1 ?_; refine SC ?_) | (refine M2 ?_; refine SE ?_))
    refine XC.grab hpt.hp (Nat.le_trans hWs hpt.kp.1) (fun e he e1 => hpt.kp.2.2.1 (e1 ▸ List.mem_append_left _ (List.mem_map_of_mem he))) (fun w3 S3 => ?_)
    have hgcn := fun (e : Nat × Obj) (he : e ∈ _) (e1 : e.1 = gc) => hpt.kc.2.2.1 (e1 ▸ List.mem_append_left _ (List.mem_map_of_mem he))
    have hgc3 : w3.heap[gc]? = some (cel 181 (conC ⟨Aq, nq, cq⟩ cn)) := (S3.old gc (Array.getElem?_eq_some_iff.1 hpt.hc).1 hgcn).trans hpt.hc
    have hB3 : Below w.heap.size w w3 := hB2.trans S3.toBelow
    have hgl3 := (Array.getElem?_eq_some_iff.1 hgc3).1
    have hq3 : IntsAt w3 (Lt w.heap.size) ⟨Aq, nq, cq⟩ cn.hs := (hqw.below hB2).below S3.toBelow
    have hgpl : w.heap.size ≤ gp := Nat.le_trans hWs hpt.kp.1
    have hlt3 := hpt.lt
    have hst : 0 < i → _ := fun h => start_ok hco (ht h)
    repeat (first | (refine M0 ?_; first | refine SL ?_ | refine SB fun _ _ => ?_) | (refine M1 ?_; refine SC ?_) | (refine M2 ?_; refine SE ?_))
    refine XC.loopk [1, 3, 7, 11, 34, 35, 36, 44] rfl (fun s : Nat × Int × List (Int × Int) => [(45, .int .i64 (s.1 : Nat))]) (fun s => [(gp, cel 3 [.int .i64 s.2.1]), (g10, _), (gm, cel 187 (s.2.2.flatMap spC)), (g3, cel 85 [.int .i64 m, .slice (some ad) cs.length c])]) (fun _ => w3)
      (fun s => s.1 ≤ i ∧ (0 < i → 0 ≤ s.2.1 ∧ s.2.1 < cn.cyc) ∧ SpsTo i (20000 + 50000000 * k) 50000000 s.1 s.2.2) (fun s => i - s.1) (0, cn.start t, l) ⟨Nat.zero_le _, hst, SpsTo.start hl⟩ ZZSUB (fun _ h => h) ?_
    rintro ⟨j, pp, l⟩ ⟨hj, hpp, hl⟩
    simp only at hj hl hpp
    dsimp only [List.cons_append, List.nil_append]
    repeat (first | (refine M0 ?_; first | refine SL ?_ | refine SB fun _ _ => ?_) | (refine M1 ?_; refine SC ?_) | (refine M2 ?_; refine SE ?_))
    refine XC.cond _ rfl (fun h1 => ?_) (fun h1 => ?_)
    · have hji : j < i := by simpa using h1
      have hpp := hpp (by omega)
      have hll := hl.len
      have hx := hl.ok j (by omega)
      have hx2 := hx.2.2 (Nat.le_refl _)
      have hlj : l[j]? = some l[j] := List.getElem?_eq_getElem (by omega)
      have hsp := span_ok hco hpp
      have hnx := next_ok hco hpp
      repeat (first | (refine M0 ?_; first | refine SL ?_ | refine SB fun _ _ => ?_) | (refine M1 ?_; refine SC ?_) | (refine M2 ?_; refine SE ?_))
      refine XC.drawRS _ [] [0, 1, 2, 3] [4, 5] mixed (fun _ h => Sys.anchor2 (by assumption) h ZZSM) rfl (by kernel_rfl) ?_
      repeat (first | (refine M0 ?_; first | refine SL ?_ | refine SB fun _ _ => ?_) | (refine M1 ?_; refine SC ?_) | (refine M2 ?_; refine SE ?_) | (refine M3 ?_; first | refine SG ?_ | refine SF ?_) | (refine M4 ?_; refine SR ?_) | (refine M5 ?_; first | exact M7 | refine YM ?_ | refine YN ?_ ?_))
      · refine XL.callT (B' := gp) 0 (fst := []) (cap := [.pointer (some ⟨gp, 0, none⟩), .pointer (some ⟨gc, 0, none⟩)]) (vs := []) (v := .agg ⟨spC (cn.span pp)⟩) (ck rfl) rfl rfl rfl rfl rfl (fun w5 S5 => by
          have h9 := parts1_any (w := w5) (gp := gp) (gc := gc) (q := ⟨Aq, nq, cq⟩) (c := cn) (pp := pp) ⟨S5.lt (e := (gp, _)) (.head _), Nat.lt_of_lt_of_le hgl3 S5.size, hlt3, S5.obj (i := 0) rfl, (S5.old gc hgl3 (fun e he e1 => by
            rcases List.mem_cons.1 he with rfl | he
            · simp only at e1; omega
            · rcases List.mem_cons.1 he with rfl | he
              · exact hgcn (g10, _) (.head _) e1
              · rcases List.mem_cons.1 he with rfl | he
                · exact hgcn (gm, _) (.tail _ (.head _)) e1
                · rcases List.mem_cons.1 he with rfl | he
                  · exact hgcn (g3, _) (.tail _ (.tail _ (.head _))) e1
                  · cases he)).trans hgc3⟩ ((hq3.below (S5.toBelow)).mono fun j hj => Nat.lt_of_lt_of_le hj hgpl) hco hpp
          exact h9) ?_
        repeat (first | (refine M0 ?_; first | refine SL ?_ | refine SB fun _ _ => ?_) | (refine M1 ?_; refine SC ?_) | (refine M2 ?_; refine SE ?_) | (refine M3 ?_; first | refine SG ?_ | refine SF ?_) | (refine M4 ?_; refine SR ?_) | (refine M5 ?_; first | exact M7 | refine YM ?_ | refine YN ?_ ?_))
        refine XL.callT (B' := gm) 2 (fst := []) (cap := []) (vs := [.pointer (some ((⟨gm, 0, none⟩ : Addr).add ((j : Int).toNat * 2))), .agg ⟨spC (cn.span pp)⟩]) (ck rfl) rfl rfl rfl rfl rfl (fun w5 S5 => by
          have h9 := add_any (g := gm) (k := j) (l := l) (sp := []) (x := l[j]) (y := cn.span pp) (w := w5) (by rw [List.append_nil]; exact S5.obj (i := 2) rfl) hlj (by unfold i64in; omega) (by unfold i64in; omega)
          simp only [List.append_nil] at h9
          exact h9) ?_
        repeat (first | (refine M0 ?_; first | refine SL ?_ | refine SB fun _ _ => ?_) | (refine M1 ?_; refine SC ?_) | (refine M2 ?_; refine SE ?_) | (refine M3 ?_; first | refine SG ?_ | refine SF ?_) | (refine M4 ?_; refine SR ?_) | (refine M5 ?_; first | exact M7 | refine YM ?_ | refine YN ?_ ?_))
        refine XE.round (s := (j, pp, l)) (j + 1, cn.next pp, l.set j (l[j].1 + (cn.span pp).1, l[j].2 + (cn.span pp).2)) ⟨hji, fun _ => hnx, hl.step (y := cn.span pp) (by omega) hsp⟩ (by simp only; omega) ZZSUB (fun _ h => h)
        any_goals (repeat (first | exact AnyR.nil | refine AnyR.skip rfl ?_))
      any_goals (repeat (first | exact AnyR.nil | refine AnyR.skip rfl ?_))
    have hin : j = i := by have : ¬ (j < i) := by simpa using h1
                           omega
    subst hin
    have hl2 : SpsOk j (20000 + 50000000 * ((k + 1 : Nat) : Int)) l := by
      have := hl.done
      rw [show (20000 + 50000000 * ((k + 1 : Nat) : Int)) = 20000 + 50000000 * (k : Int) + 50000000 by omega]
      exact this
    repeat (first | (refine M0 ?_; first | refine SL ?_ | refine SB fun _ _ => ?_) | (refine M1 ?_; refine SC ?_) | (refine M2 ?_; refine SE ?_) | (refine M3 ?_; first | refine SG ?_ | refine SF ?_) | (refine M4 ?_; refine SR ?_) | (refine M5 ?_; first | exact M7 | refine YM ?_ | refine YN ?_ ?_))
    refine XE.roundW (s := (k, W, l)) (fun w6 S6 => ⟨(k + 1, w6, l), ⟨hkn, hl2, (hB2.trans S3.toBelow).trans S6.toBelow, S6.keyLt gm (by simp), S6.keyLt g3 (by simp)⟩, by simp only; omega, ZZSUB, S6.rebase ZZSL⟩)
  have hkn : k = cs.length := by have : ¬ (k < cs.length) := by simpa using h1
                                 omega
  subst hkn
  have hl9 : SpsOk i 1000000000 l := ⟨hl.len, fun j hj => by have := hl.ok j hj; omega⟩
  have hll := hl.len
  have hks : ∀ k, k ∈ [gm, g3] → k < W.heap.size := fun k hk => by
    rcases List.mem_cons.1 hk with rfl | hk
    · exact hgm1
    · rw [List.mem_singleton.1 hk]; exact hg31
  repeat (first | (refine M0 ?_; first | refine SL ?_ | refine SB fun _ _ => ?_) | (refine M1 ?_; refine SC ?_) | (refine M2 ?_; refine SE ?_) | (refine M3 ?_; first | refine SG ?_ | refine SF ?_) | (refine M4 ?_; refine SR ?_) | (refine M5 ?_; first | exact M7 | refine YM ?_ | refine YN ?_ ?_))
  refine XC.loopk [7, 56, 57] rfl (fun s : Nat × World × Value => [(58, .int .i64 (s.1 : Nat)), (13, s.2.2)]) (fun s => [(gm, cel 187 (l.flatMap spC)), (g3, _)]) (fun s => s.2.1)
    (fun s => s.1 ≤ i ∧ Fam s.2.1 w.heap.size [gm, g3] [⟨Int × Int, spanK, s.2.2, l.take s.1⟩] [] ∧ Below w.heap.size w s.2.1 ∧ gm < s.2.1.heap.size ∧ g3 < s.2.1.heap.size)
    (fun s => i - s.1) (0, W, .slice none 0 0) ⟨Nat.zero_le _, (Fam.start (ks := [gm, g3]) hBW.size).nil spanK, hBW, hgm1, hg31⟩ ZZSUB (fun _ h => h) ?_
  rintro ⟨j, W, v⟩ ⟨hj, hF, hBW, hgm1, hg31⟩
  simp only at hj hF hBW hgm1 hg31
  dsimp only [List.cons_append, List.nil_append]
  repeat (first | (refine M0 ?_; first | refine SL ?_ | refine SB fun _ _ => ?_) | (refine M1 ?_; refine SC ?_) | (refine M2 ?_; refine SE ?_) | (refine M3 ?_; first | refine SG ?_ | refine SF ?_) | (refine M4 ?_; refine SR ?_) | (refine M5 ?_; first | exact M7 | refine YM ?_ | refine YN ?_ ?_))
  refine XC.cond _ rfl (fun h1 => ?_) (fun h1 => ?_)
  · have hji : j < i := by simpa using h1
    have hlj : l[j]? = some l[j] := List.getElem?_eq_getElem (by omega)
    have hks : ∀ k, k ∈ [gm, g3] → k < W.heap.size := fun k hk => by
      rcases List.mem_cons.1 hk with rfl | hk
      · exact hgm1
      · rw [List.mem_singleton.1 hk]; exact hg31
    have hl1 : (l.take j).length + 1 ≤ 10000000 := by rw [List.length_take]; omega
    have ha1 : ∀ x, x ∈ spanK.sl l[j] → x ∈ ([] : List Held) := fun x hx => hx
    have hcs : ∀ k u, (spC l[j])[k]? = some u → (l.flatMap spC)[0 + (j : Int).toNat * 2 + k]? = some u := fun k u hu => by
      have hk2 : k < 2 := by have := (List.getElem?_eq_some_iff.1 hu).1; rwa [spC_len] at this
      have := fget spC_len [] hlj hk2
      rw [List.append_nil] at this
      rw [Nat.zero_add, Int.toNat_natCast, this, hu]
    repeat (first | (refine M0 ?_; first | refine SL ?_ | refine SB fun _ _ => ?_ | refine Y4 (Ev.load_at_agg tok 0 (vs := spC l[j]) rfl rfl rfl rfl hcs) ?_ | refine XL.buildSlice tok rfl rfl rfl rfl rfl rfl rfl rfl rfl (fun _ _ => ?_) | (refine XL.at_push 69 ?_; refine XL.push (K := spanK) (a := l[j]) (wE := w) 0 span_el (by decide) rfl rfl rfl (by assumption) rfl (by assumption) (by assumption) (Nat.le_refl _) rfl hl1 (by decide) ha1 (fun _ _ _ _ _ => ?_))) | (refine M1 ?_; refine SC ?_) | (refine M2 ?_; refine SE ?_) | (refine M3 ?_; first | refine SG ?_ | refine SF ?_ | refine YF (Ev.load_at_agg tok 0 (vs := spC l[j]) rfl rfl rfl rfl hcs) ?_) | (refine M4 ?_; refine SR ?_) | (refine M5 ?_; first | exact M7 | refine YM ?_ | refine YN ?_ ?_))
    refine XE.roundW (s := (j, W, v)) (fun w6 S6 => ⟨(j + 1, w6, _), ⟨hji, ?_, ?_, S6.keyLt gm (by simp), S6.keyLt g3 (by simp)⟩, by simp only; omega, ZZSUB, S6.rebase ZZSL⟩)
    · rw [List.take_add_one, hlj]
      exact Fam.add (Fam.sys (by assumption) S6 ZZHL) ZZHK
    · exact Below.trans (by assumption) S6.toBelow
  · have hin : j = i := by have : ¬ (j < i) := by simpa using h1
                           omega
    subst hin
    repeat (first | (refine M0 ?_; first | refine SL ?_ | refine SB fun _ _ => ?_) | (refine M1 ?_; refine SC ?_) | (refine M2 ?_; refine SE ?_) | (refine M3 ?_; first | refine SG ?_ | refine SF ?_) | (refine M4 ?_; refine SR ?_) | (refine M5 ?_; first | exact M7 | refine YM ?_ | refine YN ?_ ?_))
    refine XE.retg tok Try.results68 rfl (by simp only [and_self, and_true]) (fun w' S => ?_)
    have hF6 := hF.sys S ZZHL
    obtain ⟨r1, rfl, h5⟩ := hF6.list (.head _)
    rw [← hll, List.take_length] at h5
    exact ⟨_, _, rfl, ⟨r1, l, rfl, rfl, hl9⟩, fun x hx => by
      rw [List.mem_singleton.1 hx]
      exact h5, hBW.trans S.toBelow⟩
end Go.Proofs.Ytmckmlmfilmiaaa.X
/-
  The walk of Levels (tide).
-/
namespace Go.Proofs.Ytmckmlmfilmiaaa.X
open Go Go.RowKit Go.Proofs.Ytmckmlmfilmiaaa.Bs
set_option linter.unusedVariables false
/-- what Levels leaves. -/
def LvlV (n : Int) (v : Value) (new : List Held) : Prop := ∃ (r : SV) (l : List (Int × Int)) (e : Int), v = .tuple ⟨[svV r, .int .i64 e]⟩ ∧ new = [hList spanK r l] ∧ (e = 0 → n ≤ 400 ∧ SpsOk n.toNat 1000000000 l)
theorem someE_0 {a : Int} {n : Nat} (h : someE a n = 0) : n ≤ 400 ∧ (0 < n → 0 ≤ a ∧ a ≤ 200000) := by
  unfold someE at h
  by_cases h1 : outB n 0 400 = true
  · rw [if_pos h1] at h; omega
  rw [if_neg h1] at h
  have h1' := outB_f.1 (by simpa using h1)
  by_cases h2 : (n : Int) = 0
  · omega
  rw [if_neg h2] at h
  by_cases h3 : outB a 0 200000 = true
  · rw [if_pos h3] at h; omega
  have h3' := outB_f.1 (by simpa using h3)
  exact ⟨by omega, fun _ => h3'⟩
theorem TabAt.up {w w' : World} {r : SV} {cs : List ConI} (h : TabAt w (Lt w.heap.size) r cs) (hb : Below w.heap.size w w') : TabAt w' (Lt w'.heap.size) r cs := ⟨(h.ls.below hb).mono fun _ hj => Nat.lt_of_lt_of_le hj hb.size, h.nm⟩
end Go.Proofs.Ytmckmlmfilmiaaa.X
/-
  The plain words of layer 7 (runoff): devices, tasks, what Check says, what a choice does.
-/
namespace Go.Proofs.Ytmckmlmfilmiaaa.Bs
open Go Go.Proofs.Ytmckmlmfilmiaaa.X
set_option linter.unusedVariables false
structure Slu where
  name : ByteArray
  width : Int
  move : Int
structure Pmp where
  name : ByteArray
  rate : Int
  base : Int
  lift : Int
  start : Int
inductive Dev where
  | slu (x : Slu)
  | pmp (x : Pmp)
structure RTk where
  b : Bas
  s : Sta
  outer : List Int
  river : List Int
  prices : List Int
  low : Int
  high : Int
  slu : List Slu
  pmp : List Pmp
  on : List Bool
def Dev.name : Dev → ByteArray
  | .slu x => x.name
  | .pmp x => x.name
def sluWild (x : Slu) : Bool := outB x.width 0 10000 || outB x.move 0 100000
def pmpWild (x : Pmp) : Bool := outB x.rate 0 10000000 || (outB x.base 0 100000 || (outB x.lift 0 100000 || outB x.start 0 100000))
def Dev.wild : Dev → Bool
  | .slu x => sluWild x
  | .pmp x => pmpWild x
def RTk.devs (t : RTk) : List Dev := t.slu.map .slu ++ t.pmp.map .pmp
def d0 : Dev := .slu ⟨ByteArray.empty, 0, 0⟩
def RTk.dev (t : RTk) (i : Nat) : Dev := t.devs[i]?.getD d0
def RTk.many (t : RTk) : Nat := t.slu.length + t.pmp.length
theorem RTk.devs_len (t : RTk) : t.devs.length = t.many := by simp [RTk.devs, RTk.many]
def tickErr (t : RTk) (i : Nat) : Int := if outB (at0 t.outer i) (-20000) 20000 || (outB (at0 t.river i) 0 10000000 || outB (at0 t.prices i) 0 10000) then 7 else 0
def devErr (l : List Dev) (i : Nat) : Int :=
  if nameB (l[i]?.getD d0).name = false then 6 else if ∃ k, k < i ∧ (l[k]?.getD d0).name = (l[i]?.getD d0).name then 5 else if (l[i]?.getD d0).wild = true then 7 else 0
open Classical in
noncomputable def chkT (t : RTk) : Int × Int × Int :=
  if chkE t.b ≠ 0 then (1, 0, chkE t.b) else
  if staErr t.b t.s ≠ 0 then (1, 1, staErr t.b t.s) else
  if 6 < t.outer.length then (2, 0, 3) else
  if t.river.length ≠ t.outer.length ∨ t.prices.length ≠ t.outer.length then (2, 0, 2) else
  match firstN (tickErr t) t.outer.length with
  | some i => (2, i, 7)
  | none =>
    if outB t.high (-20000) 20000 || outB t.low (t.b.row 0).level t.high then (3, 0, 7) else
    if 2 < t.slu.length ∨ 2 < t.pmp.length then (4, 0, 3) else
    match firstN (devErr t.devs) t.devs.length with
    | some i => (4, i, devErr t.devs i)
    | none => if t.on.length ≠ t.devs.length then (5, 0, 2) else (0, 0, 0)
noncomputable def rtE (t : RTk) : Int := (chkT t).2.2
/-- a device's numbers are fine. -/
def DevOk : Dev → Prop
  | .slu x => (0 ≤ x.width ∧ x.width ≤ 10000) ∧ (0 ≤ x.move ∧ x.move ≤ 100000)
  | .pmp x => (0 ≤ x.rate ∧ x.rate ≤ 10000000) ∧ (0 ≤ x.base ∧ x.base ≤ 100000) ∧ (0 ≤ x.lift ∧ x.lift ≤ 100000) ∧ (0 ≤ x.start ∧ x.start ≤ 100000)
structure RtOk (t : RTk) : Prop where
  ok : Ok t.b
  sta : StaOk t.b t.s
  n6 : t.outer.length ≤ 6
  river : t.river.length = t.outer.length
  prices : t.prices.length = t.outer.length
  out_ : ∀ i, i < t.outer.length → -20000 ≤ at0 t.outer i ∧ at0 t.outer i ≤ 20000
  riv_ : ∀ i, i < t.outer.length → 0 ≤ at0 t.river i ∧ at0 t.river i ≤ 10000000
  pri_ : ∀ i, i < t.outer.length → 0 ≤ at0 t.prices i ∧ at0 t.prices i ≤ 10000
  high : t.high ≤ 20000
  low : (t.b.row 0).level ≤ t.low ∧ t.low ≤ t.high
  s2 : t.slu.length ≤ 2
  p2 : t.pmp.length ≤ 2
  dev : ∀ d, d ∈ t.devs → DevOk d
  on : t.on.length = t.devs.length
theorem firstN_val {f : Nat → Int} {n i : Nat} (h : firstN f n = some i) : i < n ∧ f i ≠ 0 ∧ ∀ j, j < i → f j = 0 := by
  induction n with
  | zero => cases h
  | succ n ih =>
    simp only [firstN] at h
    cases hx : firstN f n with
    | some j =>
      rw [hx] at h
      cases h
      obtain ⟨a, b, c⟩ := ih hx
      exact ⟨by omega, b, c⟩
    | none =>
      rw [hx] at h
      simp only at h
      by_cases hf : f n = 0
      · rw [if_pos hf] at h; cases h
      · rw [if_neg hf] at h
        cases h
        exact ⟨by omega, hf, firstN_none_iff hx⟩
theorem dev_ok {d : Dev} (h : d.wild = false) : DevOk d := by
  cases d with
  | slu x =>
    simp only [Dev.wild, sluWild, Bool.or_eq_false_iff] at h
    exact ⟨outB_f.1 h.1, outB_f.1 h.2⟩
  | pmp x =>
    simp only [Dev.wild, pmpWild, Bool.or_eq_false_iff] at h
    exact ⟨outB_f.1 h.1, outB_f.1 h.2.1, outB_f.1 h.2.2.1, outB_f.1 h.2.2.2⟩
theorem rtOk_of {t : RTk} (h : rtE t = 0) : RtOk t := by
  unfold rtE chkT at h
  split at h
  · rename_i h1; exact absurd h h1
  rename_i h1
  split at h
  · rename_i h2; exact absurd h h2
  rename_i h2
  have hs0 : staErr t.b t.s = 0 := by simpa using h2
  obtain ⟨ho, hs⟩ := staOk_of hs0
  split at h
  · cases h
  rename_i h3
  split at h
  · cases h
  rename_i h4
  split at h
  · cases h
  rename_i h5
  split at h
  · cases h
  rename_i h6
  split at h
  · cases h
  rename_i h7
  split at h
  · rename_i i hi
    obtain ⟨_, b1, _⟩ := firstN_val hi
    exact absurd h b1
  rename_i h8
  split at h
  · cases h
  rename_i h9
  have h5' := firstN_none_iff h5
  have ht : ∀ i, i < t.outer.length → (-20000 ≤ at0 t.outer i ∧ at0 t.outer i ≤ 20000) ∧ (0 ≤ at0 t.river i ∧ at0 t.river i ≤ 10000000) ∧ (0 ≤ at0 t.prices i ∧ at0 t.prices i ≤ 10000) := fun i hi => by
    have := h5' i hi
    unfold tickErr at this
    split at this
    · cases this
    · rename_i h10
      simp only [Bool.or_eq_true, not_or, Bool.not_eq_true] at h10
      exact ⟨outB_f.1 h10.1, outB_f.1 h10.2.1, outB_f.1 h10.2.2⟩
  simp only [Bool.or_eq_true, not_or, Bool.not_eq_true] at h6
  have hl := outB_f.1 h6.2
  have hh := outB_f.1 h6.1
  have h8' := firstN_none_iff h8
  refine ⟨ho, hs, by omega, by omega, by omega, fun i hi => (ht i hi).1, fun i hi => (ht i hi).2.1, fun i hi => (ht i hi).2.2, hh.2, hl, by omega, by omega, fun d hd => ?_, by simpa using h9⟩
  obtain ⟨i, hi, rfl⟩ := List.mem_iff_getElem.1 hd
  have h10 := h8' i hi
  unfold devErr at h10
  rw [List.getElem?_eq_getElem hi] at h10
  simp only [Option.getD_some] at h10
  split at h10
  · cases h10
  · split at h10
    · cases h10
    · split at h10
      · cases h10
      · rename_i h11
        exact dev_ok (by simpa using h11)
/-! ### what a choice does -/
/-- n / d: the level inside; o: the level outside. -/
def Dev.flow (n d o : Int) : Dev → Option Int
  | .slu x => if n - o * d ≤ 0 then none else some ((x.width * (n - o * d)).tdiv d)
  | .pmp x => some x.rate
def Dev.energy (n d o : Int) (before on : Bool) : Dev → Int
  | .slu x => if before = on then 0 else x.move
  | .pmp x => if on = true then x.base + (x.lift * max 0 (-(n - o * d)) + d - 1).tdiv d + (if before = true then 0 else x.start) else 0
def bl (l : List Bool) (i : Nat) : Bool := l[i]?.getD false
/-- the first k devices: what runs off, and the energy; none: a sluice is on that must not be. -/
def useTo (n d o : Int) (ds : List Dev) (before on : List Bool) : Nat → Option (Int × Int)
  | 0 => some (0, 0)
  | k + 1 => match useTo n d o ds before on k with
    | none => none
    | some (f, e) => if bl on k = true then
        match (ds[k]?.getD d0).flow n d o with
        | none => none
        | some x => some (f + x, e + (ds[k]?.getD d0).energy n d o (bl before k) true)
      else some (f, e + (ds[k]?.getD d0).energy n d o (bl before k) false)
def RTk.use (t : RTk) (v : Int) (tick : Nat) (before on : List Bool) : Option (Int × Int) :=
  match useTo (num t.b v) (den t.b v) (at0 t.outer tick) t.devs before on t.devs.length with
  | none => none
  | some (f, e) => some (min f 10000000, e)
/-- what happens in a tick: the state after it, what was to run off, the energy, the cost. -/
structure Done where
  s : Sta
  out : Int
  energy : Int
  cost : Int
def Done.zero : Done := ⟨⟨0, []⟩, 0, 0, 0⟩
/-- the tick that a choice makes. -/
def RTk.tickOf (t : RTk) (i : Nat) (f : Int) : Tick := ⟨at0 t.outer i, at0 t.river i, f⟩
/-- the fault of a choice; what happens. -/
def RTk.doE (t : RTk) (s : Sta) (i : Nat) (before on : List Bool) : Int :=
  match t.use s.vol i before on with
  | none => 170
  | some (f, _) =>
    if stepE t.b s (t.tickOf i f) ≠ 0 then 173
    else if num t.b (outS t.b s (t.tickOf i f)).vol < t.low * den t.b (outS t.b s (t.tickOf i f)).vol then 171
    else if t.high * den t.b (outS t.b s (t.tickOf i f)).vol < num t.b (outS t.b s (t.tickOf i f)).vol then 172 else 0
def RTk.doD (t : RTk) (s : Sta) (i : Nat) (before on : List Bool) : Done :=
  if t.doE s i before on = 0 then
    match t.use s.vol i before on with
    | none => Done.zero
    | some (f, e) => ⟨outS t.b s (t.tickOf i f), f, e, e * at0 t.prices i⟩
  else Done.zero
/-! ### choices, plans -/
/-- choice number i of m devices. -/
def chc (m i : Nat) : List Bool := (List.range m).map fun j => i.testBit (m - 1 - j)
abbrev Plan := List (List Bool)
/-- a plan that was found, and its cost. -/
abbrev Fd := Option (Int × Plan)
/-- of two the cheaper one; of two alike the first. -/
def better : Fd → Fd → Fd
  | none, y => y
  | some x, none => some x
  | some x, some y => if y.1 < x.1 then some y else some x
def pick (g : Nat → Fd) : Nat → Fd
  | 0 => none
  | n + 1 => better (pick g n) (g n)
def RTk.m (t : RTk) : Nat := t.devs.length
def RTk.n (t : RTk) : Nat := t.outer.length
/-- a choice and the best rest. -/
def RTk.one (t : RTk) (more : Sta → List Bool → Fd) (s : Sta) (i : Nat) (before on : List Bool) : Fd :=
  if t.doE s i before on = 0 then
    match more (t.doD s i before on).s on with
    | none => none
    | some (c, p) => some ((t.doD s i before on).cost + c, on :: p)
  else none
/-- the first one of the cheapest rests of a plan: k ticks are left. -/
def RTk.rest (t : RTk) : Nat → Sta → List Bool → Fd
  | 0, _, _ => some (0, [])
  | k + 1, s, before => pick (fun i => t.one (t.rest k) s (t.n - (k + 1)) before (chc t.m i)) (2 ^ t.m)
/-- what happens along a plan from a tick on, up to the first fault; the fault. -/
def RTk.flw (t : RTk) : Nat → Sta → List Bool → Plan → List Done × Int
  | _, _, _, [] => ([], 0)
  | i, s, before, on :: r => if t.doE s i before on = 0 then ((t.doD s i before on) :: (t.flw (i + 1) (t.doD s i before on).s on r).1, (t.flw (i + 1) (t.doD s i before on).s on r).2) else ([], t.doE s i before on)
def costs (l : List Done) : Int := (l.map (·.cost)).foldl (· + ·) 0
def RTk.shaped (t : RTk) (p : Plan) : Bool := decide (p.length = t.n) && p.all fun on => decide (on.length = t.m)
end Go.Proofs.Ytmckmlmfilmiaaa.Bs
/-
  The plain law of layer 7 (runoff): the choices in order; the first one of the cheapest plans.
-/
namespace Go.Proofs.Ytmckmlmfilmiaaa.Bs
open Go Go.Proofs.Ytmckmlmfilmiaaa.X
set_option linter.unusedVariables false
/-! ### the choices -/
theorem chc_len (m i : Nat) : (chc m i).length = m := by simp [chc]
/-- the first difference: off in p, on in q. -/
def Bef (p q : List Bool) : Prop := ∃ k : Nat, (∀ j : Nat, j < k → p[j]? = q[j]?) ∧ p[k]? = some false ∧ q[k]? = some true
/-! ### the first one of the cheapest -/
theorem pick_none {g : Nat → Fd} : ∀ {n : Nat}, pick g n = none → ∀ i, i < n → g i = none := by
  intro n
  induction n with
  | zero => intro _ i h; omega
  | succ n ih =>
    intro h i hi
    unfold pick at h
    cases h1 : pick g n with
    | none =>
      rw [h1] at h
      simp only [better] at h
      rcases Nat.lt_or_ge i n with h2 | h2
      · exact ih h1 i h2
      · rw [show i = n by omega]; exact h
    | some x =>
      rw [h1] at h
      cases h2 : g n with
      | none => rw [h2] at h; simp [better] at h
      | some y => rw [h2] at h; simp only [better] at h; split at h <;> cases h
theorem pick_some {g : Nat → Fd} : ∀ {n : Nat} {x : Int × Plan}, pick g n = some x → ∃ i, i < n ∧ g i = some x ∧ (∀ j y, j < n → g j = some y → x.1 ≤ y.1) ∧ (∀ j y, j < i → g j = some y → x.1 < y.1) := by
  intro n
  induction n with
  | zero => intro x h; cases h
  | succ n ih =>
    intro x h
    unfold pick at h
    cases h1 : pick g n with
    | none =>
      rw [h1] at h
      simp only [better] at h
      have h2 := pick_none h1
      refine ⟨n, by omega, h, fun j y hj hy => ?_, fun j y hj hy => ?_⟩
      · rcases Nat.lt_or_ge j n with h3 | h3
        · rw [h2 j h3] at hy; cases hy
        · rw [show j = n by omega, h] at hy; cases hy; exact Int.le_refl _
      · rw [h2 j hj] at hy; cases hy
    | some z =>
      rw [h1] at h
      obtain ⟨i, a1, a2, a3, a4⟩ := ih h1
      cases h2 : g n with
      | none =>
        rw [h2] at h
        simp only [better, Option.some.injEq] at h
        subst h
        refine ⟨i, by omega, a2, fun j y hj hy => ?_, a4⟩
        rcases Nat.lt_or_ge j n with h3 | h3
        · exact a3 j y h3 hy
        · rw [show j = n by omega, h2] at hy; cases hy
      | some y0 =>
        rw [h2] at h
        simp only [better] at h
        by_cases h3 : y0.1 < z.1
        · rw [if_pos h3] at h
          cases h
          refine ⟨n, by omega, h2, fun j y hj hy => ?_, fun j y hj hy => ?_⟩
          · rcases Nat.lt_or_ge j n with h4 | h4
            · have := a3 j y h4 hy; omega
            · rw [show j = n by omega, h2] at hy; cases hy; exact Int.le_refl _
          · have := a3 j y hj hy; omega
        · rw [if_neg h3] at h
          cases h
          refine ⟨i, by omega, a2, fun j y hj hy => ?_, a4⟩
          rcases Nat.lt_or_ge j n with h4 | h4
          · exact a3 j y h4 hy
          · rw [show j = n by omega, h2] at hy; cases hy; omega
theorem costs_go (l : List Done) : ∀ a : Int, (l.map (·.cost)).foldl (· + ·) a = a + costs l := by
  induction l with
  | nil => intro a; simp [costs]
  | cons x l ih =>
    intro a
    have h1 := ih (a + x.cost)
    have h2 := ih (0 + x.cost)
    unfold costs
    simp only [List.map_cons, List.foldl_cons] at h1 h2 ⊢
    rw [h1, h2]; omega
theorem costs_cons (x : Done) (l : List Done) : costs (x :: l) = x.cost + costs l := by
  have := costs_go l (0 + x.cost)
  unfold costs at *
  simp only [List.map_cons, List.foldl_cons] at this ⊢
  rw [this]; omega
theorem costs_nil : costs [] = 0 := rfl
theorem costs_snoc (x : Done) (l : List Done) : costs (l ++ [x]) = costs l + x.cost := by
  unfold costs
  rw [List.map_append, List.foldl_append]; rfl
section
variable {t : RTk}
/-- a plan for the last k ticks that is good: all have a choice, and no fault. -/
structure GoodP (t : RTk) (k : Nat) (s : Sta) (before : List Bool) (p : Plan) : Prop where
  len : p.length = k
  row : ∀ on, on ∈ p → on.length = t.m
  ok : (t.flw (t.n - k) s before p).2 = 0
theorem one_some {more : Sta → List Bool → Fd} {s : Sta} {i : Nat} {before on : List Bool} {x : Int × Plan} (h : t.one more s i before on = some x) : t.doE s i before on = 0 ∧ ∃ c p, more (t.doD s i before on).s on = some (c, p) ∧ x = ((t.doD s i before on).cost + c, on :: p) := by
  unfold RTk.one at h
  by_cases h0 : t.doE s i before on = 0
  · rw [if_pos h0] at h
    cases h1 : more (t.doD s i before on).s on with
    | none => rw [h1] at h; cases h
    | some y => rw [h1] at h; cases h; exact ⟨h0, _, _, rfl, rfl⟩
  · rw [if_neg h0] at h; cases h
theorem one_of {more : Sta → List Bool → Fd} {s : Sta} {i : Nat} {before on : List Bool} {c : Int} {p : Plan} (h0 : t.doE s i before on = 0) (h1 : more (t.doD s i before on).s on = some (c, p)) : t.one more s i before on = some ((t.doD s i before on).cost + c, on :: p) := by
  unfold RTk.one
  rw [if_pos h0, h1]
theorem flw_eq (i : Nat) (s : Sta) (before on : List Bool) (r : Plan) : t.flw i s before (on :: r) = if t.doE s i before on = 0 then ((t.doD s i before on) :: (t.flw (i + 1) (t.doD s i before on).s on r).1, (t.flw (i + 1) (t.doD s i before on).s on r).2) else ([], t.doE s i before on) := rfl
theorem flw_cons_of {i : Nat} {s : Sta} {before on : List Bool} {r : Plan} (h0 : t.doE s i before on = 0) : t.flw i s before (on :: r) = (t.doD s i before on :: (t.flw (i + 1) (t.doD s i before on).s on r).1, (t.flw (i + 1) (t.doD s i before on).s on r).2) := by
  rw [flw_eq, if_pos h0]
/-- what rest finds is a good plan of that cost. -/
theorem rest_good : ∀ {k : Nat} {s : Sta} {before : List Bool} {c : Int} {p : Plan}, k ≤ t.n → t.rest k s before = some (c, p) → GoodP t k s before p ∧ costs (t.flw (t.n - k) s before p).1 = c := by
  intro k
  induction k with
  | zero =>
    intro s before c p _ h
    cases h
    exact ⟨GoodP.mk rfl (fun _ h => nomatch h) rfl, rfl⟩
  | succ k ih =>
    intro s before c p hk h
    unfold RTk.rest at h
    obtain ⟨i, hi, h1, _, _⟩ := pick_some h
    obtain ⟨h0, c', p', h2, e⟩ := one_some h1
    cases e
    obtain ⟨g, hc⟩ := ih (by omega) h2
    have e1 : t.n - (k + 1) + 1 = t.n - k := by omega
    refine ⟨⟨by simp [g.len], fun on hon => ?_, ?_⟩, ?_⟩
    · rcases List.mem_cons.1 hon with rfl | hon
      · exact chc_len _ _
      · exact g.row on hon
    · rw [flw_cons_of h0, e1]; exact g.ok
    · rw [flw_cons_of h0, e1, costs_cons, hc]
/-- no good plan costs less; one that costs as little is this one, or comes behind it. -/
def PBef (p q : Plan) : Prop := ∃ i : Nat, (∀ j : Nat, j < i → p[j]? = q[j]?) ∧ ∃ a b, p[i]? = some a ∧ q[i]? = some b ∧ Bef a b
/-- the first tick of what rest finds, and the rest of it. -/
theorem rest_next {k : Nat} {s : Sta} {before : List Bool} {c : Int} {p : Plan} (h : t.rest (k + 1) s before = some (c, p)) : ∃ on p', p = on :: p' ∧ t.doE s (t.n - (k + 1)) before on = 0 ∧ t.rest k (t.doD s (t.n - (k + 1)) before on).s on = some (c - (t.doD s (t.n - (k + 1)) before on).cost, p') := by
  unfold RTk.rest at h
  obtain ⟨i, hi, h1, _, _⟩ := pick_some h
  obtain ⟨h0, c', p', h2, e⟩ := one_some h1
  cases e
  exact ⟨_, p', rfl, h0, by rw [h2]; congr 2; omega⟩
end
end Go.Proofs.Ytmckmlmfilmiaaa.Bs
/-
  How a task of run-off lies in memory.
-/
namespace Go.Proofs.Ytmckmlmfilmiaaa.X
open Go Go.RowKit Go.Proofs.Ytmckmlmfilmiaaa.Bs
set_option linter.unusedVariables false
def boolK : Kind Bool := ⟨4, 1, fun b => [.bool b], fun _ => [], fun _ => rfl⟩
def sluC (x : Slu) : List Value := [.string x.name, .int .i64 x.width, .int .i64 x.move]
def pmpC (x : Pmp) : List Value := [.string x.name, .int .i64 x.rate, .int .i64 x.base, .int .i64 x.lift, .int .i64 x.start]
def sluK : Kind Slu := ⟨144, 3, sluC, fun _ => [], fun _ => rfl⟩
def pmpK : Kind Pmp := ⟨42, 5, pmpC, fun _ => [], fun _ => rfl⟩
def _root_.Go.Proofs.Ytmckmlmfilmiaaa.Bs.Dev.ty : Dev → Nat
  | .slu _ => 156
  | .pmp _ => 157
def _root_.Go.Proofs.Ytmckmlmfilmiaaa.Bs.Dev.c : Dev → List Value
  | .slu x => sluC x
  | .pmp x => pmpC x
def devV (d : Dev) : Value := .iface d.ty (.agg ⟨d.c⟩)
def devK : Kind Dev := ⟨107, 1, fun d => [devV d], fun _ => [], fun _ => rfl⟩
structure RTV where
  p : BV
  q : SV
  o : SV
  r : SV
  c : SV
  su : SV
  pu : SV
  on : SV
def RTV.n (v : RTV) : List Value := [.slice v.o.A v.o.n v.o.c, .slice v.r.A v.r.n v.r.c, .slice v.c.A v.c.n v.c.c]
def tskC (v : RTV) (t : RTk) : List Value :=
  [.slice v.p.A v.p.n v.p.c, .int .i64 t.b.leak, .int .i64 t.b.crest, .int .i64 t.b.over, .slice v.p.A2 v.p.n2 v.p.c2, .int .i64 t.s.vol, .slice v.q.A v.q.n v.q.c, .slice v.o.A v.o.n v.o.c, .slice v.r.A v.r.n v.r.c, .slice v.c.A v.c.n v.c.c, .int .i64 t.low, .int .i64 t.high, .slice v.su.A v.su.n v.su.c, .slice v.pu.A v.pu.n v.pu.c, .slice v.on.A v.on.n v.on.c]
def tskV (v : RTV) (t : RTk) : Value := .agg ⟨tskC v t⟩
structure TskAt (w : World) (B : Nat) (v : RTV) (t : RTk) : Prop where
  bas : BasAt w B v.p t.b
  fil : IntsAt w (Lt B) v.q t.s.fil
  outer : IntsAt w (Lt B) v.o t.outer
  river : IntsAt w (Lt B) v.r t.river
  prices : IntsAt w (Lt B) v.c t.prices
  slu : ListAt sluK w (Lt B) v.su t.slu
  pmp : ListAt pmpK w (Lt B) v.pu t.pmp
  on : ListAt boolK w (Lt B) v.on t.on
  names : ∀ d, d ∈ t.devs → d.name.size ≤ 9223372036854775807
section
variable {w w' w0 : World} {B B' : Nat} {v : RTV} {t : RTk} {L : Lo}
theorem TskAt.below (h : TskAt w B v t) (hb : Below B w w') : TskAt w' B v t :=
  ⟨h.bas.below hb, h.fil.keep fun k hk => hb.block k hk, h.outer.keep fun k hk => hb.block k hk, h.river.keep fun k hk => hb.block k hk, h.prices.keep fun k hk => hb.block k hk, h.slu.below hb, h.pmp.below hb, h.on.below hb, h.names⟩
theorem TskAt.more (h : TskAt w B v t) (hB : B ≤ B') : TskAt w B' v t :=
  ⟨h.bas.more hB, h.fil.mono fun k hk => Nat.lt_of_lt_of_le hk hB, h.outer.mono fun k hk => Nat.lt_of_lt_of_le hk hB, h.river.mono fun k hk => Nat.lt_of_lt_of_le hk hB, h.prices.mono fun k hk => Nat.lt_of_lt_of_le hk hB, h.slu.mono fun k hk => Nat.lt_of_lt_of_le hk hB, h.pmp.mono fun k hk => Nat.lt_of_lt_of_le hk hB, h.on.mono fun k hk => Nat.lt_of_lt_of_le hk hB, h.names⟩
theorem TskAt.sys (h : TskAt w0 B v t) (S : Sys B w0 L w) : TskAt w w.heap.size v t := (h.below S.toBelow).more (Nat.le_trans S.base S.size)
end
end Go.Proofs.Ytmckmlmfilmiaaa.X
/-
  The walks of the devices' methods (runoff).
-/
namespace Go.Proofs.Ytmckmlmfilmiaaa.X
open Go Go.RowKit Go.Proofs.Ytmckmlmfilmiaaa.Bs
set_option linter.unusedVariables false
/-- a level inside, n / d, and one outside. -/
structure HeadOk (n d o : Int) : Prop where
  hd : 1 ≤ d ∧ d ≤ 1000000000
  hn : -20000000000000 ≤ n ∧ n ≤ 60000000000000
  hlo : -20000 * d ≤ n
  ho : -20000 ≤ o ∧ o ≤ 20000
section
variable {n d o : Int} (h : HeadOk n d o)
include h
theorem HeadOk.od : -20000000000000 ≤ o * d ∧ o * d ≤ 20000000000000 ∧ o * d ≤ 20000 * d := by
  have h1 := mul_bd (X := 20000) (Y := 1000000000) (x := o) (y := d) h.ho (by have := h.hd; omega)
  have h2 : o * d ≤ 20000 * d := Int.mul_le_mul_of_nonneg_right h.ho.2 (by have := h.hd; omega)
  omega
theorem HeadOk.ins : -40000000000000 ≤ n - o * d ∧ n - o * d ≤ 80000000000000 ∧ -(n - o * d) ≤ 40000 * d := by
  have h1 := h.od
  have h2 := h.hn
  have h3 := h.hlo
  omega
end
def headC (n d o : Int) : List Value := [.int .i64 n, .int .i64 d, .int .i64 o]
theorem rnout_any (n lo hi : Int) (w : World) :
    Calls Try.prog 42 #[.int .i64 n, .int .i64 lo, .int .i64 hi] w fun e w' => e = .returned (.bool (outB n lo hi)) ∧ Below w.heap.size w w' := by
  refine enter Try.func42 rfl Try.ntmps42 rfl ?_; simp only [frame, Nat.zero_add, Nat.reduceAdd]
  repeat (first | (refine M0 ?_; first | refine SL ?_ | refine SB fun _ _ => ?_) | (refine M1 ?_; first | refine SC ?_ | refine SD ?_) | (refine M2 ?_; refine SE ?_) | (refine M3 ?_; first | refine SG ?_ | refine SF ?_) | (refine M4 ?_; refine SR ?_) | (refine M5 ?_; first | exact M7 | refine YM ?_ | refine YN ?_ ?_))
  refine XL.split _ _ rfl (fun h => ?_) (fun h => ?_) <;> rw [h]
  · repeat (first | (refine M0 ?_; first | refine SL ?_ | refine SB fun _ _ => ?_) | (refine M1 ?_; first | refine SC ?_ | refine SD ?_) | (refine M2 ?_; refine SE ?_) | (refine M3 ?_; first | refine SG ?_ | refine SF ?_) | (refine M4 ?_; refine SR ?_) | (refine M5 ?_; first | exact M7 | refine YM ?_ | refine YN ?_ ?_))
    refine XE.retg tok Try.results42 rfl (by simp only [and_self, and_true]) (fun w' S => ?_)
    exact ⟨by unfold outB; rw [h]; rfl, S.toBelow⟩
  · repeat (first | (refine M0 ?_; first | refine SL ?_ | refine SB fun _ _ => ?_) | (refine M1 ?_; first | refine SC ?_ | refine SD ?_) | (refine M2 ?_; refine SE ?_) | (refine M3 ?_; first | refine SG ?_ | refine SF ?_) | (refine M4 ?_; refine SR ?_) | (refine M5 ?_; first | exact M7 | refine YM ?_ | refine YN ?_ ?_))
    refine XE.retg tok Try.results42 rfl (by simp only [and_self, and_true]) (fun w' S => ?_)
    exact ⟨by unfold outB; rw [h]; rfl, S.toBelow⟩
theorem inside_any {n d o : Int} (h : HeadOk n d o) (w : World) :
    Calls Try.prog 153 #[.agg ⟨headC n d o⟩] w fun e w' => e = .returned (.int .i64 (n - o * d)) ∧ Below w.heap.size w w' := by
  have h1 := h.od
  have h2 := h.ins
  simp only [headC]
  refine enter Try.func153 rfl Try.ntmps153 rfl ?_; simp only [frame, Nat.zero_add, Nat.reduceAdd]
  repeat (first | (refine M0 ?_; first | refine SL ?_ | refine SB fun _ _ => ?_) | (refine M1 ?_; first | refine SC ?_ | refine SD ?_) | (refine M2 ?_; refine SE ?_) | (refine M3 ?_; first | refine SG ?_ | refine SF ?_) | (refine M4 ?_; refine SR ?_) | (refine M5 ?_; first | exact M7 | refine YM ?_ | refine YN ?_ ?_))
  refine XE.retg tok Try.results153 rfl (by simp only [and_self, and_true]) (fun w' S => ?_)
  exact ⟨rfl, S.toBelow⟩
theorem sname_any (x : Slu) (w : World) :
    Calls Try.prog 151 #[.agg ⟨sluC x⟩] w fun e w' => e = .returned (.string x.name) ∧ Below w.heap.size w w' := by
  simp only [sluC]
  refine enter Try.func151 rfl Try.ntmps151 rfl ?_; simp only [frame, Nat.zero_add, Nat.reduceAdd]
  repeat (first | (refine M0 ?_; first | refine SL ?_ | refine SB fun _ _ => ?_) | (refine M1 ?_; first | refine SC ?_ | refine SD ?_) | (refine M2 ?_; refine SE ?_) | (refine M3 ?_; first | refine SG ?_ | refine SF ?_) | (refine M4 ?_; refine SR ?_) | (refine M5 ?_; first | exact M7 | refine YM ?_ | refine YN ?_ ?_))
  refine XE.retg tok Try.results151 rfl (by simp only [and_self, and_true]) (fun w' S => ?_)
  exact ⟨rfl, S.toBelow⟩
theorem pname_any (x : Pmp) (w : World) :
    Calls Try.prog 156 #[.agg ⟨pmpC x⟩] w fun e w' => e = .returned (.string x.name) ∧ Below w.heap.size w w' := by
  simp only [pmpC]
  refine enter Try.func156 rfl Try.ntmps156 rfl ?_; simp only [frame, Nat.zero_add, Nat.reduceAdd]
  repeat (first | (refine M0 ?_; first | refine SL ?_ | refine SB fun _ _ => ?_) | (refine M1 ?_; first | refine SC ?_ | refine SD ?_) | (refine M2 ?_; refine SE ?_) | (refine M3 ?_; first | refine SG ?_ | refine SF ?_) | (refine M4 ?_; refine SR ?_) | (refine M5 ?_; first | exact M7 | refine YM ?_ | refine YN ?_ ?_))
  refine XE.retg tok Try.results156 rfl (by simp only [and_self, and_true]) (fun w' S => ?_)
  exact ⟨rfl, S.toBelow⟩
theorem outP {n lo hi : Int} {b : Bool} (e : outB n lo hi = b) (w : World) :
    Calls Try.prog 42 #[.int .i64 n, .int .i64 lo, .int .i64 hi] w fun e w' => e = .returned (.bool b) ∧ Below w.heap.size w w' := by
  subst e; exact rnout_any n lo hi w
theorem swild_any (x : Slu) (w : World) :
    Calls Try.prog 152 #[.agg ⟨sluC x⟩] w fun e w' => e = .returned (.bool (sluWild x)) ∧ Below w.heap.size w w' := by
  simp only [sluC]
  refine enter Try.func152 rfl Try.ntmps152 rfl ?_; simp only [frame, Nat.zero_add, Nat.reduceAdd]
  cases e0 : outB x.width 0 10000 with
  | true =>
    repeat (first | (refine M0 ?_; first | refine SL ?_ | refine SB fun _ _ => ?_ | refine Y4 (Ev.call (f := 42) (vs := [.int .i64 x.width, .int .i64 0, .int .i64 10000]) (ck rfl) rfl (fun w S => outP e0 w)) ?_) | (refine M1 ?_; first | refine SC ?_ | refine SD ?_) | (refine M2 ?_; refine SE ?_) | (refine M3 ?_; first | refine SG ?_ | refine SF ?_ | refine YF (Ev.call (f := 42) (vs := [.int .i64 x.width, .int .i64 0, .int .i64 10000]) (ck rfl) rfl (fun w S => outP e0 w)) ?_) | (refine M4 ?_; refine SR ?_) | (refine M5 ?_; first | exact M7 | refine YM ?_ | refine YN ?_ ?_))
    refine XE.retg tok Try.results152 rfl (by simp only [and_self, and_true]) (fun w' S => ?_)
    exact ⟨by rw [show sluWild x = true by simp only [sluWild, e0, Bool.true_or]]; rfl, S.toBelow⟩
  | false =>
    repeat (first | (refine M0 ?_; first | refine SL ?_ | refine SB fun _ _ => ?_ | refine Y4 (Ev.call (f := 42) (vs := [.int .i64 x.width, .int .i64 0, .int .i64 10000]) (ck rfl) rfl (fun w S => outP e0 w)) ?_ | refine Y4 (Ev.call (f := 42) (vs := [.int .i64 x.move, .int .i64 0, .int .i64 100000]) (ck rfl) rfl (fun w S => rnout_any _ _ _ w)) ?_) | (refine M1 ?_; first | refine SC ?_ | refine SD ?_) | (refine M2 ?_; refine SE ?_) | (refine M3 ?_; first | refine SG ?_ | refine SF ?_ | refine YF (Ev.call (f := 42) (vs := [.int .i64 x.width, .int .i64 0, .int .i64 10000]) (ck rfl) rfl (fun w S => outP e0 w)) ?_ | refine YF (Ev.call (f := 42) (vs := [.int .i64 x.move, .int .i64 0, .int .i64 100000]) (ck rfl) rfl (fun w S => rnout_any _ _ _ w)) ?_) | (refine M4 ?_; refine SR ?_) | (refine M5 ?_; first | exact M7 | refine YM ?_ | refine YN ?_ ?_))
    refine XE.retg tok Try.results152 rfl (by simp only [and_self, and_true]) (fun w' S => ?_)
    exact ⟨by rw [show sluWild x = outB x.move 0 100000 by simp only [sluWild, e0, Bool.false_or]]; rfl, S.toBelow⟩
theorem pwild_any (x : Pmp) (w : World) :
    Calls Try.prog 157 #[.agg ⟨pmpC x⟩] w fun e w' => e = .returned (.bool (pmpWild x)) ∧ Below w.heap.size w w' := by
  simp only [pmpC]
  refine enter Try.func157 rfl Try.ntmps157 rfl ?_; simp only [frame, Nat.zero_add, Nat.reduceAdd]
  cases e0 : outB x.rate 0 10000000 with
  | true =>
    repeat (first | (refine M0 ?_; first | refine SL ?_ | refine SB fun _ _ => ?_ | refine Y4 (Ev.call (f := 42) (vs := [.int .i64 x.rate, .int .i64 0, .int .i64 10000000]) (ck rfl) rfl (fun w S => outP e0 w)) ?_) | (refine M1 ?_; first | refine SC ?_ | refine SD ?_) | (refine M2 ?_; refine SE ?_) | (refine M3 ?_; first | refine SG ?_ | refine SF ?_ | refine YF (Ev.call (f := 42) (vs := [.int .i64 x.rate, .int .i64 0, .int .i64 10000000]) (ck rfl) rfl (fun w S => outP e0 w)) ?_) | (refine M4 ?_; refine SR ?_) | (refine M5 ?_; first | exact M7 | refine YM ?_ | refine YN ?_ ?_))
    refine XE.retg tok Try.results157 rfl (by simp only [and_self, and_true]) (fun w' S => ?_)
    exact ⟨by rw [show pmpWild x = true by simp only [pmpWild, e0, Bool.true_or]]; rfl, S.toBelow⟩
  | false =>
  cases e1 : outB x.base 0 100000 with
  | true =>
    repeat (first | (refine M0 ?_; first | refine SL ?_ | refine SB fun _ _ => ?_ | refine Y4 (Ev.call (f := 42) (vs := [.int .i64 x.rate, .int .i64 0, .int .i64 10000000]) (ck rfl) rfl (fun w S => outP e0 w)) ?_ | refine Y4 (Ev.call (f := 42) (vs := [.int .i64 x.base, .int .i64 0, .int .i64 100000]) (ck rfl) rfl (fun w S => outP e1 w)) ?_) | (refine M1 ?_; first | refine SC ?_ | refine SD ?_) | (refine M2 ?_; refine SE ?_) | (refine M3 ?_; first | refine SG ?_ | refine SF ?_ | refine YF (Ev.call (f := 42) (vs := [.int .i64 x.rate, .int .i64 0, .int .i64 10000000]) (ck rfl) rfl (fun w S => outP e0 w)) ?_ | refine YF (Ev.call (f := 42) (vs := [.int .i64 x.base, .int .i64 0, .int .i64 100000]) (ck rfl) rfl (fun w S => outP e1 w)) ?_) | (refine M4 ?_; refine SR ?_) | (refine M5 ?_; first | exact M7 | refine YM ?_ | refine YN ?_ ?_))
    refine XE.retg tok Try.results157 rfl (by simp only [and_self, and_true]) (fun w' S => ?_)
    exact ⟨by rw [show pmpWild x = true by simp only [pmpWild, e0, e1, Bool.true_or, Bool.false_or]]; rfl, S.toBelow⟩
  | false =>
  cases e2 : outB x.lift 0 100000 with
  | true =>
    repeat (first | (refine M0 ?_; first | refine SL ?_ | refine SB fun _ _ => ?_ | refine Y4 (Ev.call (f := 42) (vs := [.int .i64 x.rate, .int .i64 0, .int .i64 10000000]) (ck rfl) rfl (fun w S => outP e0 w)) ?_ | refine Y4 (Ev.call (f := 42) (vs := [.int .i64 x.base, .int .i64 0, .int .i64 100000]) (ck rfl) rfl (fun w S => outP e1 w)) ?_ | refine Y4 (Ev.call (f := 42) (vs := [.int .i64 x.lift, .int .i64 0, .int .i64 100000]) (ck rfl) rfl (fun w S => outP e2 w)) ?_) | (refine M1 ?_; first | refine SC ?_ | refine SD ?_) | (refine M2 ?_; refine SE ?_) | (refine M3 ?_; first | refine SG ?_ | refine SF ?_ | refine YF (Ev.call (f := 42) (vs := [.int .i64 x.rate, .int .i64 0, .int .i64 10000000]) (ck rfl) rfl (fun w S => outP e0 w)) ?_ | refine YF (Ev.call (f := 42) (vs := [.int .i64 x.base, .int .i64 0, .int .i64 100000]) (ck rfl) rfl (fun w S => outP e1 w)) ?_ | refine YF (Ev.call (f := 42) (vs := [.int .i64 x.lift, .int .i64 0, .int .i64 100000]) (ck rfl) rfl (fun w S => outP e2 w)) ?_) | (refine M4 ?_; refine SR ?_) | (refine M5 ?_; first | exact M7 | refine YM ?_ | refine YN ?_ ?_))
    refine XE.retg tok Try.results157 rfl (by simp only [and_self, and_true]) (fun w' S => ?_)
    exact ⟨by rw [show pmpWild x = true by simp only [pmpWild, e0, e1, e2, Bool.true_or, Bool.false_or]]; rfl, S.toBelow⟩
  | false =>
    repeat (first | (refine M0 ?_; first | refine SL ?_ | refine SB fun _ _ => ?_ | refine Y4 (Ev.call (f := 42) (vs := [.int .i64 x.rate, .int .i64 0, .int .i64 10000000]) (ck rfl) rfl (fun w S => outP e0 w)) ?_ | refine Y4 (Ev.call (f := 42) (vs := [.int .i64 x.base, .int .i64 0, .int .i64 100000]) (ck rfl) rfl (fun w S => outP e1 w)) ?_ | refine Y4 (Ev.call (f := 42) (vs := [.int .i64 x.lift, .int .i64 0, .int .i64 100000]) (ck rfl) rfl (fun w S => outP e2 w)) ?_ | refine Y4 (Ev.call (f := 42) (vs := [.int .i64 x.start, .int .i64 0, .int .i64 100000]) (ck rfl) rfl (fun w S => rnout_any _ _ _ w)) ?_) | (refine M1 ?_; first | refine SC ?_ | refine SD ?_) | (refine M2 ?_; refine SE ?_) | (refine M3 ?_; first | refine SG ?_ | refine SF ?_ | refine YF (Ev.call (f := 42) (vs := [.int .i64 x.rate, .int .i64 0, .int .i64 10000000]) (ck rfl) rfl (fun w S => outP e0 w)) ?_ | refine YF (Ev.call (f := 42) (vs := [.int .i64 x.base, .int .i64 0, .int .i64 100000]) (ck rfl) rfl (fun w S => outP e1 w)) ?_ | refine YF (Ev.call (f := 42) (vs := [.int .i64 x.lift, .int .i64 0, .int .i64 100000]) (ck rfl) rfl (fun w S => outP e2 w)) ?_ | refine YF (Ev.call (f := 42) (vs := [.int .i64 x.start, .int .i64 0, .int .i64 100000]) (ck rfl) rfl (fun w S => rnout_any _ _ _ w)) ?_) | (refine M4 ?_; refine SR ?_) | (refine M5 ?_; first | exact M7 | refine YM ?_ | refine YN ?_ ?_))
    refine XE.retg tok Try.results157 rfl (by simp only [and_self, and_true]) (fun w' S => ?_)
    exact ⟨by rw [show pmpWild x = outB x.start 0 100000 by simp only [pmpWild, e0, e1, e2, Bool.false_or]]; rfl, S.toBelow⟩
/-- what flow answers. -/
def flowV : Option Int → Value
  | none => .tuple ⟨[.int .i64 0, .bool false]⟩
  | some f => .tuple ⟨[.int .i64 f, .bool true]⟩
theorem tdiv_sml {a b : Int} (hb : 1 ≤ b) (ha : 0 ≤ a) : 0 ≤ a.tdiv b ∧ a.tdiv b ≤ a := by
  have h1 := tdiv_bd (a := a) hb
  have h2 := Int.tdiv_nonneg ha (by omega : 0 ≤ b)
  omega
theorem sflow_any {x : Slu} {n d o : Int} (h : HeadOk n d o) (hx : DevOk (.slu x)) (w : World) :
    Calls Try.prog 150 #[.agg ⟨sluC x⟩, .agg ⟨headC n d o⟩] w fun e w' => e = .returned (flowV ((Dev.slu x).flow n d o)) ∧ Below w.heap.size w w' := by
  have h2 := h.ins
  have hd := h.hd
  simp only [sluC, headC]
  refine enter Try.func150 rfl Try.ntmps150 rfl ?_; simp only [frame, Nat.zero_add, Nat.reduceAdd]
  repeat (first | (refine M0 ?_; first | refine SL ?_ | refine SB fun _ _ => ?_ | refine Y4 (Ev.call (f := 153) (ck rfl) rfl (fun w S => inside_any h w)) ?_) | (refine M1 ?_; first | refine SC ?_ | refine SD ?_) | (refine M2 ?_; refine SE ?_) | (refine M3 ?_; first | refine SG ?_ | refine SF ?_ | refine YF (Ev.call (f := 153) (ck rfl) rfl (fun w S => inside_any h w)) ?_) | (refine M4 ?_; refine SR ?_) | (refine M5 ?_; first | exact M7 | refine YM ?_ | refine YN ?_ ?_))
  refine XC.cond _ rfl (fun h1 => ?_) (fun h1 => ?_)
  · repeat (first | (refine M0 ?_; first | refine SL ?_ | refine SB fun _ _ => ?_) | (refine M1 ?_; first | refine SC ?_ | refine SD ?_) | (refine M2 ?_; refine SE ?_) | (refine M3 ?_; first | refine SG ?_ | refine SF ?_) | (refine M4 ?_; refine SR ?_) | (refine M5 ?_; first | exact M7 | refine YM ?_ | refine YN ?_ ?_))
    refine XE.retg tok Try.results150 rfl (by simp only [and_self, and_true]) (fun w' S => ?_)
    exact ⟨by rw [show (Dev.slu x).flow n d o = none by simp only [Dev.flow]; rw [if_pos (of_decide_eq_true h1)]]; rfl, S.toBelow⟩
  · have h3 : ¬ n - o * d ≤ 0 := of_decide_eq_false h1
    have h4 := mul_bd (X := 10000) (Y := 80000000000000) (x := x.width) (y := n - o * d) (by have := hx.1; omega) (by omega)
    have h5 : 0 ≤ x.width * (n - o * d) := Int.mul_nonneg hx.1.1 (by omega)
    have h6 := tdiv_sml hd.1 h5
    repeat (first | (refine M0 ?_; first | refine SL ?_ | refine SB fun _ _ => ?_ | refine Y4 (Ev.call (f := 153) (ck rfl) rfl (fun w S => inside_any h w)) ?_) | (refine M1 ?_; first | refine SC ?_ | refine SD ?_) | (refine M2 ?_; refine SE ?_) | (refine M3 ?_; first | refine SG ?_ | refine SF ?_ | refine YF (Ev.call (f := 153) (ck rfl) rfl (fun w S => inside_any h w)) ?_) | (refine M4 ?_; refine SR ?_) | (refine M5 ?_; first | exact M7 | refine YM ?_ | refine YN ?_ ?_))
    refine XE.retg tok Try.results150 rfl (by simp only [and_self, and_true]) (fun w' S => ?_)
    exact ⟨by rw [show (Dev.slu x).flow n d o = some ((x.width * (n - o * d)).tdiv d) by simp only [Dev.flow]; rw [if_neg h3]]; rfl, S.toBelow⟩
theorem pflow_any {x : Pmp} {n d o : Int} (w : World) :
    Calls Try.prog 155 #[.agg ⟨pmpC x⟩, .agg ⟨headC n d o⟩] w fun e w' => e = .returned (flowV ((Dev.pmp x).flow n d o)) ∧ Below w.heap.size w w' := by
  simp only [pmpC, headC]
  refine enter Try.func155 rfl Try.ntmps155 rfl ?_; simp only [frame, Nat.zero_add, Nat.reduceAdd]
  repeat (first | (refine M0 ?_; first | refine SL ?_ | refine SB fun _ _ => ?_) | (refine M1 ?_; first | refine SC ?_ | refine SD ?_) | (refine M2 ?_; refine SE ?_) | (refine M3 ?_; first | refine SG ?_ | refine SF ?_) | (refine M4 ?_; refine SR ?_) | (refine M5 ?_; first | exact M7 | refine YM ?_ | refine YN ?_ ?_))
  refine XE.retg tok Try.results155 rfl (by simp only [and_self, and_true]) (fun w' S => ?_)
  exact ⟨rfl, S.toBelow⟩
theorem senergy_any {x : Slu} {n d o : Int} {before on : Bool} (w : World) :
    Calls Try.prog 149 #[.agg ⟨sluC x⟩, .agg ⟨headC n d o⟩, .bool before, .bool on] w fun e w' => e = .returned (.int .i64 ((Dev.slu x).energy n d o before on)) ∧ Below w.heap.size w w' := by
  simp only [sluC, headC]
  refine enter Try.func149 rfl Try.ntmps149 rfl ?_; simp only [frame, Nat.zero_add, Nat.reduceAdd]
  repeat (first | (refine M0 ?_; first | refine SL ?_ | refine SB fun _ _ => ?_ | refine Y4 (Ev.eqlB Try.underlying4 rfl rfl) ?_) | (refine M1 ?_; first | refine SC ?_ | refine SD ?_) | (refine M2 ?_; refine SE ?_) | (refine M3 ?_; first | refine SG ?_ | refine SF ?_ | refine YF (Ev.eqlB Try.underlying4 rfl rfl) ?_) | (refine M4 ?_; refine SR ?_) | (refine M5 ?_; first | exact M7 | refine YM ?_ | refine YN ?_ ?_))
  refine XC.cond _ rfl (fun h1 => ?_) (fun h1 => ?_)
  · repeat (first | (refine M0 ?_; first | refine SL ?_ | refine SB fun _ _ => ?_) | (refine M1 ?_; first | refine SC ?_ | refine SD ?_) | (refine M2 ?_; refine SE ?_) | (refine M3 ?_; first | refine SG ?_ | refine SF ?_) | (refine M4 ?_; refine SR ?_) | (refine M5 ?_; first | exact M7 | refine YM ?_ | refine YN ?_ ?_))
    refine XE.retg tok Try.results149 rfl (by simp only [and_self, and_true]) (fun w' S => ?_)
    exact ⟨by simp only [Dev.energy]; rw [if_pos (by simpa using h1)]; rfl, S.toBelow⟩
  · repeat (first | (refine M0 ?_; first | refine SL ?_ | refine SB fun _ _ => ?_) | (refine M1 ?_; first | refine SC ?_ | refine SD ?_) | (refine M2 ?_; refine SE ?_) | (refine M3 ?_; first | refine SG ?_ | refine SF ?_) | (refine M4 ?_; refine SR ?_) | (refine M5 ?_; first | exact M7 | refine YM ?_ | refine YN ?_ ?_))
    refine XE.retg tok Try.results149 rfl (by simp only [and_self, and_true]) (fun w' S => ?_)
    exact ⟨by simp only [Dev.energy]; rw [if_neg (by simpa using h1)]; rfl, S.toBelow⟩
/-- what the lift takes. -/
theorem lift_bd {x l d : Int} (hd : 1 ≤ d ∧ d ≤ 1000000000) (hl : 0 ≤ l ∧ l ≤ 100000) (hx : 0 ≤ x ∧ x ≤ 40000000000000 ∧ x ≤ 40000 * d) : (0 ≤ l * x ∧ l * x ≤ 4000000000000000000) ∧ 0 ≤ (l * x + d - 1).tdiv d ∧ (l * x + d - 1).tdiv d ≤ 4000000001 := by
  have h1 := mul_bd (X := 100000) (Y := 40000000000000) (x := l) (y := x) (by omega) (by omega)
  have h2 : 0 ≤ l * x := Int.mul_nonneg hl.1 hx.1
  have h3 : l * x ≤ 100000 * (40000 * d) := Int.le_trans (Int.mul_le_mul_of_nonneg_right hl.2 hx.1) (Int.mul_le_mul_of_nonneg_left hx.2.2 (by omega))
  have h4 : 0 ≤ (l * x + d - 1).tdiv d := Int.tdiv_nonneg (by omega) (by omega)
  refine ⟨by omega, h4, ?_⟩
  have h5 := (tdiv_mul (a := l * x + d - 1) hd.1).2.2.1 (by omega)
  have h6 : (l * x + d - 1).tdiv d * d ≤ 4000000001 * d := by omega
  exact Int.le_of_mul_le_mul_right h6 (by omega)
theorem penergy_any {x : Pmp} {n d o : Int} {before on : Bool} (h : HeadOk n d o) (hx : DevOk (.pmp x)) (w : World) :
    Calls Try.prog 154 #[.agg ⟨pmpC x⟩, .agg ⟨headC n d o⟩, .bool before, .bool on] w fun e w' => e = .returned (.int .i64 ((Dev.pmp x).energy n d o before on)) ∧ Below w.heap.size w w' := by
  have h2 := h.ins
  have hd := h.hd
  obtain ⟨_, x1, x2, x3⟩ := hx
  have h3 := lift_bd (x := max 0 (-(n - o * d))) (l := x.lift) hd x2 (by omega)
  simp only [pmpC, headC]
  refine enter Try.func154 rfl Try.ntmps154 rfl ?_; simp only [frame, Nat.zero_add, Nat.reduceAdd]
  cases on
  · repeat (first | (refine M0 ?_; first | refine SL ?_ | refine SB fun _ _ => ?_) | (refine M1 ?_; first | refine SC ?_ | refine SD ?_) | (refine M2 ?_; refine SE ?_) | (refine M3 ?_; first | refine SG ?_ | refine SF ?_) | (refine M4 ?_; refine SR ?_) | (refine M5 ?_; first | exact M7 | refine YM ?_ | refine YN ?_ ?_))
    refine XE.retg tok Try.results154 rfl (by simp only [and_self, and_true]) (fun w' S => ?_)
    exact ⟨rfl, S.toBelow⟩
  cases before
  all_goals
    repeat (first | (refine M0 ?_; first | refine SL ?_ | refine SB fun _ _ => ?_ | refine Y4 (Ev.call (f := 153) (ck rfl) rfl (fun w S => inside_any h w)) ?_) | (refine M1 ?_; first | refine SC ?_ | refine SD ?_) | (refine M2 ?_; refine SE ?_) | (refine M3 ?_; first | refine SG ?_ | refine SF ?_ | refine YF (Ev.call (f := 153) (ck rfl) rfl (fun w S => inside_any h w)) ?_) | (refine M4 ?_; refine SR ?_) | (refine M5 ?_; first | exact M7 | refine YM ?_ | refine YN ?_ ?_))
    refine XE.retg tok Try.results154 rfl (by simp only [and_self, and_true]) (fun w' S => ?_)
    exact ⟨by first | rfl | (simp only [Dev.energy, if_true, Bool.false_eq_true, if_false, Int.add_zero]; rfl), S.toBelow⟩
/-! ### a device, whichever it is -/
theorem dev_name (x : Dev) : ∃ f, methO Try.prog x.ty "barrage/runoff.name" = some f ∧ callOk Try.prog f = true ∧ ∀ w, Calls Try.prog f (Value.agg ⟨x.c⟩ :: []).toArray w fun e w' => e = .returned (.string x.name) ∧ Below w.heap.size w w' := by
  cases x with
  | slu x => exact ⟨151, by kernel_rfl, ck rfl, fun w => sname_any x w⟩
  | pmp x => exact ⟨156, by kernel_rfl, ck rfl, fun w => pname_any x w⟩
theorem dev_wild (x : Dev) : ∃ f, methO Try.prog x.ty "barrage/runoff.wild" = some f ∧ callOk Try.prog f = true ∧ ∀ w, Calls Try.prog f (Value.agg ⟨x.c⟩ :: []).toArray w fun e w' => e = .returned (.bool x.wild) ∧ Below w.heap.size w w' := by
  cases x with
  | slu x => exact ⟨152, by kernel_rfl, ck rfl, fun w => swild_any x w⟩
  | pmp x => exact ⟨157, by kernel_rfl, ck rfl, fun w => pwild_any x w⟩
theorem dev_flow {x : Dev} {n d o : Int} (h : HeadOk n d o) (hx : DevOk x) : ∃ f, methO Try.prog x.ty "barrage/runoff.flow" = some f ∧ callOk Try.prog f = true ∧ ∀ w, Calls Try.prog f (Value.agg ⟨x.c⟩ :: [.agg ⟨headC n d o⟩]).toArray w fun e w' => e = .returned (flowV (x.flow n d o)) ∧ Below w.heap.size w w' := by
  cases x with
  | slu x => exact ⟨150, by kernel_rfl, ck rfl, fun w => sflow_any h hx w⟩
  | pmp x => exact ⟨155, by kernel_rfl, ck rfl, fun w => pflow_any w⟩
theorem dev_energy {x : Dev} {n d o : Int} (before on : Bool) (h : HeadOk n d o) (hx : DevOk x) : ∃ f, methO Try.prog x.ty "barrage/runoff.energy" = some f ∧ callOk Try.prog f = true ∧ ∀ w, Calls Try.prog f (Value.agg ⟨x.c⟩ :: [.agg ⟨headC n d o⟩, .bool before, .bool on]).toArray w fun e w' => e = .returned (.int .i64 (x.energy n d o before on)) ∧ Below w.heap.size w w' := by
  cases x with
  | slu x => exact ⟨149, by kernel_rfl, ck rfl, fun w => senergy_any w⟩
  | pmp x => exact ⟨154, by kernel_rfl, ck rfl, fun w => penergy_any h hx w⟩
/-- bounds. -/
theorem flow_bd {x : Dev} {n d o f : Int} (h : HeadOk n d o) (hx : DevOk x) (e : x.flow n d o = some f) : 0 ≤ f ∧ f ≤ 800000000000000000 := by
  cases x with
  | slu x =>
    simp only [Dev.flow] at e
    split at e
    · cases e
    · rename_i h3
      cases e
      have h2 := h.ins
      have h4 := mul_bd (X := 10000) (Y := 80000000000000) (x := x.width) (y := n - o * d) (by have := hx.1; omega) (by omega)
      have h5 : 0 ≤ x.width * (n - o * d) := Int.mul_nonneg hx.1.1 (by omega)
      have h6 := tdiv_sml h.hd.1 h5
      omega
  | pmp x => simp only [Dev.flow, Option.some.injEq] at e; have := hx.1; omega
theorem energy_bd {x : Dev} {n d o : Int} (before on : Bool) (h : HeadOk n d o) (hx : DevOk x) : 0 ≤ x.energy n d o before on ∧ x.energy n d o before on ≤ 5000000000 := by
  have h2 := h.ins
  have hd := h.hd
  cases x with
  | slu x => have := hx.2; simp only [Dev.energy]; split <;> omega
  | pmp x =>
    obtain ⟨_, x1, x2, x3⟩ := hx
    have h3 := lift_bd (x := max 0 (-(n - o * d))) (l := x.lift) h.hd x2 (by omega)
    simp only [Dev.energy]
    split
    · split <;> omega
    · omega
end Go.Proofs.Ytmckmlmfilmiaaa.X
/-
  The walks of devices, kinds and Check's closure (runoff).
-/
namespace Go.Proofs.Ytmckmlmfilmiaaa.X
open Go Go.RowKit Go.Proofs.Ytmckmlmfilmiaaa.Bs
set_option linter.unusedVariables false
theorem dev_el : elemOk Try.prog 102 devK.ty devK.m 16 = true := by kernel_rfl
theorem slu_con : conB (Try.prog.underlying 156) = true := by kernel_rfl
theorem pmp_con : conB (Try.prog.underlying 157) = true := by kernel_rfl
def DevsV (ds : List Dev) (v : Value) (new : List Held) : Prop := ∃ r : SV, v = svV r ∧ new = [hList devK r ds] ∧ (0 < ds.length → ds.length ≤ r.c)
theorem take_map_succ {α β : Type} (f : α → β) {l : List α} {k : Nat} (h : k < l.length) : (l.take (k + 1)).map f = (l.take k).map f ++ [f l[k]] := by
  rw [List.take_add_one, List.getElem?_eq_getElem h, List.map_append]; rfl
set_option maxHeartbeats 8000000 in
theorem devices_made {v : RTV} {t : RTk} {w : World} (ht : TskAt w w.heap.size v t) (hn : t.slu.length + t.pmp.length ≤ 5000000) :
    Calls Try.prog 43 #[tskV v t] w (Made w (DevsV t.devs)) := by
  obtain ⟨p, q, o, r, c, ⟨As, ns, cs⟩, ⟨Ap, np, cp⟩, on⟩ := v
  have hls := ht.slu.len (by decide)
  have hlp := ht.pmp.len (by decide)
  simp only at hls hlp
  subst hls hlp
  have hsl := ht.slu
  have hpl := ht.pmp
  simp only at hsl hpl
  simp only [tskV, tskC]
  refine enter Try.func43 rfl Try.ntmps43 rfl ?_; simp only [frame, Nat.zero_add, Nat.reduceAdd]
  repeat (first | (refine M0 ?_; first | refine SL ?_ | refine SB fun _ _ => ?_) | (refine M1 ?_; first | refine SC ?_ | refine SD ?_) | (refine M2 ?_; refine SE ?_) | (refine M3 ?_; first | refine SG ?_ | refine SF ?_) | (refine M4 ?_; refine SR ?_) | (refine M5 ?_; first | exact M7 | refine YM ?_ | refine YN ?_ ?_))
  rename_i g1 hg1
  refine XC.rebase (List.Sublist.refl _) (fun W0 S0 => ?_)
  have hl1 : ∀ (l : List Dev), l.length ≤ 5000000 → l.length + 1 ≤ 10000000 := fun l h => by omega
  have ha1 : ∀ (d : Dev) x, x ∈ devK.sl d → x ∈ ([] : List Held) := fun d x hx => hx
  refine XC.loopk [1, 8, 9] rfl (fun s : Nat × World × Value => [(10, .int .i64 (s.1 : Nat)), (2, s.2.2)]) (fun s => [(g1, _)]) (fun s => s.2.1)
    (fun s => s.1 ≤ t.slu.length ∧ Fam s.2.1 w.heap.size [g1] [⟨Dev, devK, s.2.2, (t.slu.take s.1).map Dev.slu⟩] [] ∧ Below w.heap.size w s.2.1 ∧ g1 < s.2.1.heap.size)
    (fun s => t.slu.length - s.1) (0, W0, .slice none 0 0) ⟨Nat.zero_le _, (Fam.start (ks := [g1]) S0.size).nil devK, S0.toBelow, S0.keyLt g1 (by simp)⟩ ZZSUB (fun _ h => h) ?_
  · rintro ⟨k, W, v⟩ ⟨hk, hF, hBW, hgW⟩
    simp only at hk hF hBW hgW
    dsimp only [List.cons_append, List.nil_append]
    repeat (first | (refine M0 ?_; first | refine SL ?_ | refine SB fun _ _ => ?_) | (refine M1 ?_; first | refine SC ?_ | refine SD ?_) | (refine M2 ?_; refine SE ?_) | (refine M3 ?_; first | refine SG ?_ | refine SF ?_) | (refine M4 ?_; refine SR ?_) | (refine M5 ?_; first | exact M7 | refine YM ?_ | refine YN ?_ ?_))
    refine XC.cond _ rfl (fun h1 => ?_) (fun h1 => ?_)
    · have hkn : k < t.slu.length := by simpa using h1
      obtain ⟨ad, rfl, hlt⟩ := hsl.addr (by decide) (by omega)
      obtain ⟨x, hx⟩ : ∃ x, x = t.slu[k] := ⟨_, rfl⟩
      have hcell : ∀ j u, (sluC x)[j]? = some u → W.cell? ((ad.add (k * 3)).add j) = some u := by rw [hx]; exact (hsl.below hBW).elem (List.getElem?_eq_getElem hkn)
      have hks : ∀ j, j ∈ [g1] → j < W.heap.size := fun j hj => by rw [List.mem_singleton.1 hj]; exact hgW
      simp only [sluC] at hcell
      repeat (first | (refine M0 ?_; first | refine SL ?_ | refine SB fun _ _ => ?_ | refine Y4 (Ev.load_old_agg tok _ rfl rfl rfl (add_lt hlt) hcell) ?_ | refine Y4 (Ev.makeI slu_con rfl) ?_ | refine XL.buildSlice tok rfl rfl rfl rfl rfl rfl rfl rfl rfl (fun _ _ => ?_)) | (refine M1 ?_; first | refine SC ?_ | refine SD ?_) | (refine M2 ?_; refine SE ?_) | (refine M3 ?_; first | refine SG ?_ | refine SF ?_ | refine YF (Ev.load_old_agg tok _ rfl rfl rfl (add_lt hlt) hcell) ?_ | refine YF (Ev.makeI slu_con rfl) ?_) | (refine M4 ?_; refine SR ?_) | (refine M5 ?_; first | exact M7 | refine YM ?_ | refine YN ?_ ?_))
      refine XL.push (K := devK) (a := Dev.slu x) (wE := w) 0 dev_el (by decide) rfl rfl rfl hF rfl hks hBW (Nat.le_refl _) rfl (hl1 _ (by rw [List.length_map, List.length_take]; omega)) (by decide) (ha1 _) (fun W1 u1 hF1 hB1 hk1 => ?_)
      repeat (first | (refine M0 ?_; first | refine SL ?_ | refine SB fun _ _ => ?_) | (refine M1 ?_; first | refine SC ?_ | refine SD ?_) | (refine M2 ?_; refine SE ?_) | (refine M3 ?_; first | refine SG ?_ | refine SF ?_) | (refine M4 ?_; refine SR ?_) | (refine M5 ?_; first | exact M7 | refine YM ?_ | refine YN ?_ ?_))
      refine XE.roundW (s := (k, W, v)) (fun w6 S6 => ⟨(k + 1, w6, u1), ⟨hkn, ?_, hB1.trans S6.toBelow, S6.keyLt g1 (by simp)⟩, by simp only; omega, ZZSUB, S6.rebase ZZSL⟩)
      simp only [take_map_succ Dev.slu hkn, ← hx]
      exact Fam.add (Fam.sys hF1 S6 ZZHL) ZZHK
    · have hkn : k = t.slu.length := by have : ¬ (k < t.slu.length) := by simpa using h1
                                        omega
      subst hkn
      rw [List.take_length] at hF
      repeat (first | (refine M0 ?_; first | refine SL ?_ | refine SB fun _ _ => ?_) | (refine M1 ?_; first | refine SC ?_ | refine SD ?_) | (refine M2 ?_; refine SE ?_) | (refine M3 ?_; first | refine SG ?_ | refine SF ?_) | (refine M4 ?_; refine SR ?_) | (refine M5 ?_; first | exact M7 | refine YM ?_ | refine YN ?_ ?_))
      refine XC.rebase (List.Sublist.refl _) (fun W2 S2 => ?_)
      refine XC.loopk [21, 22] rfl (fun s : Nat × World × Value => [(23, .int .i64 (s.1 : Nat)), (2, s.2.2)]) (fun s => [(g1, _)]) (fun s => s.2.1)
        (fun s => s.1 ≤ t.pmp.length ∧ Fam s.2.1 w.heap.size [g1] [⟨Dev, devK, s.2.2, t.slu.map Dev.slu ++ (t.pmp.take s.1).map Dev.pmp⟩] [] ∧ Below w.heap.size w s.2.1 ∧ g1 < s.2.1.heap.size)
        (fun s => t.pmp.length - s.1) (0, W2, v) ⟨Nat.zero_le _, by simpa using hF.sys S2 ZZHL, hBW.trans S2.toBelow, S2.keyLt g1 (by simp)⟩ ZZSUB (fun _ h => h) ?_
      rintro ⟨k, W, v⟩ ⟨hk, hF, hBW, hgW⟩
      simp only at hk hF hBW hgW
      dsimp only [List.cons_append, List.nil_append]
      repeat (first | (refine M0 ?_; first | refine SL ?_ | refine SB fun _ _ => ?_) | (refine M1 ?_; first | refine SC ?_ | refine SD ?_) | (refine M2 ?_; refine SE ?_) | (refine M3 ?_; first | refine SG ?_ | refine SF ?_) | (refine M4 ?_; refine SR ?_) | (refine M5 ?_; first | exact M7 | refine YM ?_ | refine YN ?_ ?_))
      refine XC.cond _ rfl (fun h1 => ?_) (fun h1 => ?_)
      · have hkn : k < t.pmp.length := by simpa using h1
        obtain ⟨ad, rfl, hlt⟩ := hpl.addr (by decide) (by omega)
        obtain ⟨x, hx⟩ : ∃ x, x = t.pmp[k] := ⟨_, rfl⟩
        have hcell : ∀ j u, (pmpC x)[j]? = some u → W.cell? ((ad.add (k * 5)).add j) = some u := by rw [hx]; exact (hpl.below hBW).elem (List.getElem?_eq_getElem hkn)
        have hks : ∀ j, j ∈ [g1] → j < W.heap.size := fun j hj => by rw [List.mem_singleton.1 hj]; exact hgW
        simp only [pmpC] at hcell
        repeat (first | (refine M0 ?_; first | refine SL ?_ | refine SB fun _ _ => ?_ | refine Y4 (Ev.load_old_agg tok _ rfl rfl rfl (add_lt hlt) hcell) ?_ | refine Y4 (Ev.makeI pmp_con rfl) ?_ | refine XL.buildSlice tok rfl rfl rfl rfl rfl rfl rfl rfl rfl (fun _ _ => ?_)) | (refine M1 ?_; first | refine SC ?_ | refine SD ?_) | (refine M2 ?_; refine SE ?_) | (refine M3 ?_; first | refine SG ?_ | refine SF ?_ | refine YF (Ev.load_old_agg tok _ rfl rfl rfl (add_lt hlt) hcell) ?_ | refine YF (Ev.makeI pmp_con rfl) ?_) | (refine M4 ?_; refine SR ?_) | (refine M5 ?_; first | exact M7 | refine YM ?_ | refine YN ?_ ?_))
        refine XL.push (K := devK) (a := Dev.pmp x) (wE := w) 0 dev_el (by decide) rfl rfl rfl hF rfl hks hBW (Nat.le_refl _) rfl (hl1 _ (by rw [List.length_append, List.length_map, List.length_map, List.length_take]; omega)) (by decide) (ha1 _) (fun W1 u1 hF1 hB1 hk1 => ?_)
        repeat (first | (refine M0 ?_; first | refine SL ?_ | refine SB fun _ _ => ?_) | (refine M1 ?_; first | refine SC ?_ | refine SD ?_) | (refine M2 ?_; refine SE ?_) | (refine M3 ?_; first | refine SG ?_ | refine SF ?_) | (refine M4 ?_; refine SR ?_) | (refine M5 ?_; first | exact M7 | refine YM ?_ | refine YN ?_ ?_))
        refine XE.roundW (s := (k, W, v)) (fun w6 S6 => ⟨(k + 1, w6, u1), ⟨hkn, ?_, hB1.trans S6.toBelow, S6.keyLt g1 (by simp)⟩, by simp only; omega, ZZSUB, S6.rebase ZZSL⟩)
        simp only [take_map_succ Dev.pmp hkn, ← hx, ← List.append_assoc]
        exact Fam.add (Fam.sys hF1 S6 ZZHL) ZZHK
      · have hkn : k = t.pmp.length := by have : ¬ (k < t.pmp.length) := by simpa using h1
                                          omega
        subst hkn
        rw [List.take_length] at hF
        repeat (first | (refine M0 ?_; first | refine SL ?_ | refine SB fun _ _ => ?_) | (refine M1 ?_; first | refine SC ?_ | refine SD ?_) | (refine M2 ?_; refine SE ?_) | (refine M3 ?_; first | refine SG ?_ | refine SF ?_) | (refine M4 ?_; refine SR ?_) | (refine M5 ?_; first | exact M7 | refine YM ?_ | refine YN ?_ ?_))
        refine XE.retg tok Try.results43 rfl (by simp only [and_self, and_true]) (fun w' S => ?_)
        have hF6 := hF.sys S ZZHL
        obtain ⟨r1, rfl, h5⟩ := hF6.list (.head _)
        exact ⟨_, _, rfl, ⟨r1, rfl, rfl, fun h0 => hF6.cap (r := r1) (.head _) h0⟩, fun x hx => by rw [List.mem_singleton.1 hx]; exact h5, hBW.trans S.toBelow⟩
/-! ### kinds -/
def isS : Dev → Bool
  | .slu _ => true
  | .pmp _ => false
def isP (d : Dev) : Bool := !isS d
theorem countP_succ (f : Dev → Bool) {l : List Dev} {k : Nat} (h : k < l.length) : (l.take (k + 1)).countP f = (l.take k).countP f + (if f l[k] = true then 1 else 0) := by
  rw [List.take_add_one, List.getElem?_eq_getElem h, List.countP_append]
  congr 1
  simp [List.countP_cons]
theorem count_devs (t : RTk) : t.devs.countP isS = t.slu.length ∧ t.devs.countP isP = t.pmp.length := by
  unfold RTk.devs
  rw [List.countP_append, List.countP_append, List.countP_map, List.countP_map, List.countP_map, List.countP_map]
  have e1 : t.slu.countP (isS ∘ Dev.slu) = t.slu.length := List.countP_eq_length.2 fun _ _ => rfl
  have e2 : t.pmp.countP (isS ∘ Dev.pmp) = 0 := List.countP_eq_zero.2 fun _ _ => by simp [isS]
  have e3 : t.slu.countP (isP ∘ Dev.slu) = 0 := List.countP_eq_zero.2 fun _ _ => by simp [isP, isS]
  have e4 : t.pmp.countP (isP ∘ Dev.pmp) = t.pmp.length := List.countP_eq_length.2 fun _ _ => rfl
  omega
set_option maxHeartbeats 4000000 in
theorem kinds_any {r : SV} {ds : List Dev} {w : World} (hr : ListAt devK w (Lt w.heap.size) r ds) (hn : ds.length ≤ 10000000) :
    Calls Try.prog 44 #[svV r] w fun e w' => e = .returned (.tuple ⟨[.int .i64 (ds.countP isS : Nat), .int .i64 (ds.countP isP : Nat)]⟩) ∧ Below w.heap.size w w' := by
  obtain ⟨A, n, c⟩ := r
  have hln := hr.len (by decide)
  simp only at hln
  subst hln
  simp only [svV]
  refine enter Try.func44 rfl Try.ntmps44 rfl ?_; simp only [frame, Nat.zero_add, Nat.reduceAdd]
  repeat (first | (refine M0 ?_; first | refine SL ?_ | refine SB fun _ _ => ?_) | (refine M1 ?_; first | refine SC ?_ | refine SD ?_) | (refine M2 ?_; refine SE ?_) | (refine M3 ?_; first | refine SG ?_ | refine SF ?_) | (refine M4 ?_; refine SR ?_) | (refine M5 ?_; first | exact M7 | refine YM ?_ | refine YN ?_ ?_))
  refine XC.loopk [6, 7] rfl (fun k : Nat => [(2, .int .i64 ((ds.take k).countP isS : Nat)), (3, .int .i64 ((ds.take k).countP isP : Nat)), (8, .int .i64 (k : Nat))]) (fun _ => []) (fun _ => w) (fun k => k ≤ ds.length) (fun k => ds.length - k) 0 (Nat.zero_le _) ZZSUB (fun _ h => h) ?_
  intro k hk
  dsimp only [List.cons_append, List.nil_append]
  repeat (first | (refine M0 ?_; first | refine SL ?_ | refine SB fun _ _ => ?_) | (refine M1 ?_; first | refine SC ?_ | refine SD ?_) | (refine M2 ?_; refine SE ?_) | (refine M3 ?_; first | refine SG ?_ | refine SF ?_) | (refine M4 ?_; refine SR ?_) | (refine M5 ?_; first | exact M7 | refine YM ?_ | refine YN ?_ ?_))
  refine XC.cond _ rfl (fun h1 => ?_) (fun h1 => ?_)
  · have hkn : k < ds.length := by simpa using h1
    obtain ⟨ad, rfl, hlt⟩ := hr.addr (by decide) (by omega)
    have h9 := hr.elem (List.getElem?_eq_getElem hkn) 0 (devV ds[k]) rfl
    rw [add_add, Nat.add_zero] at h9
    have h9' : w.cell? (ad.add (k * 1)) = some (devV ds[k]) := h9
    have b1 := List.countP_le_length (p := isS) (l := ds.take k)
    have b2 := List.countP_le_length (p := isP) (l := ds.take k)
    have b3 : (ds.take k).length ≤ ds.length := by rw [List.length_take]; omega
    have c1 := countP_succ isS hkn
    have c2 := countP_succ isP hkn
    cases hd : ds[k] with
    | slu x =>
      rw [hd] at h9' c1 c2
      simp only [isS, isP, if_true, Bool.not_true, Bool.false_eq_true, if_false, Nat.add_zero] at c1 c2
      repeat (first | (refine M0 ?_; first | refine SL ?_ | refine SB fun _ _ => ?_ | refine Y4 (Ev.load_old tok rfl rfl (add_lt hlt) h9') ?_ | refine Y4 (Ev.assertOk (s := 156) (v := .agg ⟨sluC x⟩) rfl slu_con tok rfl (.tuple ⟨[.agg ⟨sluC x⟩, .bool true]⟩) (if_pos rfl).symm) ?_) | (refine M1 ?_; first | refine SC ?_ | refine SD ?_) | (refine M2 ?_; refine SE ?_) | (refine M3 ?_; first | refine SG ?_ | refine SF ?_ | refine YF (Ev.load_old tok rfl rfl (add_lt hlt) h9') ?_ | refine YF (Ev.assertOk (s := 156) (v := .agg ⟨sluC x⟩) rfl slu_con tok rfl (.tuple ⟨[.agg ⟨sluC x⟩, .bool true]⟩) (if_pos rfl).symm) ?_) | (refine M4 ?_; refine SR ?_) | (refine M5 ?_; first | exact M7 | refine YM ?_ | refine YN ?_ ?_))
      exact XE.round (k + 1) hkn (by omega) (by rw [c1, c2]; repeat (first | exact Sub.nil | refine Sub.cons rfl ?_)) (fun _ h => h)
    | pmp x =>
      rw [hd] at h9' c1 c2
      simp only [isS, isP, if_true, Bool.not_false, Bool.false_eq_true, if_false, Nat.add_zero] at c1 c2
      repeat (first | (refine M0 ?_; first | refine SL ?_ | refine SB fun _ _ => ?_ | refine Y4 (Ev.load_old tok rfl rfl (add_lt hlt) h9') ?_ | refine Y4 (Ev.assertOk (u := 156) (s := 157) (v := .agg ⟨pmpC x⟩) rfl slu_con tok rfl (.tuple ⟨[_, .bool false]⟩) (if_neg (by decide)).symm) ?_ | refine Y4 (Ev.assertOk (u := 157) (s := 157) (v := .agg ⟨pmpC x⟩) rfl pmp_con tok rfl (.tuple ⟨[.agg ⟨pmpC x⟩, .bool true]⟩) (if_pos rfl).symm) ?_) | (refine M1 ?_; first | refine SC ?_ | refine SD ?_) | (refine M2 ?_; refine SE ?_) | (refine M3 ?_; first | refine SG ?_ | refine SF ?_ | refine YF (Ev.load_old tok rfl rfl (add_lt hlt) h9') ?_ | refine YF (Ev.assertOk (u := 156) (s := 157) (v := .agg ⟨pmpC x⟩) rfl slu_con tok rfl (.tuple ⟨[_, .bool false]⟩) (if_neg (by decide)).symm) ?_ | refine YF (Ev.assertOk (u := 157) (s := 157) (v := .agg ⟨pmpC x⟩) rfl pmp_con tok rfl (.tuple ⟨[.agg ⟨pmpC x⟩, .bool true]⟩) (if_pos rfl).symm) ?_) | (refine M4 ?_; refine SR ?_) | (refine M5 ?_; first | exact M7 | refine YM ?_ | refine YN ?_ ?_))
      exact XE.round (k + 1) hkn (by omega) (by rw [c1, c2]; repeat (first | exact Sub.nil | refine Sub.cons rfl ?_)) (fun _ h => h)
  · have hkn : k = ds.length := by have : ¬ (k < ds.length) := by simpa using h1
                                   omega
    subst hkn
    rw [List.take_length]
    repeat (first | (refine M0 ?_; first | refine SL ?_ | refine SB fun _ _ => ?_) | (refine M1 ?_; first | refine SC ?_ | refine SD ?_) | (refine M2 ?_; refine SE ?_) | (refine M3 ?_; first | refine SG ?_ | refine SF ?_) | (refine M4 ?_; refine SR ?_) | (refine M5 ?_; first | exact M7 | refine YM ?_ | refine YN ?_ ?_))
    refine XE.retg tok Try.results44 rfl (by simp only [and_self, and_true]) (fun w' S => ?_)
    exact ⟨rfl, S.toBelow⟩
/-! ### is it there already -/
set_option maxHeartbeats 4000000 in
theorem rncheck1_any {g : Nat} {c d : Dev} {w : World} (h : w.heap[g]? = some (cel 107 [devV d])) :
    Calls Try.prog 47 #[devV c, .pointer (some ⟨g, 0, none⟩)] w fun e w' => e = .returned (.bool (decide (c.name = d.name))) ∧ Below w.heap.size w w' := by
  have hl := (Array.getElem?_eq_some_iff.1 h).1
  have d0 : w.cell? ⟨g, 0, none⟩ = some (devV d) := by simp [World.cell?, h]
  obtain ⟨f1, m1, k1, c1⟩ := dev_name c
  obtain ⟨f2, m2, k2, c2⟩ := dev_name d
  refine enter Try.func47 rfl Try.ntmps47 rfl ?_; simp only [frame, Nat.zero_add, Nat.reduceAdd]
  repeat (first | (refine M0 ?_; first | refine SL ?_ | refine SB fun _ _ => ?_ | refine Y4 (Ev.load_old tok rfl rfl hl d0) ?_ | refine Y4 (Ev.invoke (t := c.ty) (v := .agg ⟨c.c⟩) m1 k1 rfl rfl (fun w S => c1 w)) ?_ | refine Y4 (Ev.invoke (t := d.ty) (v := .agg ⟨d.c⟩) m2 k2 rfl rfl (fun w S => c2 w)) ?_ | refine Y4 (Ev.eql_str rfl rfl) ?_) | (refine M1 ?_; first | refine SC ?_ | refine SD ?_) | (refine M2 ?_; refine SE ?_) | (refine M3 ?_; first | refine SG ?_ | refine SF ?_ | refine YF (Ev.load_old tok rfl rfl hl d0) ?_ | refine YF (Ev.invoke (t := c.ty) (v := .agg ⟨c.c⟩) m1 k1 rfl rfl (fun w S => c1 w)) ?_ | refine YF (Ev.invoke (t := d.ty) (v := .agg ⟨d.c⟩) m2 k2 rfl rfl (fun w S => c2 w)) ?_ | refine YF (Ev.eql_str rfl rfl) ?_) | (refine M4 ?_; refine SR ?_) | (refine M5 ?_; first | exact M7 | refine YM ?_ | refine YN ?_ ?_))
  refine XE.retg tok Try.results47 rfl (by simp only [and_self, and_true]) (fun w' S => ?_)
  exact ⟨rfl, S.toBelow⟩
theorem idxDev {f : FuncId} {cap : List Value} {P : Dev → Bool} {r : SV} {ms : List Dev} {w : World} (hck : callOk Try.prog f = true) (hr : ListAt devK w (Lt w.heap.size) r ms) (hn : ms.length ≤ 1000)
    (hc : ∀ m, m ∈ ms → ∀ w', Below w.heap.size w w' → Calls Try.prog f ([] ++ [devV m] ++ cap).toArray w' fun e w'' => e = .returned (.bool (P m)) ∧ Below w'.heap.size w' w'') :
    Calls Try.prog 74 #[svV r, .func (.func f) #[] cap.toArray] w fun e w' => e = .returned (.int .i64 (idxL ms P)) ∧ Below w.heap.size w w' := by
  obtain ⟨A, n, c⟩ := r
  have hln := hr.len (by decide)
  simp only at hln
  subst hln
  simp only [svV]
  refine enter Try.func74 rfl Try.ntmps74 rfl ?_; simp only [frame, Nat.zero_add, Nat.reduceAdd]
  repeat (first | (refine M0 ?_; first | refine SL ?_ | refine SB fun _ _ => ?_) | (refine M1 ?_; first | refine SC ?_ | refine SD ?_) | (refine M2 ?_; refine SE ?_) | (refine M3 ?_; first | refine SG ?_ | refine SF ?_) | (refine M4 ?_; refine SR ?_) | (refine M5 ?_; first | exact M7 | refine YM ?_ | refine YN ?_ ?_))
  refine XC.loopk [0, 1, 7] rfl (fun k : Nat => [(8, .int .i64 (k : Nat))]) (fun _ => []) (fun _ => w) (fun k => k ≤ ms.length ∧ ∀ j m, j < k → ms[j]? = some m → P m = false) (fun k => ms.length - k) 0 ⟨Nat.zero_le _, fun j m h => absurd h (by omega)⟩ ZZSUB (fun _ h => h) ?_
  rintro k ⟨hk, h0⟩
  dsimp only [List.cons_append, List.nil_append]
  repeat (first | (refine M0 ?_; first | refine SL ?_ | refine SB fun _ _ => ?_) | (refine M1 ?_; first | refine SC ?_ | refine SD ?_) | (refine M2 ?_; refine SE ?_) | (refine M3 ?_; first | refine SG ?_ | refine SF ?_) | (refine M4 ?_; refine SR ?_) | (refine M5 ?_; first | exact M7 | refine YM ?_ | refine YN ?_ ?_))
  refine XC.cond _ rfl (fun h3 => ?_) (fun h3 => ?_)
  · have hkn : k < ms.length := by simpa using h3
    obtain ⟨ad, rfl, hlt⟩ := hr.addr (by decide) (by omega)
    have hmk : ms[k]? = some ms[k] := List.getElem?_eq_getElem hkn
    have h9 := hr.elem hmk 0 (devV ms[k]) rfl
    rw [add_add, Nat.add_zero] at h9
    have hcell : w.cell? (ad.add (k * 1)) = some (devV ms[k]) := h9
    repeat (first | (refine M0 ?_; first | refine SL ?_ | refine SB fun _ _ => ?_ | refine Y4 (Ev.load_old tok rfl rfl (add_lt hlt) hcell) ?_ | refine Y4 (Ev.callv (f := f) (fst := []) (cap := cap) hck rfl rfl (fun w S => hc _ (List.getElem_mem hkn) w S.toBelow)) ?_) | (refine M1 ?_; first | refine SC ?_ | refine SD ?_) | (refine M2 ?_; refine SE ?_) | (refine M3 ?_; first | refine SG ?_ | refine SF ?_ | refine YF (Ev.load_old tok rfl rfl (add_lt hlt) hcell) ?_ | refine YF (Ev.callv (f := f) (fst := []) (cap := cap) hck rfl rfl (fun w S => hc _ (List.getElem_mem hkn) w S.toBelow)) ?_) | (refine M4 ?_; refine SR ?_) | (refine M5 ?_; first | exact M7 | refine YM ?_ | refine YN ?_ ?_))
    refine XC.cond _ rfl (fun h4 => ?_) (fun h4 => ?_)
    · repeat (first | (refine M0 ?_; first | refine SL ?_ | refine SB fun _ _ => ?_) | (refine M1 ?_; first | refine SC ?_ | refine SD ?_) | (refine M2 ?_; refine SE ?_) | (refine M3 ?_; first | refine SG ?_ | refine SF ?_) | (refine M4 ?_; refine SR ?_) | (refine M5 ?_; first | exact M7 | refine YM ?_ | refine YN ?_ ?_))
      refine XE.retg tok Try.results74 rfl (by simp only [and_self, and_true]) (fun w' S => ?_)
      have : ms.findIdx? P = some k := by
        rw [List.findIdx?_eq_some_iff_getElem]
        exact ⟨hkn, h4, fun j hj => by simpa using h0 j _ hj (List.getElem?_eq_getElem (by omega))⟩
      unfold idxL
      rw [this]
      exact ⟨rfl, S.toBelow⟩
    · repeat (first | (refine M0 ?_; first | refine SL ?_ | refine SB fun _ _ => ?_) | (refine M1 ?_; first | refine SC ?_ | refine SD ?_) | (refine M2 ?_; refine SE ?_) | (refine M3 ?_; first | refine SG ?_ | refine SF ?_) | (refine M4 ?_; refine SR ?_) | (refine M5 ?_; first | exact M7 | refine YM ?_ | refine YN ?_ ?_))
      refine XE.round (k + 1) ⟨hkn, fun j m hj hm => ?_⟩ (by omega) ZZSUB (fun _ h => h)
      rcases Nat.lt_or_ge j k with h5 | h5
      · exact h0 j m h5 hm
      · have : j = k := by omega
        subst this
        rw [hmk] at hm
        cases hm
        exact h4
  · have hkn : ¬ k < ms.length := by simpa using h3
    repeat (first | (refine M0 ?_; first | refine SL ?_ | refine SB fun _ _ => ?_) | (refine M1 ?_; first | refine SC ?_ | refine SD ?_) | (refine M2 ?_; refine SE ?_) | (refine M3 ?_; first | refine SG ?_ | refine SF ?_) | (refine M4 ?_; refine SR ?_) | (refine M5 ?_; first | exact M7 | refine YM ?_ | refine YN ?_ ?_))
    refine XE.retg tok Try.results74 rfl (by simp only [and_self, and_true]) (fun w' S => ?_)
    have : ms.findIdx? P = none := by
      rw [List.findIdx?_eq_none_iff]
      intro m hm
      obtain ⟨j, hj, e⟩ := List.mem_iff_getElem.1 hm
      exact h0 j m (by omega) (by rw [List.getElem?_eq_getElem hj, e])
    unfold idxL
    rw [this]
    exact ⟨rfl, S.toBelow⟩
theorem contDev {f : FuncId} {cap : List Value} {P : Dev → Bool} {r : SV} {ms : List Dev} {w : World} (hck : callOk Try.prog f = true) (hr : ListAt devK w (Lt w.heap.size) r ms) (hn : ms.length ≤ 1000)
    (hc : ∀ m, m ∈ ms → ∀ w', Below w.heap.size w w' → Calls Try.prog f ([] ++ [devV m] ++ cap).toArray w' fun e w'' => e = .returned (.bool (P m)) ∧ Below w'.heap.size w' w'') :
    Calls Try.prog 46 #[svV r, .func (.func f) #[] cap.toArray] w fun e w' => e = .returned (.bool (ms.any P)) ∧ Below w.heap.size w w' := by
  obtain ⟨A, n, c⟩ := r
  simp only [svV]
  refine enter Try.func46 rfl Try.ntmps46 rfl ?_; simp only [frame, Nat.zero_add, Nat.reduceAdd]
  repeat (first | (refine M0 ?_; first | refine SL ?_ | refine SB fun _ _ => ?_ | refine Y4 (Ev.call (f := 74) (ck rfl) rfl (fun w5 S5 => (idxDev (f := f) (cap := cap) (P := P) (r := ⟨A, n, c⟩) (ms := ms) hck (hr.arg S5) hn (fun m hm w' hb => hc m hm w' (S5.toBelow.trans (hb.mono S5.size))) :))) ?_) | (refine M1 ?_; first | refine SC ?_ | refine SD ?_) | (refine M2 ?_; refine SE ?_) | (refine M3 ?_; first | refine SG ?_ | refine SF ?_ | refine YF (Ev.call (f := 74) (ck rfl) rfl (fun w5 S5 => (idxDev (f := f) (cap := cap) (P := P) (r := ⟨A, n, c⟩) (ms := ms) hck (hr.arg S5) hn (fun m hm w' hb => hc m hm w' (S5.toBelow.trans (hb.mono S5.size))) :))) ?_) | (refine M4 ?_; refine SR ?_) | (refine M5 ?_; first | exact M7 | refine YM ?_ | refine YN ?_ ?_))
  refine XE.retg tok Try.results46 rfl (by simp only [and_self, and_true]) (fun w' S => ?_)
  exact ⟨by rw [idxL_any]; rfl, S.toBelow⟩
end Go.Proofs.Ytmckmlmfilmiaaa.X
