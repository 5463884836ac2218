/-
  Rows that take whole lists; rows that are built or made; a slice from a place on.
-/
import Derived.Test.YtmpaiphakjogjaaPart2
import Derived.Laws.MakeOwn
import Derived.Scope
import Derived.Laws.Small
import Derived.DeepKeys3
import Derived.Laws.CopyRow
import Derived.Laws.IdiomCopy
import Derived.OrdersIn
import Derived.Test.YtmpaiphakjogjaaPart1
import Derived.Test.YtmpaiphakjogjaaProg
import Derived.WalkKit
import Derived.LaidEql
import Derived.Stop.Asserts
import Derived.RowKitTokens
import Derived.KernelRfl
import Derived.Laws.StructEq
set_option linter.unusedVariables false
set_option linter.unusedSimpArgs false
namespace Go.Proofs.Ytmpaiphakjogjaa.X
open Go Go.RowKit
set_option linter.unusedVariables false
section
variable {W W' w w0 w1 w2 : World} {b0 B : Nat} {ks ks' : List Nat} {rs : List RowX} {hs hs' : List Held} {L : Lo}
/-- a row takes a list. -/
theorem Fam.pushL {α : Type} {K : Kind α} {v v' : Value} {l l2 : List α} {i : Nat} (h : Fam W b0 ks rs hs) (hi : rs[i]? = some ⟨α, K, v, l⟩) (ha : ∀ a, a ∈ l2 → ∀ x, x ∈ K.sl a → x.p W (Free W b0 ks rs)) (hrow : W'.ownsRow b0 K.ty K.m v' (l.length + l2.length) (l.flatMap K.c ++ l2.flatMap K.c))
    (hsz : W.heap.size ≤ W'.heap.size) (ho : ∀ j, j < W.heap.size → j ∉ ks → v.ownBlock ≠ some j → W'.heap[j]? = W.heap[j]?) (hfr : ∀ k, v'.ownBlock = some k → v.ownBlock = some k ∨ (W.heap.size ≤ k ∧ k ∉ ks)) :
    Fam W' b0 ks (rs.set i ⟨α, K, v', l ++ l2⟩) hs := by
  have hm : ∀ r, r ∈ rs.set i ⟨α, K, v', l ++ l2⟩ → r = ⟨α, K, v', l ++ l2⟩ ∨ (r ∈ rs ∧ ∀ k, r.v.ownBlock = some k → v.ownBlock ≠ some k) := fun r hr => by
    obtain ⟨j, hj, rfl⟩ := List.mem_iff_getElem.1 hr
    by_cases hij : i = j
    · subst hij; left; simp
    · right
      rw [List.getElem_set_ne hij]
      simp at hj
      refine ⟨List.getElem_mem _, fun k hk h2 => ?_⟩
      obtain ⟨hil, hie⟩ := List.getElem?_eq_some_iff.1 hi
      have hp := List.pairwise_iff_getElem.1 h.two
      rcases Nat.lt_or_gt_of_ne hij with h3 | h3
      · have := hp i j hil hj h3 k (by rw [hie]; exact h2)
        exact this hk
      · have := hp j i hj hil h3 k hk
        rw [hie] at this
        exact this h2
  have hri : (⟨α, K, v, l⟩ : RowX) ∈ rs := List.mem_of_getElem? hi
  have hf : ∀ j, Free W b0 ks rs j → Free W' b0 ks (rs.set i ⟨α, K, v', l ++ l2⟩) j := fun j hj => ⟨hj.1, by have := hj.2.1; omega, hj.2.2.1, fun r hr h1 => by
    rcases hm r hr with rfl | ⟨h2, _⟩
    · rcases hfr j h1 with h3 | h3
      · exact hj.2.2.2 _ hri h3
      · have := hj.2.1; omega
    · exact hj.2.2.2 r h2 h1⟩
  have hk : ∀ j, Free W b0 ks rs j → W'.heap[j]? = W.heap[j]? := fun j hj => ho j hj.2.1 hj.2.2.1 fun h1 => hj.2.2.2 _ hri h1
  refine ⟨Nat.le_trans h.base hsz, fun r hr => ?_, fun r hr k h1 => ?_, ?_, fun r hr b hb x hx => ?_, fun x hx => x.mono (x.keep (h.held x hx) hk) hf⟩
  · rcases hm r hr with rfl | ⟨h2, h3⟩
    · simpa using hrow
    · exact owns_move' (h.row r h2) fun k h4 => ho k (h.lt h2 h4).2 (h.sep r h2 k h4) (h3 k h4)
  · rcases hm r hr with rfl | ⟨h2, h3⟩
    · rcases hfr k h1 with h4 | h4
      · exact h.sep _ hri k h4
      · exact h4.2
    · exact h.sep r h2 k h1
  · rw [List.pairwise_iff_getElem]
    have hp := List.pairwise_iff_getElem.1 h.two
    obtain ⟨hil, hie⟩ := List.getElem?_eq_some_iff.1 hi
    intro p q hpl hql hpq k hk1 hk2
    simp at hpl hql
    by_cases h1 : i = p
    · subst h1
      have h2 : i ≠ q := by omega
      rw [List.getElem_set_ne h2] at hk2
      simp at hk1
      rcases hfr k hk1 with h4 | h4
      · exact hp i q hpl hql hpq k (by rw [hie]; exact h4) hk2
      · have := (h.lt (List.getElem_mem hql) hk2).2; omega
    · by_cases h2 : i = q
      · subst h2
        rw [List.getElem_set_ne h1] at hk1
        simp at hk2
        rcases hfr k hk2 with h4 | h4
        · have := hp p i hpl hql hpq k hk1
          rw [hie] at this
          exact this h4
        · have := (h.lt (List.getElem_mem hpl) hk1).2; omega
      · rw [List.getElem_set_ne h1] at hk1
        rw [List.getElem_set_ne h2] at hk2
        exact hp p q hpl hql hpq k hk1 hk2
  · rcases hm r hr with rfl | ⟨h2, h3⟩
    · rcases List.mem_append.1 hb with h4 | h4
      · exact x.mono (x.keep (h.ins _ hri b h4 x hx) hk) hf
      · exact x.mono (x.keep (ha b h4 x hx) hk) hf
    · exact x.mono (x.keep (h.ins r h2 b hb x hx) hk) hf
theorem svV_inj {r q : SV} (h : svV r = svV q) : r = q := by
  obtain ⟨a, b, c⟩ := r
  obtain ⟨a', b', c'⟩ := q
  simp only [svV, Value.slice.injEq] at h
  obtain ⟨rfl, rfl, rfl⟩ := h
  rfl
theorem Fam.listOf {α : Type} {K : Kind α} {r : SV} {l : List α} (h : Fam W b0 ks rs hs) (hr : (⟨α, K, svV r, l⟩ : RowX) ∈ rs) : ListAt K W (Btw b0 W.heap.size) r l := by
  obtain ⟨q, e, h1⟩ := h.list hr
  rw [svV_inj e]
  exact h1
/-- a new row. -/
theorem Fam.fresh {α : Type} {K : Kind α} {v : Value} {l : List α} (h : Fam W b0 ks rs hs) (hsz : W.heap.size ≤ W'.heap.size) (ho : ∀ j, j < W.heap.size → j ∉ ks → W'.heap[j]? = W.heap[j]?) (hrow : W'.ownsRow b0 K.ty K.m v l.length (l.flatMap K.c))
    (hv : ∀ k, v.ownBlock = some k → W.heap.size ≤ k ∧ k ∉ ks) (ha : ∀ a, a ∈ l → ∀ x, x ∈ K.sl a → x.p W (Free W b0 ks rs)) : Fam W' b0 ks (⟨α, K, v, l⟩ :: rs) hs := by
  have h1 := h.move hsz ho
  have hf : ∀ j, Free W b0 ks rs j → Free W' b0 ks (⟨α, K, v, l⟩ :: rs) j := fun j hj => ⟨hj.1, by have := hj.2.1; omega, hj.2.2.1, fun r hr h2 => by
    rcases List.mem_cons.1 hr with rfl | hr
    · have := (hv j h2).1; have := hj.2.1; omega
    · exact hj.2.2.2 r hr h2⟩
  have hk : ∀ j, Free W b0 ks rs j → W'.heap[j]? = W.heap[j]? := fun j hj => ho j hj.2.1 hj.2.2.1
  refine ⟨h1.base, fun r hr => ?_, fun r hr k h2 => ?_, .cons (fun r hr k h2 h3 => ?_) h.two, fun r hr a hb x hx => ?_, fun x hx => x.mono (x.keep (h.held x hx) hk) hf⟩
  · rcases List.mem_cons.1 hr with rfl | hr
    · exact hrow
    · exact h1.row r hr
  · rcases List.mem_cons.1 hr with rfl | hr
    · exact (hv k h2).2
    · exact h.sep r hr k h2
  · have := (hv k h2).1; have := (h.lt hr h3).2; omega
  · rcases List.mem_cons.1 hr with rfl | hr
    · exact x.mono (x.keep (ha a hb x hx) hk) hf
    · exact x.mono (x.keep (h.ins r hr a hb x hx) hk) hf
end
section
variable {P : Program} {T : TT} {N : Nat} {B : Nat} {w0 : World} {ds : List Deferred} {Q : Exit → Act → World → Prop} {F : Fr} {L : Lo} {pu : Prop} {ops : Array Oper} {rest : List Oper} {ty : TypeId} {p : String} {af : Array Edge}
variable {dst : Option Tmp} {gd : Option (Nat × Bool)}
theorem XL.weak1 {t : Nat} {u : Value} (h : XL P N B w0 ds Q ops rest F L) : XL P N B w0 ds Q ops rest ((1000000 + t, u) :: F) L :=
  ⟨fun a w hf hs => h.run a w ⟨hf.size, hf.defers, fun t' v ht hv => hf.get t' v ht (by
    unfold lk
    have : Nat.beq (1000000 + t) t' = false := by
      cases hb : Nat.beq (1000000 + t) t' with
      | false => rfl
      | true => have := Nat.eq_of_beq_eq_true hb; omega
    rw [this]
    exact hv)⟩ hs⟩
/-- a slice literal is a new row. -/
theorem XL.newRow (hT : TOK P T) {α : Type} {K : Kind α} {l : List α} {d : Nat} {t e : TypeId} {n size b0 : Nat} {ps : List (Nat × Operand)} {z : Value} {zs cs : List Value} {ks : List Nat} {rs : List RowX} {hs : List Held} {wE : World}
    (hs' : lkG T.sl t = some (e, size)) (hz : lkG T.zero e = some z) (hzs : cellsO z = some zs) (hsz : Nat.beq zs.length size = true) (h0 : Nat.blt 0 size = true) (hbig : Nat.ble (n * size) 16777216 = true) {zl : List Value} (hzl : zerosO zs n = some zl) (hc : fillS F size zl ps = some cs) (hd : Nat.blt d N = true)
    (hK : K.ty = e ∧ K.m = size) (hcs : cs = l.flatMap K.c) (hn : l.length = n) (hF : Fam w0 b0 ks rs hs) (hks : ∀ k, k ∈ ks → k < w0.heap.size) (hbl : Below B wE w0) (hb0 : b0 ≤ w0.heap.size) (ha : ∀ a, a ∈ l → ∀ x, x ∈ K.sl a → x.p w0 (Free w0 b0 ks rs))
    (k : ∀ w' g, Fam w' b0 (L.map (·.1) ++ ks) (⟨α, K, .slice (some ⟨g, 0, none⟩) n n, l⟩ :: rs) hs → Below B wE w' → (∀ k, k ∈ L.map (·.1) ++ ks → k < w'.heap.size) → XL P N B w' ds Q ops rest ((d, .slice (some ⟨g, 0, none⟩) n n) :: F) L)
    (hL : ∀ e, e ∈ L → e.1 ∈ ks ∨ w0.heap.size ≤ e.1 := by (intro e he; repeat (first | (cases he; done) | (rcases List.mem_cons.1 he with rfl | he; · first | (right; assumption) | (left; simp <;> fail)))) <;> fail) :
    XL P N B w0 ds Q ops ({ dst := some d, op := .buildSlice t n ps.toArray, type := ty, pos := p, after := af, guard := none } :: rest) F L := by
  refine XL.buildSlice hT hs' hz hzs hsz h0 hbig hzl hc hd fun g hg => ?_
  refine XL.rebase (List.sublist_cons_self _ _) fun w1 S => ?_
  have hk2 : ∀ k, k ∈ L.map (·.1) ++ ks → k ∈ ks ∨ w0.heap.size ≤ k := fun k hk => by
    rcases List.mem_append.1 hk with h | h
    · obtain ⟨e, he, rfl⟩ := List.mem_map.1 h
      exact hL e he
    · exact .inl h
  have hk3 : ∀ k, k ∈ L.map (·.1) ++ ks → k < w1.heap.size := fun k hk => by
    rcases List.mem_append.1 hk with h | h
    · obtain ⟨e, he, rfl⟩ := List.mem_map.1 h
      exact S.lt (List.mem_cons_of_mem _ he)
    · exact Nat.lt_of_lt_of_le (hks k h) S.size
  have hgL : g ∉ L.map (·.1) := by have := S.nd; simp only [List.map_cons, List.nodup_cons] at this; exact this.1
  have hfa : ∀ j, Free w0 b0 ks rs j → Free w0 b0 (L.map (·.1) ++ ks) rs j := fun j hj => ⟨hj.1, hj.2.1, fun h => by
    rcases hk2 j h with h4 | h4
    · exact hj.2.2.1 h4
    · have := hj.2.1; omega, hj.2.2.2⟩
  obtain ⟨hK1, hK2⟩ := hK
  have hrow : w1.ownsRow b0 K.ty K.m (.slice (some ⟨g, 0, none⟩) n n) l.length (l.flatMap K.c) := by
    have h5 := (S.own (g, _) List.mem_cons_self).2
    have h6 : (l.flatMap K.c).length = n * K.m := by rw [flat_len K.c K.m K.len, hn]
    have hsz' : 0 < K.m := by rw [hK2]; exact Nat.le_of_ble_eq_true h0
    have hbig' : n * K.m ≤ 16777216 := by rw [hK2]; exact Nat.le_of_ble_eq_true hbig
    have hnm : n ≤ n * K.m := Nat.le_mul_of_pos_right n hsz'
    refine ⟨by rw [h6, hn], .inr ⟨g, n, ⟨l.flatMap K.c⟩, by rw [hn], Nat.le_trans hb0 hg, ?_, by omega, by unfold maxLen; omega, by simpa using h6, ?_⟩⟩
    · rw [hK1, ← hcs]; exact h5
    · rw [hn, ← h6]
      simp only [List.take_length]
  refine XL.weak1 (k w1 g ((hF.add (ks' := L.map (·.1) ++ ks) hk2).fresh S.size (fun j hj hn' => ?_) hrow (fun q hq => ?_) fun a h4 x hx => x.mono (ha a h4 x hx) hfa) (hbl.trans S.toBelow) hk3)
  · exact S.old j hj fun e he e1 => by
      rcases List.mem_cons.1 he with rfl | he
      · simp only at e1; omega
      · exact hn' (List.mem_append_left _ (List.mem_map.2 ⟨e, he, e1⟩))
  · simp only [Value.ownBlock, Option.some.injEq] at hq
    subst hq
    refine ⟨hg, fun h7 => ?_⟩
    rcases List.mem_append.1 h7 with h8 | h8
    · exact hgL h8
    · have := hks _ h8; omega
/-- make([]int, n). -/
theorem XL.makeInts {d : Nat} {t e : TypeId} {x y : Operand} {n : Nat} (he : elemOk P t e 1 8 = true) (hz : (P.info? e).bind (·.zero) = some (.int .i64 0)) (hx : evo F x = some (.int .i64 (n : Nat))) (hy : evo F y = some (.int .i64 (n : Nat))) (hd : Nat.blt d N = true) (hn : n ≤ 1000000)
    (k : ∀ g, w0.heap.size ≤ g → XL P N B w0 ds Q ops rest ((1000000 + d, .slice none L.length 0) :: (d, .slice (some ⟨g, 0, none⟩) n n) :: F) ((g, cel e (ints (List.replicate n 0))) :: L)) :
    XL P N B w0 ds Q ops ({ dst := some d, op := .makeSlice t x y, type := ty, pos := p, after := af, guard := none } :: rest) F L := by
  refine ⟨fun a w hf hw => ?_⟩
  refine wpList_plain rfl fun Kk hK => ?_
  unfold Oper.wp
  obtain ⟨hu, i, z, hi, hz', e1, e2, e3⟩ := elemOk_spec he
  rw [hi] at hz
  simp only [Option.bind_some] at hz
  have hz2 : z = .int .i64 0 := by rw [hz'] at hz; exact Option.some.inj hz
  subst hz2
  have hrun := run_makeSlice (P := P) w t e i (.int .i64 0) hu hi hz' .i64 .i64 (n : Int) (n : Int) (by omega) (Int.le_refl _) (by rw [e1]; simp; omega) (by rw [e2]; omega) (by omega)
  have hmc : madeCells (Value.int .i64 0).cells ((n : Int).toNat * i.size) = ⟨ints (List.replicate n 0)⟩ := by
    rw [e1]
    apply Array.ext
    · simp [madeCells, ints]
    · intro j h1 h2
      simp [madeCells, ints, Value.cells]
      rw [show j % 1 = 0 from by omega]
      rfl
  rw [hmc] at hrun
  simp only [Int.toNat_natCast] at hrun
  have : (execOp a.eval { dst := some d, op := .makeSlice t x y, type := ty, pos := p, after := af, guard := none }).run P w = .ok (.value (.slice (some ⟨w.heap.size, 0, none⟩) n n)) (w.alloc (cel e (ints (List.replicate n 0)))) := by
    simp [execOp, hf.eval hx, hf.eval hy, hrun]
  rw [this]
  exact hK _ _ ((k w.heap.size hw.size).run _ _ ((hf.put hd).hint d _) (hw.box _))
end
end Go.Proofs.Ytmpaiphakjogjaa.X
/-
  A walk by lemmas (J): in a region that draws its order, reckonings too may be taken first, not only copies and addresses.
-/
namespace Go.Proofs.Ytmpaiphakjogjaa.X
open Go Go.RowKit
set_option linter.unusedVariables false
section
variable {P : Program} {N : Nat} {B : Nat} {wS w0 : World} {ds : List Deferred} {Q : Exit → Act → World → Prop} {F : Fr} {L Ls : Lo} {ops : Array Oper} {rem rem' : List (Nat × Oper)}
/-- operations of slots alone, reckonings among them. -/
def reckOp (o : Oper) : Bool := match o.guard with
  | some _ => false
  | none => match o.op with
    | .move _ | .assign _ | .extract .. | .makeInterface .. | .build .. | .fieldAddr .. | .indexAddr .. | .binOp .. | .convert .. => true
    | .call c => match c.callee with
      | .builtin .min => true
      | .builtin .max => true
      | _ => false
    | _ => false
/-- the first of these that may come up. -/
def firstR (rem : List (Nat × Oper)) : List (Nat × Oper) → Option (Nat × Oper × List (Nat × Oper))
  | [] => none
  | (i, o) :: r => match reckOp o with
    | true => match readyB rem o with
      | true => match dropO rem i with
        | some rem' => some (i, o, rem')
        | none => none
      | false => firstR rem r
    | false => firstR rem r
theorem firstR_spec : ∀ {l : List (Nat × Oper)} {i : Nat} {o : Oper}, firstR rem l = some (i, o, rem') → (i, o) ∈ l ∧ readyB rem o = true ∧ dropO rem i = some rem' := by
  intro l
  induction l with
  | nil => intro i o h; cases h
  | cons e r ih =>
    intro i o h
    obtain ⟨j, p⟩ := e
    simp only [firstR] at h
    split at h
    · split at h
      · rename_i hr
        split at h
        · rename_i r2 hd
          simp only [Option.some.injEq, Prod.mk.injEq] at h
          obtain ⟨rfl, rfl, rfl⟩ := h
          exact ⟨List.mem_cons_self, hr, hd⟩
        · cases h
      · obtain ⟨h1, h2⟩ := ih h; exact ⟨List.mem_cons_of_mem _ h1, h2⟩
    · obtain ⟨h1, h2⟩ := ih h; exact ⟨List.mem_cons_of_mem _ h1, h2⟩
theorem XR.take2 {i : Nat} {o : Oper} (h1 : firstR rem rem = some (i, o, rem')) (hl : loneB ops rem i o = true) (h : Fw P N B wS ds False (fun F' => XR P N B wS w0 ds Q Ls ops rem' F' L) ops Ls [o] F) :
    XR P N B wS w0 ds Q Ls ops rem F L := by
  obtain ⟨hm, hr, hd⟩ := firstR_spec h1
  unfold loneB at hl
  simp only [Bool.and_eq_true] at hl
  obtain ⟨⟨hsel, hein⟩, hap⟩ := hl
  obtain ⟨v, hok, F', hal, hk⟩ := h.run
  refine ⟨fun D fuel a w hD hlen hf hs hS => ?_⟩
  have hrd : i ∈ Region.ready .any ops D := hD.mem_ready hm hr fun e he hb => by
    unfold edgesIn at hein
    have := List.all_eq_true.1 hein _ hm
    have := List.all_eq_true.1 this e (by simpa using he)
    simp only [hb, Bool.not_true, Bool.false_or] at this
    exact Nat.le_of_ble_eq_true this
  obtain ⟨n, rfl, hn⟩ := ready_count hrd hlen
  have hD' := hD.set hm hd
  refine wpAnyH_first (hD.at_ _ hm) (Region.noSelect_spec hsel) (fun c a w q => q.elim) n D a w (fun j oj hj hne hun hno => ?_) hrd (hok.yieldsIf hf) hS ?_
  · have hjs : j < ops.size := (Array.getElem?_eq_some_iff.1 hj).1
    have hon : on D j = false := by
      unfold on
      have hlt' : j < D.size := by rw [hD.size]; exact hjs
      rw [Array.getD_eq_getD_getElem?, Array.getElem?_eq_getElem hlt'] at hun ⊢
      exact hun
    obtain ⟨o', ho'⟩ := inRem_iff.1 ((hD.left j hjs).1 hon)
    have := hD.at_ _ ho'
    rw [hj] at this
    obtain rfl := Option.some.inj this
    have h2 := List.all_eq_true.1 hap _ ho'
    simp only [Bool.or_eq_true] at h2
    rcases h2 with (h2 | h2) | h2
    · exact absurd (Nat.eq_of_beq_eq_true h2) hne
    · obtain ⟨e, he, hb⟩ := Array.any_eq_true'.1 h2
      simp only [Bool.and_eq_true, beq_iff_eq] at hb
      exact absurd hb.2 (hno e he hb.1)
    · exact h2
  · exact hk.run _ n _ w hD' hn (hal.fits (hf.putF hok.1)) hs hS
theorem YO {i : Nat} {o : Oper} (h1 : firstR rem rem = some (i, o, rem') := by first | exact rfl | fail) (hl : loneB ops rem i o = true := by first | kernel_rfl | fail) : Step (Fw P N B wS ds False (fun F' => XR P N B wS w0 ds Q Ls ops rem' F' L) ops Ls [o] F) (XR P N B wS w0 ds Q Ls ops rem F L) := ⟨XR.take2 h1 hl⟩
theorem SRJ {q : Prop} (k : q) (st : Step q (XR P N B wS w0 ds Q Ls ops rem F L) := by first | exact YJ | exact YK | exact YO | exact YL | fail) : XR P N B wS w0 ds Q Ls ops rem F L := st.run k
end
end Go.Proofs.Ytmpaiphakjogjaa.X
/-
  A walk by lemmas (K): bools compared, bits, scopes and labels, type assertions, slices of bools that are made, maps with struct keys.
-/
namespace Go.Proofs.Ytmpaiphakjogjaa.X
open Go
set_option linter.unusedVariables false
section
variable {P : Program} {T : TT} {N : Nat} {B : Nat} {w0 : World} {ds : List Deferred} {Q : Exit → Act → World → Prop} {F : Fr} {L : Lo} {pu : Prop} {ops : Array Oper} {rest : List Oper}
variable {dst : Option Tmp} {ty : TypeId} {p : String} {af : Array Edge} {gd : Option (Nat × Bool)}
theorem eqGuard_bool {op : BinOp} {t : TypeId} {x y : Operand} {a b : Bool} (w : World) : (eqGuard op t x y (.bool a) (.bool b)).run P w = .ok () w := by
  unfold eqGuard
  cases op <;> simp
theorem Ev.neqB {x y : Operand} {t u : TypeId} {a b : Bool} (ht : P.underlying t = some .bool) (hx : evo F x = some (.bool a)) (hy : evo F y = some (.bool b)) :
    Ev P N B w0 ds pu F L ⟨dst, .binOp .neq t x y u, ty, p, af, gd⟩ (.bool (a != b)) :=
  .of_run fun c w hf hw => by
    have h1 := run_equal_bool (P := P) w t a b ht
    simp [execOp, hf.eval hx, hf.eval hy, Sem.run_bind, eqGuard_bool, binOp, h1] <;> (cases a <;> cases b <;> rfl)
/-! ### bits -/
/-! ### scopes and labels -/
/-! ### type assertions -/
theorem Ev.assertOk {x : Operand} {t u : TypeId} {s : Nat} {v z : Value} (hx : evo F x = some (.iface s v)) (hu : conB (P.underlying u) = true) (hT : TOK P T) (hz : lkG T.zero u = some z) (r : Value) (hr : r = if s = u then .tuple ⟨[v, .bool true]⟩ else .tuple ⟨[z, .bool false]⟩) :
    Ev P N B w0 ds pu F L ⟨dst, .typeAssert x t u true, ty, p, af, gd⟩ r :=
  .of_run fun c w hf hw => by
    subst hr
    have hzr := zero_run hT hz w
    cases h : P.underlying u with
    | none => rw [h] at hu; cases hu
    | some d =>
      rw [h] at hu
      by_cases e : s = u
      · subst e
        cases d <;> first | (simp [execOp, Instr.typeAssert, hf.eval hx, run_underlying h]; done) | cases hu
      · cases d <;> first | (simp [execOp, Instr.typeAssert, hf.eval hx, run_underlying h, e, hzr]; done) | cases hu
/-! ### make([]bool, n) -/
def bools (l : List Bool) : List Value := l.map .bool
end
end Go.Proofs.Ytmpaiphakjogjaa.X
/-
  A walk by lemmas (L): small words that many walks share.
-/
namespace Go.Proofs.Ytmpaiphakjogjaa.X
open Go Go.RowKit
set_option linter.unusedVariables false
def idxL {α : Type} (l : List α) (P : α → Bool) : Int := match l.findIdx? P with
  | some i => ((i : Nat) : Int)
  | none => -1
theorem idxL_any {α : Type} (l : List α) (P : α → Bool) : decide (0 ≤ idxL l P) = l.any P := by
  unfold idxL
  cases h : l.findIdx? P with
  | none =>
    rw [List.findIdx?_eq_none_iff] at h
    have : l.any P = false := List.any_eq_false.2 fun x hx => by simp [h x hx]
    rw [this]; rfl
  | some i =>
    obtain ⟨hi, h1, _⟩ := List.findIdx?_eq_some_iff_getElem.1 h
    have : l.any P = true := List.any_eq_true.2 ⟨_, List.getElem_mem hi, h1⟩
    rw [this]
    simp
theorem Sys.keyLt {B : Nat} {w0 w : World} {L : Lo} (S : Sys B w0 L w) : ∀ j, j ∈ L.map (·.1) → j < w.heap.size := fun j hj => by
  obtain ⟨e, he, rfl⟩ := List.mem_map.1 hj
  exact S.lt he
theorem Sys.join {B : Nat} {w0 w w' : World} {L L2 L3 : Lo} (S : Sys B w0 L w) (S' : Sys w.heap.size w L2 w') (hs : List.Sublist L3 L) : Sys B w (L2 ++ L3) w' := by
  have hlt : ∀ e, e ∈ L3 → e.1 < w.heap.size := fun e he => S.lt (hs.subset he)
  refine ⟨S'.os, S'.tape, S'.output, S'.size, Nat.le_trans S.base S.size, fun k hk hn => S'.old k hk fun e he => hn e (List.mem_append_left _ he), fun e he => ?_, ?_⟩
  · rcases List.mem_append.1 he with h | h
    · exact ⟨Nat.le_trans (Nat.le_trans S.base S.size) (S'.own e h).1, (S'.own e h).2⟩
    · refine ⟨(S.own e (hs.subset h)).1, ?_⟩
      rw [S'.old e.1 (hlt e h) fun e' he' e1 => by have := (S'.own e' he').1; have := hlt e h; omega]
      exact (S.own e (hs.subset h)).2
  · rw [List.map_append]
    refine List.nodup_append.2 ⟨S'.nd, S.nd.sublist (hs.map _), fun x hx y hy e => ?_⟩
    obtain ⟨e1, he1, rfl⟩ := List.mem_map.1 hx
    obtain ⟨e2, he2, rfl⟩ := List.mem_map.1 hy
    have := (S'.own e1 he1).1
    have := hlt e2 he2
    omega
theorem Fam.row_at {W : World} {b0 : Nat} {ks : List Nat} {rs : List RowX} {hs : List Held} {α : Type} {K : Kind α} {r : SV} {l : List α} (h : Fam W b0 ks rs hs) (hr : (⟨α, K, svV r, l⟩ : RowX) ∈ rs) : ListAt K W (Lt W.heap.size) r l := by
  obtain ⟨⟨A, n, c⟩, e, h1⟩ := h.list hr
  obtain ⟨A2, n2, c2⟩ := r
  cases e
  exact h1.mono fun k hk => hk.2
theorem Sys.ofBelow {w w1 : World} (h : Below w.heap.size w w1) : Sys w.heap.size w [] w1 := ⟨h.os, h.tape, h.output, h.size, Nat.le_refl _, fun k hk _ => h.block k hk, (fun e he => (by cases he)), List.nodup_nil⟩
theorem Free.far {W : World} {b0 : Nat} {ks : List Nat} {rs : List RowX} {L : Lo} {ad : Addr} {j : Nat} (h : Free W b0 ks rs ad.block) (hs : ∀ e, e ∈ L → e.1 ∈ ks ∨ W.heap.size ≤ e.1) : ∀ e, e ∈ L → e.1 ≠ (ad.add j).block := fun e he e1 => by
  rw [add_block] at e1
  rcases hs e he with h1 | h1
  · exact h.2.2.1 (e1 ▸ h1)
  · have := h.2.1; omega
theorem Free.tail {W : World} {b0 : Nat} {ks : List Nat} {x : RowX} {rs : List RowX} {j : Nat} (h : Free W b0 ks (x :: rs) j) : Free W b0 ks rs j := ⟨h.1, h.2.1, h.2.2.1, fun r hr => h.2.2.2 r (.tail _ hr)⟩
/-- a row that grows no more is held. -/
theorem Fam.freeze {W : World} {b0 : Nat} {ks : List Nat} {rs : List RowX} {hs : List Held} {α : Type} {K : Kind α} {r : SV} {l : List α} (h : Fam W b0 ks (⟨α, K, svV r, l⟩ :: rs) hs) : Fam W b0 ks rs (hList K r l :: hs) := by
  refine ⟨h.base, fun x hx => h.row x (.tail _ hx), fun x hx => h.sep x (.tail _ hx), (List.pairwise_cons.1 h.two).2, fun x hx a ha y hy => y.mono (h.ins x (.tail _ hx) a ha y hy) fun j hj => hj.tail, fun y hy => ?_⟩
  rcases List.mem_cons.1 hy with rfl | hy
  · obtain ⟨A, n, c⟩ := r
    have h1 := h.row _ (.head _)
    obtain ⟨a1, a2, a3, a4⟩ := ReadsP.own h1
    simp only at a2 a4
    subst a2
    refine ⟨⟨a1.1, fun h0 => ?_⟩, by simp only [maxLen] at a4; exact a4, fun a ha x hx => x.mono (h.ins _ (.head _) a ha x hx) fun j hj => hj.tail⟩
    obtain ⟨ad, rfl, hb, hc⟩ := a1.2 h0
    exact ⟨ad, rfl, ⟨hb.1, hb.2, h.sep _ (.head _) _ rfl, fun x hx e => (List.pairwise_cons.1 h.two).1 x hx _ rfl e⟩, hc⟩
  · exact y.mono (h.held y hy) fun j hj => hj.tail
theorem Fam.sv {W : World} {b0 : Nat} {ks : List Nat} {rs : List RowX} {hs : List Held} {α : Type} {K : Kind α} {v : Value} {l : List α} (h : Fam W b0 ks rs hs) (hr : (⟨α, K, v, l⟩ : RowX) ∈ rs) : ∃ r : SV, v = svV r ∧ r.n = l.length := owns_sv (h.row _ hr)
section
variable {α : Type} {C : α → List Value} {m : Nat} (hC : ∀ a, (C a).length = m)
include hC
theorem fget {l : List α} {k : Nat} {t : α} {j : Nat} (sp : List Value) (h : l[k]? = some t) (hj : j < m) : (l.flatMap C ++ sp)[k * m + j]? = (C t)[j]? := by
  have e := flat_at C m hC l k j t h hj
  have h1 := (List.getElem?_eq_some_iff.1 h).1
  have h2 : (k + 1) * m ≤ l.length * m := Nat.mul_le_mul_right m h1
  rw [← e, List.getElem?_append_left]
  rw [flat_len C m hC]
  rw [Nat.add_mul] at h2
  omega
end
section
variable {P : Program} {T : TT} {N B : Nat} {w0 : World} {ds : List Deferred} {Q : Exit → Act → World → Prop} {F : Fr} {L : Lo} {ops : Array Oper} {rest : List Oper} {ty : TypeId} {p : String} {af : Array Edge}
theorem Ev.load_at_agg {pu : Prop} {dst : Option Tmp} {gd : Option (Nat × Bool)} (hT : TOK P T) (i : Nat) {t : TypeId} {x : Operand} {g o j n : Nat} {tg : TypeId} {cs vs : List Value} (hx : evo F x = some (.pointer (some ((⟨g, o, none⟩ : Addr).add j)))) (hL : L[i]? = some (g, cel tg cs)) (h1 : lkG T.agg t = some n) (hlen : vs.length = n)
    (hv : ∀ k u, vs[k]? = some u → cs[o + j + k]? = some u) : Ev P N B w0 ds pu F L ⟨dst, .load t x, ty, p, af, gd⟩ (.agg vs.toArray) :=
  .of_run fun a w hf hw => by
    have hc : ∀ k u, vs[k]? = some u → w.cell? (((⟨g, o, none⟩ : Addr).add j).add k) = some u := fun k u hk => by
      rw [add_off, add_off, hw.cell (List.mem_of_getElem? hL)]
      exact hv k u hk
    simp [execOp, Instr.loadAt, Instr.sureAddr, hf.eval hx, run_loadVar_agg (tab_ok hT.agg h1) hlen hc]
end
end Go.Proofs.Ytmpaiphakjogjaa.X
/-
  A walk by lemmas (M): maps whose keys are structs.
-/
namespace Go.Proofs.Ytmpaiphakjogjaa.X
open Go Go.RowKit
set_option linter.unusedVariables false
theorem Fam.atEnd {w w0 : World} {B b0 : Nat} {ks : List Nat} {rs : List RowX} {hs : List Held} {L : Lo} (hF : Fam w0 b0 ks rs hs) (S : Sys B w0 L w) (hL : ∀ e, e ∈ L → e.1 ∈ ks ∨ w0.heap.size ≤ e.1) : Fam w b0 (L.map (·.1) ++ ks) rs hs :=
  (hF.add (fun k hk => by
    rcases List.mem_append.1 hk with h | h
    · obtain ⟨e, he, rfl⟩ := List.mem_map.1 h
      exact hL e he
    · exact .inl h)).sys S fun e he => .inl (List.mem_append_left _ (List.mem_map.2 ⟨e, he, rfl⟩))
theorem ReadsP.block {w : World} {g lo n size : Nat} {ty : TypeId} {cs : List Value} (h : w.heap[g]? = some (cel ty cs)) (hg : lo ≤ g) (hl : cs.length = n * size) : ReadsP w (Btw lo w.heap.size) size (some ⟨g, 0, none⟩) n cs :=
  ⟨hl, fun _ => ⟨_, rfl, ⟨hg, (Array.getElem?_eq_some_iff.1 h).1⟩, fun j u hj => by rw [add_off]; simpa [World.cell?, h] using hj⟩⟩
/-- the entries of a map's block. -/
def entO (kvs : List (Value × Value)) : List MapEntry := kvs.zipIdx.map fun x => ({ key := x.1.1, val := x.1.2, born := x.2 } : MapEntry)
theorem entO_at {kvs : List (Value × Value)} {j : Nat} {e : MapEntry} (h : (entO kvs)[j]? = some e) : kvs[j]? = some (e.key, e.val) := by
  unfold entO at h
  rw [List.getElem?_map, List.getElem?_zipIdx] at h
  cases hk : kvs[j]? with
  | none => rw [hk] at h; cases h
  | some x => rw [hk] at h; simp only [Option.map_some, Option.some.injEq] at h; subst h; rfl
theorem entO_mem {kvs : List (Value × Value)} {e : MapEntry} (h : e ∈ entO kvs) : (e.key, e.val) ∈ kvs := by
  obtain ⟨j, hj, rfl⟩ := List.mem_iff_getElem.1 h
  exact List.mem_of_getElem? (entO_at (List.getElem?_eq_getElem hj))
theorem entO_of {kvs : List (Value × Value)} {x : Value × Value} (h : x ∈ kvs) : ∃ e, e ∈ entO kvs ∧ e.key = x.1 ∧ e.val = x.2 := by
  obtain ⟨j, hj, rfl⟩ := List.mem_iff_getElem.1 h
  refine ⟨{ key := kvs[j].1, val := kvs[j].2, born := j }, List.mem_of_getElem? (i := j) ?_, rfl, rfl⟩
  unfold entO
  rw [List.getElem?_map, List.getElem?_zipIdx, List.getElem?_eq_getElem hj]
  simp
/-- all keys can be looked for, and no two are equal. -/
structure KeysOk (P : Program) (kt : TypeId) (kvs : List (Value × Value)) : Prop where
  key : ∀ e, e ∈ kvs → ∃ l, keyOf P kt e.1 = some l
  one : ∀ a b c, (a, b) ∈ kvs → (a, c) ∈ kvs → b = c
theorem KeysOk.nil {P : Program} {kt : TypeId} : KeysOk P kt [] := ⟨fun _ h => (by cases h), fun _ _ _ h => (by cases h)⟩
theorem KeysOk.push {P : Program} {kt : TypeId} {kvs : List (Value × Value)} {k v : Value} (h : KeysOk P kt kvs) (hk : ∃ l, keyOf P kt k = some l) (hn : ∀ e, e ∈ kvs → e.1 ≠ k) : KeysOk P kt (kvs ++ [(k, v)]) := by
  refine ⟨fun e he => ?_, fun a b c h1 h2 => ?_⟩
  · rcases List.mem_append.1 he with h1 | h1
    · exact h.key e h1
    · rw [List.mem_singleton.1 h1]; exact hk
  · rcases List.mem_append.1 h1 with h1 | h1 <;> rcases List.mem_append.1 h2 with h2 | h2
    · exact h.one a b c h1 h2
    · rw [List.mem_singleton, Prod.mk.injEq] at h2; exact absurd h2.1 (hn _ h1)
    · rw [List.mem_singleton, Prod.mk.injEq] at h1; exact absurd h1.1 (hn _ h2)
    · rw [List.mem_singleton, Prod.mk.injEq] at h1 h2; rw [h1.2, h2.2]
def arrB (d : Option TypeDesc) : Option (Nat × TypeId) := match d with
  | some (.array n e) => some (n, e)
  | _ => none
section
variable {P : Program} {T : TT} {N : Nat} {B : Nat} {w0 : World} {ds : List Deferred} {Q : Exit → Act → World → Prop} {F : Fr} {L : Lo} {pu : Prop}
variable {dst : Option Tmp} {ty : TypeId} {p : String} {af : Array Edge} {gd : Option (Nat × Bool)}
theorem findK {kt : TypeId} (K : WideMaps.KeyLaw P kt) {kvs : List (Value × Value)} (hk : KeysOk P kt kvs) {k : Value} (h : ∃ l, keyOf P kt k = some l) (w : World) :
    ((Instr.findKey kt k (entO kvs)).run P w = .ok none w ∧ ∀ e, e ∈ kvs → e.1 ≠ k) ∨ ∃ j v, (Instr.findKey kt k (entO kvs)).run P w = .ok (some (j, v)) w ∧ (k, v) ∈ kvs := by
  obtain ⟨l, hl⟩ := h
  rcases K.find w hl (entO kvs) (fun e he => hk.key _ (entO_mem he)) with ⟨h1, h2⟩ | ⟨j, e, h1, h2, h3⟩
  · refine .inl ⟨h1, fun x hx => ?_⟩
    obtain ⟨e, he, e1, _⟩ := entO_of hx
    rw [← e1]
    exact h2 e he
  · refine .inr ⟨j, e.val, h1, ?_⟩
    rw [← h3]
    exact List.mem_of_getElem? (entO_at h2)
/-- a key that is not there. -/
theorem Ev.lookupNo (hT : TOK P T) (i : Nat) {t kt et : TypeId} {x y : Operand} {z k : Value} (kvs : List (Value × Value)) {r : Nat} (K : WideMaps.KeyLaw P kt) (hx : evo F x = some (.map (some r))) (hy : evo F y = some k) (hL : L[i]? = some (r, mapO kvs))
    (ht : P.underlying t = some (.map kt et)) (hz : lkG T.zero et = some z) (hk : KeysOk P kt kvs) (h : ∃ l, keyOf P kt k = some l) (hn : ∀ e, e ∈ kvs → e.1 ≠ k) :
    Ev P N B w0 ds pu F L ⟨dst, .lookup t x y true, ty, p, af, gd⟩ (.tuple ⟨[z, .bool false]⟩) :=
  .of_run fun a w hf hw => by
    have h2 := getObj_run (P := P) (show w.heap[r]? = some (.map (entO kvs).toArray kvs.length) from hw.obj hL)
    obtain ⟨l, hl⟩ := h
    have hc := fun em => K.check w em hl
    rcases findK K hk ⟨l, hl⟩ w with ⟨h1, _⟩ | ⟨j, v, _, h3⟩
    · simp [execOp, hf.eval hx, hf.eval hy, Instr.lookup, run_underlying ht, h2, hc, h1, zero_run hT hz]
    · exact absurd rfl (hn _ h3)
/-- a key that is there. -/
theorem Ev.lookupYes (i : Nat) {t kt et : TypeId} {x y : Operand} {k v : Value} (kvs : List (Value × Value)) {r : Nat} (K : WideMaps.KeyLaw P kt) (hx : evo F x = some (.map (some r))) (hy : evo F y = some k) (hL : L[i]? = some (r, mapO kvs))
    (ht : P.underlying t = some (.map kt et)) (hk : KeysOk P kt kvs) (h : ∃ l, keyOf P kt k = some l) (hv : (k, v) ∈ kvs) :
    Ev P N B w0 ds pu F L ⟨dst, .lookup t x y true, ty, p, af, gd⟩ (.tuple ⟨[v, .bool true]⟩) :=
  .of_run fun a w hf hw => by
    have h2 := getObj_run (P := P) (show w.heap[r]? = some (.map (entO kvs).toArray kvs.length) from hw.obj hL)
    obtain ⟨l, hl⟩ := h
    have hc := fun em => K.check w em hl
    rcases findK K hk ⟨l, hl⟩ w with ⟨_, h3⟩ | ⟨j, v2, h1, h3⟩
    · exact absurd rfl (h3 _ hv)
    · have := hk.one _ _ _ h3 hv
      subst this
      simp [execOp, hf.eval hx, hf.eval hy, Instr.lookup, run_underlying ht, h2, hc, h1]
/-- a key that is not there yet is set. -/
theorem XL.updateK (i : Nat) {ops : Array Oper} {rest : List Oper} {t kt et : TypeId} {x y u : Operand} (kvs : List (Value × Value)) {r : Nat} {k v : Value} {L' : Lo} (K : WideMaps.KeyLaw P kt) (hx : evo F x = some (.map (some r))) (hy : evo F y = some k)
    (hu : evo F u = some v) (hL : L[i]? = some (r, mapO kvs)) (ht : P.underlying t = some (.map kt et)) (hk : KeysOk P kt kvs) (h : ∃ l, keyOf P kt k = some l) (hn : ∀ e, e ∈ kvs → e.1 ≠ k) (hL' : setN L i (r, mapO (kvs ++ [(k, v)])) = some L')
    (c : XL P N B w0 ds Q ops rest F L') :
    XL P N B w0 ds Q ops ({ dst := none, op := .mapUpdate t x y u, type := ty, pos := p, after := af, guard := none } :: rest) F L := by
  refine ⟨fun a w hf hs => ?_⟩
  refine wpList_plain rfl fun Kk hK => ?_
  unfold Oper.wp
  have hh := hs.obj hL
  have h2 := getObj_run (P := P) (show w.heap[r]? = some (.map (entO kvs).toArray kvs.length) from hh)
  obtain ⟨l, hl⟩ := h
  have hc := fun em => K.check w em hl
  rcases findK K hk ⟨l, hl⟩ w with ⟨h1, _⟩ | ⟨j, v2, _, h3⟩
  · have e1 : mapO (kvs ++ [(k, v)]) = .map ((entO kvs).toArray.push { key := k, val := v, born := kvs.length }) (kvs.length + 1) := mapO_push kvs k v
    have h3 := setObj_run (P := P) (o := mapO (kvs ++ [(k, v)])) (show w.heap[r]? = some (.map (entO kvs).toArray kvs.length) from hh)
    have : (execOp a.eval { dst := none, op := .mapUpdate t x y u, type := ty, pos := p, after := af, guard := none }).run P w = .ok .skip { w with heap := w.heap.setIfInBounds r (mapO (kvs ++ [(k, v)])) } := by
      rw [e1] at h3 ⊢
      simp only [execOp, hf.eval hx, hf.eval hy, hf.eval hu, Instr.mapUpdate, Sem.run_bind, run_underlying ht, Result.andThen_ok, h2, hc, h1, h3, Sem.run_pure]
    rw [this]
    exact hK _ _ (c.run _ _ hf (hs.setObj hL (setN_spec _ _ _ _ hL').1))
  · exact absurd rfl (hn _ h3)
/-! ### arrays -/
end
end Go.Proofs.Ytmpaiphakjogjaa.X
/-
  A walk by lemmas (N): a function that holds a range over a function and is handed own blocks; its early returns; one loop variable.
-/
namespace Go.Proofs.Ytmpaiphakjogjaa.X
open Go Go.RowKit
set_option linter.unusedVariables false
section
variable {P : Program} {T : TT} {N : Nat} {B : Nat} {w0 : World} {ds : List Deferred} {Q : Exit → Act → World → Prop} {F : Fr} {L L' : Lo}
theorem XE.retM0 (hT : TOK P T) {fn : Func} {R : Ending → World → Prop} {rs : List ResultVar} {vs : List Value} {c : Prop} (h : fn.results = ⟨rs⟩) (hv : resO T F L rs = some (vs, c)) (hc : c)
    (hR : ∀ w, Sys B w0 L w → R (.returned (tupV vs)) w) : XE N B w0 [] (bodyPostM Fence.wide 0 P fn R) .ret F L :=
  ⟨fun a w hf hw => by
    show LeavesInM Fence.wide 0 P fn a.tmps R a.defers .returning w
    rw [hf.defers]
    exact ⟨_, by
      have h1 := resO_run hT hf hw hv hc
      have h2 : (results fn a.tmps).run P w = .ok (tupV vs) w := by
        unfold results
        rw [h, Array.mapM_eq_mapM_toList]
        simp only [Sem.run_bind, Sem.run_map]
        refine (congrArg (fun r : Result (List Value) => (r.andThen fun a w' => Result.ok a.toArray w').andThen fun a w' => Sem.run P (pure (if h : a.size = 1 then a[0] else Value.tuple a)) w') h1).trans ?_
        simp only [Result.andThen_ok, Sem.run_pure]
        cases vs with
        | nil => rfl
        | cons v vs => cases vs with
          | nil => rfl
          | cons u vs => simp [tupV]
      exact h2, hR w hw⟩⟩
/-- what stands, gm aside. -/
def Ng' (gm : Nat) (w : World) : Nat → Prop := fun j => j < w.heap.size ∧ j ≠ gm
/-- what was there at w stands, gm aside. -/
structure Kp (gm : Nat) (w W : World) : Prop where
  below : Below gm w W
  old : ∀ j, Ng' gm w j → W.heap[j]? = w.heap[j]?
/-- the blocks below B alone. -/
def trunc (w : World) (n : Nat) : World := { w with heap := w.heap.extract 0 n }
theorem Sys.anchorT {wE W w' : World} {L' : Lo} (hB : Below B wE W) (S : Sys B W L w') (hs : ∀ e, e ∈ L' → e ∈ L) (hn : (L'.map (·.1)).Nodup) (hle : B ≤ wE.heap.size) : Sys B (trunc wE B) L' w' := by
  have hsz : (trunc wE B).heap.size = B := by simp [trunc]; omega
  refine ⟨S.os.trans hB.os, S.tape.trans hB.tape, S.output.trans hB.output, ?_, ?_, fun k hk _ => ?_, fun e he => S.own e (hs e he), hn⟩
  · rw [hsz]; exact Nat.le_trans S.base S.size
  · rw [hsz]; exact Nat.le_refl _
  · rw [hsz] at hk
    have h1 := S.toBelow.block k hk
    have h2 := hB.block k hk
    rw [h1, h2]
    simp [trunc, Array.getElem?_extract]
    omega
/-- behind a call that only makes new things. -/
theorem Sys.made {w w' : World} (S : Sys B w0 L w) (hb : Below w.heap.size w w') : Sys B w' L w' :=
  ⟨rfl, rfl, rfl, Nat.le_refl _, Nat.le_trans S.base (Nat.le_trans S.size hb.size), fun _ _ _ => rfl, fun e he => ⟨(S.own e he).1, (hb.block e.1 (S.lt he)).trans (S.own e he).2⟩, S.nd⟩
end
section
variable {P : Program} {T : TT} {N : Nat} {B : Nat} {w0 : World} {ds : List Deferred} {Q : Exit → Act → World → Prop} {F : Fr} {L : Lo} {pu : Prop} {ops : Array Oper} {rest : List Oper} {ty : TypeId} {p : String} {af : Array Edge}
end
section
variable {P : Program} {N B : Nat} {wS w0 : World} {ds : List Deferred} {Q : Exit → Act → World → Prop} {F : Fr} {L Ls : Lo} {ops : Array Oper} {rem : List (Nat × Oper)} {r : Option Nat} {n : Nat}
theorem XH.ofRS {l : List Oper} (wS : World) (Ls : Lo) (p q : List Nat) (hr : pickR l q = some rem)
    (hp : (pureOk l.toArray (Array.replicate l.length false) p && partB l.length p q) = true)
    (h : Fw P N B wS ds False (fun F' => XR P N B wS w0 ds Q Ls l.toArray rem F' L) l.toArray Ls (pickO l.toArray p) F) : XH P N B wS w0 ds Q Ls l.toArray (Array.replicate l.toArray.size false) F L := by
  simp only [Bool.and_eq_true] at hp
  refine XH.pure p (by simpa using hp.1) ?_
  have key : ∀ F', XR P N B wS w0 ds Q Ls l.toArray rem F' L → XH P N B wS w0 ds Q Ls l.toArray (setAll (Array.replicate l.toArray.size false) p) F' L := by
    intro F' hx
    have hset : ∀ (p : List Nat) (D : Array Bool) (i : Nat), i < D.size → on (setAll D p) i = (on D i || p.contains i) := by
      intro p
      induction p with
      | nil => intro D i _; simp [setAll]
      | cons j r ih =>
        intro D i hi
        rw [setAll, ih _ _ (by simpa using hi)]
        by_cases hj : j < D.size
        · rw [on_set hj]
          simp only [List.contains_cons]
          cases on D i <;> simp
        · have : D.setIfInBounds j true = D := Array.setIfInBounds_eq_of_size_le (by omega)
          rw [this]
          have hne : ¬ i = j := by omega
          simp [List.contains_cons, hne]
    have hsz : ∀ (p : List Nat) (D : Array Bool), (setAll D p).size = D.size := by
      intro p
      induction p with
      | nil => intro D; rfl
      | cons j r ih => intro D; rw [setAll, ih]; simp
    obtain ⟨h1, h2⟩ := pickR_spec hr
    have hpart := hp.2
    unfold partB at hpart
    simp only [Bool.and_eq_true, List.all_eq_true, List.mem_range, decide_eq_true_eq] at hpart
    obtain ⟨⟨h3, h4⟩, h5⟩ := hpart
    have hD : RemOk l.toArray (setAll (Array.replicate l.toArray.size false) p) rem := by
      refine ⟨by rw [hsz]; simp, fun e he => by simpa using h2 e he, fun i hi => ?_, by rw [h1]; exact h5⟩
      have hi' : i < l.length := by simpa using hi
      rw [hset _ _ _ (by simpa using hi')]
      have h6 : on (Array.replicate l.toArray.size false) i = false := by unfold on; simp [hi']
      rw [h6, Bool.false_or]
      have h7 := h3 i hi'
      have h8 : inRem rem i = q.contains i := by
        rw [Bool.eq_iff_iff, inRem_iff, List.contains_iff_mem, ← h1]
        simp only [List.mem_map, Prod.exists, exists_and_right, exists_eq_right]
      rw [h8]
      cases h9 : p.contains i <;> cases h10 : q.contains i <;> rw [h9, h10] at h7 <;> simp_all
    exact ⟨fun fuel a w hc hf hs hS => hx.run _ fuel a w hD hc hf hs hS⟩
  exact ⟨by
    have := h.run
    exact (show ∀ (ops : List Oper) (F : Fr) (K K' : Fr → Prop), (∀ F', K F' → K' F') → Fw0 P N B wS ds False l.toArray Ls K ops F → Fw0 P N B wS ds False l.toArray Ls K' ops F from by
      intro ops
      induction ops with
      | nil => intro F K K' hk h; exact hk _ h
      | cons o r ih => rintro F K K' hk ⟨v, h1, h2⟩; exact ⟨v, h1, ih _ _ _ hk h2⟩) _ _ _ _ (fun F' ⟨G', h1, h2⟩ => ⟨G', h1, key _ h2⟩) this⟩
/-- a region that draws its order, in a round's frame. -/
theorem wpAnyIn_of {md : Region.Mode} {K : Act → World → Prop} {Q' : Exit → Act → World → Prop} (hd : ∀ (i : Nat) (o : Oper), ops[i]? = some o → notDefer o = true) (hK : ∀ a w, K a w → Q' .normal a w) : ∀ (fuel : Nat) (listed : Array Bool) (a : Act) (w : World), wpAny P md ops (only K) fuel listed a w → wpAnyIn (fen r) n P md ops Q' fuel listed a w := by
  intro fuel
  induction fuel with
  | zero => intro listed a w h; exact ⟨h.1, hK _ _ h.2⟩
  | succ fuel ih =>
    intro listed a w h
    refine ⟨fun h0 => hK _ _ (h.1 h0), fun i hi => ?_⟩
    have h1 := h.2 i hi
    unfold wpOp at h1
    unfold wpOpIn
    split
    · rename_i ho
      rw [ho] at h1
      exact ih _ _ _ h1
    · rename_i o ho
      rw [ho] at h1
      simp only at h1
      split
      · rename_i hw
        rw [if_pos hw] at h1
        rcases h1 with h1 | ⟨_, a0, w0, q⟩
        · refine ⟨fun f _ => fen_fn r f, ?_⟩
          rw [fen_round]
          rw [Oper.semAt_eq r a.eval o (fun c e => by have := hd i o ho; simp [notDefer, e] at this)]
          refine upon_in (Q := only K) only_normal ?_
          have h2 : o.wp P a w (wpAnyIn (fen r) n P md ops Q' fuel (listed.setIfInBounds i true)) (only K) := Oper.wp_mono (fun a w h => ih _ _ _ h) h1
          exact h2
        · exact q.elim
      · rename_i hw
        rw [if_neg hw] at h1
        exact ⟨fun f _ => fen_fn r f, ih _ _ _ h1⟩
theorem XR'.drawRS {id : Nat} {l : List Oper} (wS : World) (Ls : Lo) (p q : List Nat) (hm : P.follows .mixedOrders = true) (hL : ∀ w, Sys B w0 L w → Sys B wS Ls w) (hr : pickR l q = some rem) (hnd : l.all notDefer = true)
    (hp : (pureOk l.toArray (Array.replicate l.length false) p && partB l.length p q) = true)
    (h : Fw P N B wS ds False (fun F' => XR P N B wS w0 ds (only fun a w => Q .normal a w) Ls l.toArray rem F' L) l.toArray Ls (pickO l.toArray p) F) : XR' P N B w0 ds Q r n (.region id l.toArray true) F L :=
  ⟨fun a w hf hs => by
    have h1 := (XH.ofRS (Q := only fun a w => Q .normal a w) wS Ls p q hr hp h).run l.toArray.size a { w with drawn := w.drawn + 1 } (by simp) hf hs.drew (hL _ hs.drew)
    refine wpIn_region_any hm (wpAnyIn_of (K := fun a w => Q .normal a w) (fun i o ho => ?_) (fun _ _ h => h) _ _ _ _ (wpAny_of_held _ _ _ _ h1))
    exact List.all_eq_true.1 hnd o (List.mem_of_getElem? (by simpa using ho))⟩
theorem XR'.exit {id : Nat} (h : XE N B w0 ds Q (.exit id) F L) : XR' P N B w0 ds Q r n (.exit id) F L := ⟨fun a w hf hs => wpIn_exit (h.run a w hf hs)⟩
theorem XE.onlyN (h : XE N B w0 ds Q .normal F L) : XE N B w0 ds (only fun a w => Q .normal a w) .normal F L := ⟨h.run⟩
end
end Go.Proofs.Ytmpaiphakjogjaa.X
/-
  A call that makes new things, of which it is kept what it left as it was; a drawn region with such a call whose reads are of things made by this call's caller.
-/
namespace Go.Proofs.Ytmpaiphakjogjaa.X
open Go Go.RowKit
set_option linter.unusedVariables false
section
variable {P : Program} {T : TT} {N : Nat} {B : Nat} {wS w0 : World} {ds : List Deferred} {Q : Exit → Act → World → Prop} {F : Fr} {L L' Ls : Lo} {ops : Array Oper} {rest : List Oper} {rem : List (Nat × Oper)} {ty : TypeId} {p : String} {af : Array Edge}
theorem XL.callFW {f : FuncId} {d : Nat} {args : Array Operand} {vs : List Value} {ats : Array TypeId} {b0 : Nat} {ks : List Nat} {rs : List RowX} {hs : List Held} {wE : World} (R : Value → List Held → Prop) (h : callOk P f = true)
    (ha : evos F args.toList = some vs) (hd : Nat.blt d N = true) (hF : Fam w0 b0 ks rs hs) (hks : ∀ k, k ∈ ks → k < w0.heap.size) (hbl : Below B wE w0)
    (hc : ∀ w, Sys B w0 L w → Fam w b0 (L.map (·.1) ++ ks) rs hs → Below B wE w → Calls P f vs.toArray w (Made w R))
    (k : ∀ w' v new, R v new → Fam w' b0 (L.map (·.1) ++ ks) rs (new ++ hs) → Below B wE w' → (∀ k, k ∈ L.map (·.1) ++ ks → k < w'.heap.size) → Sys B w0 L w' → XL P N B w' ds Q ops rest ((d, v) :: F) L)
    (hL : ∀ e, e ∈ L → e.1 ∈ ks ∨ w0.heap.size ≤ e.1 := by (intro e he; repeat (first | (cases he; done) | (rcases List.mem_cons.1 he with rfl | he; · first | (right; assumption) | (left; simp <;> fail)))) <;> fail) :
    XL P N B w0 ds Q ops ({ dst := some d, op := .call { callee := .value (.func f), args := args, argTypes := ats }, type := ty, pos := p, after := af, guard := none } :: rest) F L := by
  refine XL.call (fst := []) (cap := []) (vs := vs) h rfl ha hd (List.Sublist.refl _) (fun w v w' => ∃ new, R v new ∧ (∀ x, x ∈ new → x.p w' (Btw w.heap.size w'.heap.size)) ∧ Below w.heap.size w w') (fun w S => ?_) (fun w v w' S hR hb S' => ?_)
  · have h1 := hF.call S (Below.refl _ _) hL hks (new := []) fun _ h => by cases h
    simp only [List.nil_append, List.append_nil] at h1 ⊢
    exact (hc w S h1.1 (hbl.trans S.toBelow)).mono fun e w' ⟨v, new, e1, e2, e3, e4⟩ => ⟨v, e1, ⟨new, e2, e3, e4⟩, e4⟩
  · obtain ⟨new, e2, e3, e4⟩ := hR
    have h1 := hF.call S hb hL hks e3
    exact k w' v new e2 h1.1 (hbl.trans S'.toBelow) h1.2 S'
theorem Sys.anchor3 {W w2 w : World} {L2 : Lo} (S' : Sys B W L w2) (h : Sys B w2 L2 w) (hs : List.Sublist L L2) (hn : ∀ e, e ∈ L2 → e.1 ∈ L.map (·.1) ∨ W.heap.size ≤ e.1) : Sys B W L w :=
  ⟨h.os.trans S'.os, h.tape.trans S'.tape, h.output.trans S'.output, Nat.le_trans S'.size h.size, S'.base, fun k hk hk2 => by
    rw [h.old k (Nat.lt_of_lt_of_le hk S'.size) (fun e he e1 => by
      rcases hn e he with h1 | h1
      · obtain ⟨e', h3, h4⟩ := List.mem_map.1 h1
        exact hk2 e' h3 (by rw [h4, e1])
      · omega), S'.old k hk hk2], fun e he => ⟨(S'.own e he).1, (h.own e (hs.subset he)).2⟩, h.nd.sublist (hs.map _)⟩
theorem z5 {W w0 : World} (k : XR P N B W w0 ds Q Ls ops rem F L) (S' : Sys B W Ls w0 := by assumption) (hs : List.Sublist Ls L := by (repeat (first | exact List.Sublist.refl _ | exact List.nil_sublist _ | refine List.Sublist.cons_cons _ ?_ | refine List.Sublist.cons _ ?_)) <;> fail)
    (hn : ∀ e, e ∈ L → e.1 ∈ Ls.map (·.1) ∨ W.heap.size ≤ e.1 := by (intro e he; repeat (first | (cases he; done) | (rcases List.mem_cons.1 he with rfl | he; · first | (left; simp <;> fail) | (right; simp only; omega)))) <;> fail) :
    XE N B w0 ds (heldR P B W Q Ls ops rem) .normal F L := XE.heldR (fun _ h => Sys.anchor3 S' h hs hn) k
/-- W keeps all that stood in W0, but for block g. -/
structure Since (W0 : World) (g : Nat) (W : World) : Prop where
  os : W.os = W0.os
  tape : W.tape = W0.tape
  output : W.output = W0.output
  size : W0.heap.size ≤ W.heap.size
  old : ∀ k, k < W0.heap.size → k ≠ g → W.heap[k]? = W0.heap[k]?
def hOld (b0 : Nat) (W0 : World) (g : Nat) : Held := ⟨fun W ok => ∀ k, b0 ≤ k → k < W0.heap.size → k ≠ g → ok k ∧ W.heap[k]? = W0.heap[k]?, fun h hk k h1 h2 h3 => ⟨(h k h1 h2 h3).1, (hk k (h k h1 h2 h3).1).trans (h k h1 h2 h3).2⟩, fun h hk k h1 h2 h3 => ⟨hk k (h k h1 h2 h3).1, (h k h1 h2 h3).2⟩⟩
theorem Sys.anchor4 {W0 W w : World} {g : Nat} {o : Obj} (hS : Since W0 g W) (hB : B ≤ W0.heap.size) (h : Sys B W L w) (hs : List.Sublist [(g, o)] L) (hn : ∀ e, e ∈ L → e.1 = g ∨ W0.heap.size ≤ e.1) : Sys B W0 [(g, o)] w :=
  ⟨h.os.trans hS.os, h.tape.trans hS.tape, h.output.trans hS.output, Nat.le_trans hS.size h.size, hB, fun k hk hk2 => by
    have hkg : k ≠ g := fun e => hk2 (g, o) (.head _) e.symm
    rw [h.old k (Nat.lt_of_lt_of_le hk hS.size) (fun e he e1 => by
      rcases hn e he with h1 | h1
      · exact hkg (e1.symm.trans h1)
      · omega), hS.old k hk hkg], fun e he => h.own e (hs.subset he), h.nd.sublist (hs.map _)⟩
theorem z6 {W0 w0 : World} {g : Nat} {o : Obj} (k : XR P N B W0 w0 ds Q [(g, o)] ops rem F L) (hS : Since W0 g w0 := by assumption) (hB : B ≤ W0.heap.size := by assumption) (hs : List.Sublist [(g, o)] L := by (repeat (first | exact List.Sublist.refl _ | exact List.nil_sublist _ | refine List.Sublist.cons_cons _ ?_ | refine List.Sublist.cons _ ?_)) <;> fail)
    (hn : ∀ e, e ∈ L → e.1 = g ∨ W0.heap.size ≤ e.1 := by (intro e he; repeat (first | (cases he; done) | (rcases List.mem_cons.1 he with rfl | he; · first | (left; rfl) | (right; simp only; omega)))) <;> fail) :
    XE N B w0 ds (heldR P B W0 Q [(g, o)] ops rem) .normal F L := XE.heldR (fun _ h => Sys.anchor4 hS hB h hs hn) k
variable {dst : Option Tmp} {gd : Option (Nat × Bool)} {pu : Prop}
end
end Go.Proofs.Ytmpaiphakjogjaa.X
/-
  The walk of the iterator of all.
-/
namespace Go.Proofs.Ytmpaiphakjogjaa.X
open Go Go.RowKit Go.Proofs.Ytmpaiphakjogjaa.Bs
set_option linter.unusedVariables false
section
variable {base B : Nat} {ks : List Nat} {row : Option Nat} {W W' W2 : World} {v : Value} {ms : List Mom} {L : Lo}
end
end Go.Proofs.Ytmpaiphakjogjaa.X
/-
  The walk of all.
-/
namespace Go.Proofs.Ytmpaiphakjogjaa.X
open Go Go.RowKit Go.Proofs.Ytmpaiphakjogjaa.Bs
set_option linter.unusedVariables false
/-- a list of moments in memory. -/
structure MomRow (w : World) (ok : Nat → Prop) (r : SV) (ms : List Mom) : Prop where
  rd : ReadsP w ok 7 r.A r.n (ms.flatMap Mom.c)
  max : r.n ≤ 1000
  ins : ∀ m, m ∈ ms → IntsAt w ok m.q m.s.fil ∧ IntsAt w ok m.r m.f.taken
end Go.Proofs.Ytmpaiphakjogjaa.X
/-
  errors.As at a target of type **basin.failure (the lines of the worked proof ToyasAs, turned to this program): as_nil, as_hit.
-/
namespace Go.Proofs.Ytmpaiphakjogjaa.As
open Go Go.RowKit Go.Extern.Stop Go.Stop Go.Extern

/-! ### CLOSED FACTS ON THE MODEL's ENTRIES FOR internal/reflectlite, at this program's types: 25: *p.E · 27: **p.E · 23: error · 45: reflectlite's rtype · 1: how many package-level variables the dump has -/
/-! ### THE ENTRIES THAT READ OR WRITE MEMORY: laws with a premise on the cell (after Derived/Lib/ReflectliteSlice.lean's manner: each unfolding a lemma of its own, by rfl) -/
end Go.Proofs.Ytmpaiphakjogjaa.As
/-
  errors.As by its contracts; the walk of run.
-/
namespace Go.Proofs.Ytmpaiphakjogjaa.X
open Go Go.RowKit Go.Proofs.Ytmpaiphakjogjaa.Bs
set_option linter.unusedVariables false
/-- what run answers. -/
def RunR (b : Bas) (s : Sta) (ts : List Tick) (w : World) (v : Value) (w' : World) : Prop :=
  ((runE b s ts ≠ 0 ∧ v = .tuple ⟨[.slice none 0 0, .int .i64 (runE b s ts)]⟩) ∨
   (runE b s ts = 0 ∧ staErr b s = 0 ∧ ts.length ≤ 300 ∧ (∀ k, k < ts.length → errAt b s ts k = 0) ∧ ∃ r ms, v = .tuple ⟨[svV r, .int .i64 0]⟩ ∧ MomRow w' (Btw w.heap.size w'.heap.size) r ms ∧ ms.map Mom.p = momsAt b s ts ts.length)) ∧ Below w.heap.size w w'
end Go.Proofs.Ytmpaiphakjogjaa.X
/-
  The walks of passed and of Stay.
-/
namespace Go.Proofs.Ytmpaiphakjogjaa.X
open Go Go.RowKit Go.Proofs.Ytmpaiphakjogjaa.Bs
set_option linter.unusedVariables false
/-- the level of volume v is above lim. -/
def overB (b : Bas) (lim v : Int) : Bool := decide (lim * den b v < num b v)
section
variable {p : BV} {b : Bas} {lim : Int} {w : World} {gb gl : Nat}
/-- the first moment whose level is above lim. -/
def firstOver (b : Bas) (lim : Int) (ms : List Mom) : Nat := ms.findIdx fun m => overB b lim m.s.vol
end
/-- what Stay answers: the hour and the fault. -/
noncomputable def stayE (b : Bas) (s : Sta) (ts : List Tick) (lim : Int) : Int := if runE b s ts ≠ 0 then runE b s ts else if outB lim (b.row 0).level 20000 = true then 7 else 0
noncomputable def stayN (b : Bas) (s : Sta) (ts : List Tick) (lim : Int) : Int := if stayE b s ts lim ≠ 0 then 0 else (((momsAt b s ts ts.length).findIdx fun x => overB b lim x.1.vol : Nat) : Int)
end Go.Proofs.Ytmpaiphakjogjaa.X
/-
  The example's basin in plain words.
-/
namespace Go.Proofs.Ytmpaiphakjogjaa.Bs
open Go.Proofs.Ytmpaiphakjogjaa.X
def exB : Bas := ⟨[⟨-1000, 0⟩, ⟨0, 1000000⟩, ⟨2000, 5000000⟩], 100, 3000, 500, [⟨⟨#[108, 111, 119]⟩, 200, 300, 50000⟩, ⟨⟨#[104, 105, 103, 104]⟩, 1000, 200, 400000⟩]⟩
def exS : Sta := ⟨1000000, [0, 0]⟩
def exT : Tick := ⟨2500, 60000, 0⟩
def exTs : List Tick := [exT, exT, exT]
end Go.Proofs.Ytmpaiphakjogjaa.Bs
/-
  The examples' functions; Volume at a level that is out of the basin; Awake.
-/
namespace Go.Proofs.Ytmpaiphakjogjaa.X
open Go Go.RowKit Go.Proofs.Ytmpaiphakjogjaa.Bs
set_option linter.unusedVariables false
structure BasAtP (w : World) (ok : Nat → Prop) (p : BV) (b : Bas) : Prop where
  rows : ReadsP w ok 2 p.A p.n (b.rows.flatMap rowC)
  pols : ReadsP w ok 4 p.A2 p.n2 (b.pols.flatMap polC)
  cap : p.n ≤ p.c
  len : p.n ≤ 9223372036854775807
  len2 : p.n2 ≤ 9223372036854775807
  names : ∀ q, q ∈ b.pols → q.name.size ≤ 9223372036854775807
section
variable {w w' w0 : World} {ok ok' : Nat → Prop} {B : Nat} {p : BV} {b : Bas} {L : Lo}
theorem BasAtP.keep (h : BasAtP w ok p b) (hk : ∀ k, ok k → w'.heap[k]? = w.heap[k]?) : BasAtP w' ok p b := ⟨h.rows.keep hk, h.pols.keep hk, h.cap, h.len, h.len2, h.names⟩
theorem BasAtP.mono (h : BasAtP w ok p b) (hk : ∀ k, ok k → ok' k) : BasAtP w ok' p b := ⟨h.rows.mono hk, h.pols.mono hk, h.cap, h.len, h.len2, h.names⟩
theorem BasAtP.to (h : BasAtP w (Lt B) p b) : BasAt w B p b := ⟨h.rows.to, h.pols.to, h.cap, h.len, h.len2, h.names⟩
end
set_option maxHeartbeats 4000000 in
theorem Basin_any (w : World) : Calls Try.prog 71 #[] w fun e w' => ∃ v, e = .returned v ∧ (∃ p, v = basV p exB ∧ BasAtP w' (Btw w.heap.size w'.heap.size) p exB) ∧ Below w.heap.size w w' := by
  refine enter Try.func71 rfl Try.ntmps71 rfl ?_; simp only [frame, Nat.zero_add, Nat.reduceAdd]
  repeat (first | (refine M0 ?_; first | refine SL ?_ | refine SB fun _ _ => ?_ | refine XL.buildSlice tok rfl rfl rfl rfl rfl rfl rfl rfl rfl (fun _ _ => ?_)) | (refine M1 ?_; first | refine SC ?_ | refine SD ?_) | (refine M2 ?_; refine SE ?_) | (refine M3 ?_; first | refine SG ?_ | refine SF ?_) | (refine M4 ?_; refine SR ?_) | (refine M5 ?_; first | exact M7 | refine YM ?_ | refine YN ?_ ?_))
  rename_i g0 hg0 g1 hg1 g2 hg2
  refine XE.retg tok Try.results71 rfl (by simp only [and_self, and_true]) (fun w' S => ?_)
  refine ⟨_, rfl, ⟨⟨some ⟨g1, 0, none⟩, 3, 3, some ⟨g2, 0, none⟩, 2, 2⟩, rfl, ?_⟩, S.toBelow⟩
  exact ⟨ReadsP.block (S.own (g1, _) (List.mem_cons_of_mem _ List.mem_cons_self)).2 hg1 rfl, ReadsP.block (S.own (g2, _) List.mem_cons_self).2 hg2 rfl, Nat.le_refl _, by simp, by simp, by decide⟩
end Go.Proofs.Ytmpaiphakjogjaa.X
/-
  The law BasinSteps.
-/
namespace Go.Proofs.Ytmpaiphakjogjaa.X
open Go Go.RowKit Go.Proofs.Ytmpaiphakjogjaa.Bs
set_option linter.unusedVariables false
end Go.Proofs.Ytmpaiphakjogjaa.X
/-
  Lists of states and of flows in memory; the walk of Run.
-/
namespace Go.Proofs.Ytmpaiphakjogjaa.Bs
/-- what Run answers. -/
noncomputable def runS (b : Bas) (s : Sta) (ts : List Tick) : List Sta := if runE b s ts ≠ 0 then [] else (List.range ts.length).map fun i => staAt b s ts (i + 1)
noncomputable def runF (b : Bas) (s : Sta) (ts : List Tick) : List Flo := if runE b s ts ≠ 0 then [] else (List.range ts.length).map fun i => floAt b s ts i
end Go.Proofs.Ytmpaiphakjogjaa.Bs
namespace Go.Proofs.Ytmpaiphakjogjaa.X
open Go Go.RowKit Go.Proofs.Ytmpaiphakjogjaa.Bs
set_option linter.unusedVariables false
structure StaI where
  s : Sta
  q : SV
structure FloI where
  f : Flo
  r : SV
def StaI.c (a : StaI) : List Value := staC a.q a.s
def FloI.c (a : FloI) : List Value := floC a.r a.f
def staK : Kind StaI := ⟨162, 2, StaI.c, fun a => [hInts a.q a.s.fil], fun _ => rfl⟩
def floK : Kind FloI := ⟨164, 5, FloI.c, fun a => [hInts a.r a.f.taken], fun _ => rfl⟩
def Mom.a (m : Mom) : StaI := ⟨m.s, m.q⟩
def Mom.b (m : Mom) : FloI := ⟨m.f, m.r⟩
/-- what Run leaves. -/
def RunsR (b : Bas) (s : Sta) (ts : List Tick) (w : World) (v : Value) (w' : World) : Prop :=
  ∃ (r1 r2 : SV) (l1 : List StaI) (l2 : List FloI), v = .tuple ⟨[svV r1, svV r2, .int .i64 (runE b s ts)]⟩ ∧ ListAt staK w' (Btw w.heap.size w'.heap.size) r1 l1 ∧ ListAt floK w' (Btw w.heap.size w'.heap.size) r2 l2 ∧
    l1.map (·.s) = runS b s ts ∧ l2.map (·.f) = runF b s ts ∧ Below w.heap.size w w'
end Go.Proofs.Ytmpaiphakjogjaa.X
/-
  The walk of the document's Run.
-/
namespace Go.Proofs.Ytmpaiphakjogjaa.X
open Go Go.RowKit Go.Proofs.Ytmpaiphakjogjaa.Bs
set_option linter.unusedVariables false
/-- what a tick gives. -/
def StepV (b : Bas) (s : Sta) (t : Tick) (v : Value) (new : List Held) : Prop := ∃ q r : SV, v = .tuple ⟨[staV q (outS b s t), floV r (outF b s t), .int .i64 (stepE b s t)]⟩ ∧ new = [hInts q (outS b s t).fil, hInts r (outF b s t).taken]
def RunV (b : Bas) (s : Sta) (ts : List Tick) (v : Value) (new : List Held) : Prop :=
  ∃ (r1 r2 : SV) (l1 : List StaI) (l2 : List FloI), v = .tuple ⟨[svV r1, svV r2, .int .i64 (runE b s ts)]⟩ ∧ new = [hList staK r1 l1, hList floK r2 l2] ∧ l1.map (·.s) = runS b s ts ∧ l2.map (·.f) = runF b s ts
end Go.Proofs.Ytmpaiphakjogjaa.X
/-
  The walk of SameRun on equal runs; the law BasinRuns.
-/
namespace Go.Proofs.Ytmpaiphakjogjaa.X
open Go Go.RowKit Go.Proofs.Ytmpaiphakjogjaa.Bs
set_option linter.unusedVariables false
end Go.Proofs.Ytmpaiphakjogjaa.X
/-
  The walks of the document's stay and Stay; of both Floods.
-/
namespace Go.Proofs.Ytmpaiphakjogjaa.Bs
def Flo.t (f : Flo) (i : Nat) : Int := f.taken[i]?.getD 0
/-- the first tick in which polder i takes water, or -1. -/
def firstF (fs : List Flo) (i : Nat) : Int := match fs.findIdx? fun f => decide (0 < f.t i) with
  | some k => ((k : Nat) : Int)
  | none => -1
noncomputable def floods (b : Bas) (s : Sta) (ts : List Tick) : List Int := if runE b s ts ≠ 0 then [] else (List.range b.pols.length).map (firstF (runF b s ts))
end Go.Proofs.Ytmpaiphakjogjaa.Bs
namespace Go.Proofs.Ytmpaiphakjogjaa.X
open Go Go.RowKit Go.Proofs.Ytmpaiphakjogjaa.Bs
set_option linter.unusedVariables false
end Go.Proofs.Ytmpaiphakjogjaa.X
/-
  The walks of both Floods.
-/
namespace Go.Proofs.Ytmpaiphakjogjaa.Bs
/-- the first tick from m on in which polder i takes water. -/
def firstG (fs : List Flo) (i m : Nat) : Int := match (fs.drop m).findIdx? fun f => decide (0 < f.t i) with
  | some k => (((m + k : Nat)) : Int)
  | none => -1
end Go.Proofs.Ytmpaiphakjogjaa.Bs
namespace Go.Proofs.Ytmpaiphakjogjaa.X
open Go Go.RowKit Go.Proofs.Ytmpaiphakjogjaa.Bs
set_option linter.unusedVariables false
def intK : Kind Int := ⟨3, 1, fun k => [.int .i64 k], fun _ => [], fun _ => rfl⟩
/-- what Floods leaves. -/
def FloodV (b : Bas) (s : Sta) (ts : List Tick) (v : Value) (new : List Held) : Prop := ∃ r : SV, v = .tuple ⟨[svV r, .int .i64 (runE b s ts)]⟩ ∧ new = [hInts r (floods b s ts)]
def idxV (ms : List Mom) (P : Mom → Bool) : Int := match ms.findIdx? P with
  | some i => ((i : Nat) : Int)
  | none => -1
end Go.Proofs.Ytmpaiphakjogjaa.X
/-
  The walk of the document's Floods; the law BasinStays.
-/
namespace Go.Proofs.Ytmpaiphakjogjaa.X
open Go Go.RowKit Go.Proofs.Ytmpaiphakjogjaa.Bs
set_option linter.unusedVariables false
/-- a case. -/
structure CV where
  q : SV
  r : SV
structure Cas where
  s : Sta
  ts : List Tick
  lim : Int
def caseC (x : CV) (c : Cas) : List Value := [.int .i64 c.s.vol, .slice x.q.A x.q.n x.q.c, .slice x.r.A x.r.n x.r.c, .int .i64 c.lim]
def caseV (x : CV) (c : Cas) : Value := .agg ⟨caseC x c⟩
structure CaseAt (w : World) (ok : Nat → Prop) (x : CV) (c : Cas) : Prop where
  fil : IntsAt w ok x.q c.s.fil
  tks : TksAt w ok x.r c.ts
end Go.Proofs.Ytmpaiphakjogjaa.X
/-
  The plain words of layer 4: levels of volumes and volumes of levels, and that both are in order.
-/
namespace Go.Proofs.Ytmpaiphakjogjaa.Bs
set_option linter.unusedVariables false
/-- the piece in which a level lies. -/
def lsegTo (b : Bas) (l : Int) : Nat → Nat
  | 0 => 0
  | k + 1 => if (b.row (k + 1)).level ≤ l then k + 1 else lsegTo b l k
def lseg (b : Bas) (l : Int) : Nat := lsegTo b l (b.rows.length - 2)
theorem lsegTo_spec {b : Bas} {v : Int} : ∀ (n : Nat), lsegTo b v n ≤ n ∧ (lsegTo b v n = 0 ∨ (b.row (lsegTo b v n)).level ≤ v) ∧ (∀ j, lsegTo b v n < j → j ≤ n → v < (b.row j).level) := by
  intro n
  induction n with
  | zero => exact ⟨by simp [lsegTo], .inl rfl, fun j h1 h2 => by omega⟩
  | succ n ih =>
    unfold lsegTo
    by_cases h : (b.row (n + 1)).level ≤ v
    · rw [if_pos h]; exact ⟨by omega, .inr h, fun j h1 h2 => by omega⟩
    · rw [if_neg h]
      refine ⟨by omega, ih.2.1, fun j h1 h2 => ?_⟩
      by_cases e : j = n + 1
      · subst e; omega
      · exact ih.2.2 j h1 (by omega)
/-- the greatest volume whose level is at most l, as the program reckons it. -/
def volAt (b : Bas) (l : Int) : Int := (b.row (lseg b l)).vol + (l - (b.row (lseg b l)).level) * ((b.row (lseg b l + 1)).vol - (b.row (lseg b l)).vol) / ((b.row (lseg b l + 1)).level - (b.row (lseg b l)).level)
def volOf (b : Bas) (l : Int) : Int := min 1000000000 (volAt b l)
def levLo (b : Bas) (v : Int) : Int := num b v / den b v
def levHi (b : Bas) (v : Int) : Int := -((-(num b v)) / den b v)
section
variable {b : Bas} (h : RowsOk b)
include h
theorem lseg_spec {l : Int} (hl : (b.row 0).level ≤ l) : lseg b l + 1 < b.rows.length ∧ (b.row (lseg b l)).level ≤ l ∧ ∀ j, lseg b l < j → j + 1 < b.rows.length → l < (b.row j).level := by
  obtain ⟨h1, h2, h3⟩ := lsegTo_spec (b := b) (v := l) (b.rows.length - 2)
  have hn := h.n2
  unfold lseg
  refine ⟨by omega, ?_, fun j h4 h5 => h3 j h4 (by omega)⟩
  rcases h2 with h2 | h2
  · rw [h2]; exact hl
  · exact h2
theorem rows_le {i j : Nat} (hij : i ≤ j) (hj : j < b.rows.length) : (b.row i).vol ≤ (b.row j).vol ∧ (b.row i).level ≤ (b.row j).level := by
  rcases Nat.eq_or_lt_of_le hij with rfl | h1
  · exact ⟨Int.le_refl _, Int.le_refl _⟩
  · have := h.lt h1 hj; omega
theorem volAt_ge {l : Int} (hl : (b.row 0).level ≤ l) : (b.row 0).vol ≤ volAt b l := by
  obtain ⟨i1, i2, i3⟩ := lseg_spec h hl
  have ud := h.volUp _ i1
  have uD := h.levelUp _ i1
  have e1 := (rows_le h (Nat.zero_le (lseg b l)) (by omega)).1
  have e3 : 0 ≤ (l - (b.row (lseg b l)).level) * ((b.row (lseg b l + 1)).vol - (b.row (lseg b l)).vol) / ((b.row (lseg b l + 1)).level - (b.row (lseg b l)).level) := Int.ediv_nonneg (Int.mul_nonneg (by omega) (by omega)) (by omega)
  unfold volAt
  omega
theorem volOf_ge {l : Int} (hl : (b.row 0).level ≤ l) : (b.row 0).vol ≤ volOf b l ∧ volOf b l ≤ 1000000000 := by
  have h1 := volAt_ge h hl
  have h2 := h.vol 0 (by have := h.n2; omega)
  unfold volOf; omega
theorem lo_hi (v : Int) : levLo b v ≤ levHi b v ∧ levHi b v ≤ levLo b v + 1 := by
  have p1 := den_pos h v
  have e1 := Int.ediv_mul_le (num b v) (b := den b v) (by omega)
  have e2 := Int.ediv_mul_le (-(num b v)) (b := den b v) (by omega)
  have e3 := Int.lt_ediv_add_one_mul_self (num b v) (b := den b v) (by omega)
  have e4 := Int.lt_ediv_add_one_mul_self (-(num b v)) (b := den b v) (by omega)
  unfold levLo levHi
  obtain ⟨x, hx⟩ : ∃ x, x = num b v / den b v := ⟨_, rfl⟩
  obtain ⟨y, hy⟩ : ∃ x, x = (-(num b v)) / den b v := ⟨_, rfl⟩
  rw [← hx] at e1 e3 ⊢
  rw [← hy] at e2 e4 ⊢
  have f1 : (x + 1) * den b v = x * den b v + den b v := by rw [Int.add_mul, Int.one_mul]
  have f2 : (y + 1) * den b v = y * den b v + den b v := by rw [Int.add_mul, Int.one_mul]
  have f3 : (x + y) * den b v = x * den b v + y * den b v := Int.add_mul _ _ _
  have g1 : x + y ≤ 0 := by
    refine Int.le_of_mul_le_mul_right (a := den b v) ?_ (by omega)
    omega
  have g2 : -2 < x + y := by
    refine Int.lt_of_mul_lt_mul_right (a := den b v) ?_ (by omega)
    omega
  omega
end
end Go.Proofs.Ytmpaiphakjogjaa.Bs
/-
  The walks of Level and of Volume (both texts); the law BasinChecks.
-/
namespace Go.Proofs.Ytmpaiphakjogjaa.Bs
/-- what Level answers: the fault, and the least and greatest whole level. -/
noncomputable def lvlE (b : Bas) (v : Int) : Int := if chkE b ≠ 0 then chkE b else if outB v (b.row 0).vol 1000000000 = true then 7 else 0
noncomputable def lvlLo (b : Bas) (v : Int) : Int := if lvlE b v ≠ 0 then 0 else levLo b v
noncomputable def lvlHi (b : Bas) (v : Int) : Int := if lvlE b v ≠ 0 then 0 else levHi b v
theorem lvl_c {b : Bas} {v : Int} (h : chkE b ≠ 0) : lvlE b v = chkE b ∧ lvlLo b v = 0 ∧ lvlHi b v = 0 := by
  have : lvlE b v = chkE b := by unfold lvlE; rw [if_pos h]
  unfold lvlLo lvlHi
  rw [this, if_pos h, if_pos h]
  exact ⟨rfl, rfl, rfl⟩
theorem lvl_7 {b : Bas} {v : Int} (h : chkE b = 0) (h1 : outB v (b.row 0).vol 1000000000 = true) : lvlE b v = 7 ∧ lvlLo b v = 0 ∧ lvlHi b v = 0 := by
  have : lvlE b v = 7 := by unfold lvlE; rw [if_neg (by simp [h]), if_pos h1]
  unfold lvlLo lvlHi
  rw [this, if_pos (by decide), if_pos (by decide)]
  exact ⟨rfl, rfl, rfl⟩
theorem lvl_0 {b : Bas} {v : Int} (h : chkE b = 0) (h1 : outB v (b.row 0).vol 1000000000 = false) : lvlE b v = 0 ∧ lvlLo b v = levLo b v ∧ lvlHi b v = levHi b v := by
  have : lvlE b v = 0 := by unfold lvlE; rw [if_neg (by simp [h]), if_neg (by simp [h1])]
  unfold lvlLo lvlHi
  rw [this, if_neg (by decide), if_neg (by decide)]
  exact ⟨rfl, rfl, rfl⟩
/-- what Volume answers. -/
noncomputable def volE (b : Bas) (l : Int) : Int := if chkE b ≠ 0 then chkE b else if outB l (b.row 0).level 20000 = true then 7 else 0
noncomputable def volN (b : Bas) (l : Int) : Int := if volE b l ≠ 0 then 0 else volOf b l
theorem vol_c {b : Bas} {v : Int} (h : chkE b ≠ 0) : volE b v = chkE b ∧ volN b v = 0 := by
  have : volE b v = chkE b := by unfold volE; rw [if_pos h]
  unfold volN
  rw [this, if_pos h]
  exact ⟨rfl, rfl⟩
theorem vol_7 {b : Bas} {v : Int} (h : chkE b = 0) (h1 : outB v (b.row 0).level 20000 = true) : volE b v = 7 ∧ volN b v = 0 := by
  have : volE b v = 7 := by unfold volE; rw [if_neg (by simp [h]), if_pos h1]
  unfold volN
  rw [this, if_pos (by decide)]
  exact ⟨rfl, rfl⟩
theorem vol_0 {b : Bas} {v : Int} (h : chkE b = 0) (h1 : outB v (b.row 0).level 20000 = false) : volE b v = 0 ∧ volN b v = volOf b v := by
  have : volE b v = 0 := by unfold volE; rw [if_neg (by simp [h]), if_neg (by simp [h1])]
  unfold volN
  rw [this, if_neg (by decide)]
  exact ⟨rfl, rfl⟩
end Go.Proofs.Ytmpaiphakjogjaa.Bs
namespace Go.Proofs.Ytmpaiphakjogjaa.X
open Go Go.RowKit Go.Proofs.Ytmpaiphakjogjaa.Bs
set_option linter.unusedVariables false
section
variable {N : Nat} {B : Nat} {w0 : World} {ds : List Deferred} {F : Fr} {L : Lo} {pu : Prop} {dst : Option Tmp} {ty : TypeId} {p : String} {af : Array Edge} {gd : Option (Nat × Bool)}
theorem part_int (w : World) (cs : List Value) (o : Nat) (v : Value) (hv : cs[o]? = some v) : (part 3 ⟨cs⟩ o).run Try.prog w = .ok v w := by
  obtain ⟨h1, h2⟩ := isAgg_of_one (tab_ok tok.one (show lkG TB.one 3 = some () by rfl)) w
  simp [part, h2, hv]
theorem span_eq (w : World) (a c b d : Int) : (Op.equalIn 10000 85 (.agg ⟨[.int .i64 a, .int .i64 c]⟩) (.agg ⟨[.int .i64 b, .int .i64 d]⟩)).run Try.prog w = .ok (decide (a = b) && decide (c = d)) w := by
  have hu := Try.underlying85
  have hf : Try.prog.underlying 85 = some (.struct (Try.prog.fieldsOf 85)) := by simp [Program.fieldsOf, hu]
  rw [run_equalIn_struct w 9999 85 _ _ hf (by kernel_rfl)]
  simp only [Program.fieldsOf, hu]
  simp only [Op.eqFields]
  have h1 := part_int w [.int .i64 a, .int .i64 c] 0 (.int .i64 a) rfl
  have h2 := part_int w [.int .i64 b, .int .i64 d] 0 (.int .i64 b) rfl
  have h3 := part_int w [.int .i64 a, .int .i64 c] 1 (.int .i64 c) rfl
  have h4 := part_int w [.int .i64 b, .int .i64 d] 1 (.int .i64 d) rfl
  have h5 := run_equalIn_int (P := Try.prog) w 9998 3 .i64 .i64 a b Try.underlying3
  have h6 := run_equalIn_int (P := Try.prog) w 9998 3 .i64 .i64 c d Try.underlying3
  simp [Sem.run_bind, h1, h2, h3, h4, h5, h6]
  by_cases e1 : a = b <;> by_cases e2 : c = d <;> simp [e1, e2, h3, h4, h6]
theorem Ev.spanNeq {x y : Operand} {u : TypeId} {a b c d : Int} (hx : evo F x = some (spanV a c)) (hy : evo F y = some (spanV b d)) :
    Ev Try.prog N B w0 ds pu F L ⟨dst, .binOp .neq 85 x y u, ty, p, af, gd⟩ (.bool (!(decide (a = b) && decide (c = d)))) := .of_run fun a' w hf hw => by
  have e1 := hf.eval hx
  have e2 := hf.eval hy
  unfold spanV at e1 e2
  have h1 := run_eqGuard_agg (P := Try.prog) w .neq 85 x y ⟨[.int .i64 a, .int .i64 c]⟩ ⟨[.int .i64 b, .int .i64 d]⟩ (by kernel_rfl)
  have h2 := run_neq_struct (P := Try.prog) w 85 ⟨[.int .i64 a, .int .i64 c]⟩ ⟨[.int .i64 b, .int .i64 d]⟩
  rw [span_eq] at h2
  simp only [Result.andThen_ok] at h2
  simp [execOp, e1, e2, Sem.run_bind, h1, h2]
end
set_option maxHeartbeats 4000000 in
theorem Level_any {p : BV} {b : Bas} {v : Int} {w : World} (hb : BasAt w w.heap.size p b) :
    Calls Try.prog 94 #[basV p b, .int .i64 v] w fun e w' => e = .returned (.tuple ⟨[spanV (lvlLo b v) (lvlHi b v), .int .i64 (lvlE b v)]⟩) ∧ Below w.heap.size w w' := by
  obtain ⟨A, n, c, A2, n2, c2⟩ := p
  have hn := hb.n_eq
  simp only at hn
  subst hn
  have hmax := hb.len
  simp only at hmax
  simp only [basV, basC]
  refine enter Try.func94 rfl Try.ntmps94 rfl ?_; simp only [frame, Nat.zero_add, Nat.reduceAdd]
  repeat (first | (refine M0 ?_; first | refine SL ?_ | refine SB fun _ _ => ?_ | refine Y4 (Ev.call (f := 100) (ck rfl) rfl (fun w S => (valid_any (hb.sys S) :))) ?_) | (refine M1 ?_; first | refine SC ?_ | refine SD ?_) | (refine M2 ?_; refine SE ?_) | (refine M3 ?_; first | refine SG ?_ | refine SF ?_ | refine YF (Ev.call (f := 100) (ck rfl) rfl (fun w S => (valid_any (hb.sys S) :))) ?_) | (refine M4 ?_; refine SR ?_) | (refine M5 ?_; first | exact M7 | refine YM ?_ | refine YN ?_ ?_))
  refine XC.cond _ rfl (fun h => ?_) (fun h => ?_)
  · have hE : chkE b ≠ 0 := by simpa using h
    obtain ⟨e1, e2, e3⟩ := lvl_c (v := v) hE
    repeat (first | (refine M0 ?_; first | refine SL ?_ | refine SB fun _ _ => ?_) | (refine M1 ?_; first | refine SC ?_ | refine SD ?_) | (refine M2 ?_; refine SE ?_) | (refine M3 ?_; first | refine SG ?_ | refine SF ?_) | (refine M4 ?_; refine SR ?_) | (refine M5 ?_; first | exact M7 | refine YM ?_ | refine YN ?_ ?_))
    refine XE.retg tok Try.results94 rfl (by simp only [and_self, and_true]) (fun w' S => ?_)
    rw [e1, e2, e3]
    exact ⟨rfl, S.toBelow⟩
  have hE : chkE b = 0 := by simpa using h
  have ho := (ok_of hE).rowsOk
  have h2 := ho.n2
  obtain ⟨ad, rfl, hlt⟩ := hb.rows.addr (by simp only; omega)
  repeat (first | (refine M0 ?_; first | refine SL ?_ | refine SB fun _ _ => ?_ | refine Y4 (Ev.load_old tok rfl rfl (add_lt2 hlt) (hb.rowVol (i := 0) (by omega))) ?_ | refine Y4 (Ev.call (f := 73) (ck rfl) rfl (fun w S => out_any _ _ _ w)) ?_) | (refine M1 ?_; first | refine SC ?_ | refine SD ?_) | (refine M2 ?_; refine SE ?_) | (refine M3 ?_; first | refine SG ?_ | refine SF ?_ | refine YF (Ev.load_old tok rfl rfl (add_lt2 hlt) (hb.rowVol (i := 0) (by omega))) ?_ | refine YF (Ev.call (f := 73) (ck rfl) rfl (fun w S => out_any _ _ _ w)) ?_) | (refine M4 ?_; refine SR ?_) | (refine M5 ?_; first | exact M7 | refine YM ?_ | refine YN ?_ ?_))
  refine XC.cond _ rfl (fun h4 => ?_) (fun h4 => ?_)
  · obtain ⟨e1, e2, e3⟩ := lvl_7 hE h4
    repeat (first | (refine M0 ?_; first | refine SL ?_ | refine SB fun _ _ => ?_) | (refine M1 ?_; first | refine SC ?_ | refine SD ?_) | (refine M2 ?_; refine SE ?_) | (refine M3 ?_; first | refine SG ?_ | refine SF ?_) | (refine M4 ?_; refine SR ?_) | (refine M5 ?_; first | exact M7 | refine YM ?_ | refine YN ?_ ?_))
    refine XE.retg tok Try.results94 rfl (by simp only [and_self, and_true]) (fun w' S => ?_)
    rw [e1, e2, e3]
    exact ⟨rfl, S.toBelow⟩
  obtain ⟨e1, e2, e3⟩ := lvl_0 hE h4
  have hv := outB_f.1 h4
  have hd := den_pos ho v
  have hnb := num_bd ho hv
  repeat (first | (refine M0 ?_; first | refine SL ?_ | refine SB fun _ _ => ?_ | refine Y4 (Ev.call (f := 101) (ck rfl) rfl (fun w S => (exact_any (p := ⟨some ad, b.rows.length, c, A2, n2, c2⟩) (hb.sys S) ho hv :))) ?_ | refine Y4 (Ev.makeI ratio_con rfl) ?_ | refine Y4 (Ev.invoke (t := 171) span_m (ck rfl) rfl rfl (fun w S => (span_any (n := num b v) (d := den b v) hd.1 (by omega) w :))) ?_) | (refine M1 ?_; first | refine SC ?_ | refine SD ?_) | (refine M2 ?_; refine SE ?_) | (refine M3 ?_; first | refine SG ?_ | refine SF ?_ | refine YF (Ev.call (f := 101) (ck rfl) rfl (fun w S => (exact_any (p := ⟨some ad, b.rows.length, c, A2, n2, c2⟩) (hb.sys S) ho hv :))) ?_ | refine YF (Ev.makeI ratio_con rfl) ?_ | refine YF (Ev.invoke (t := 171) span_m (ck rfl) rfl rfl (fun w S => (span_any (n := num b v) (d := den b v) hd.1 (by omega) w :))) ?_) | (refine M4 ?_; refine SR ?_) | (refine M5 ?_; first | exact M7 | refine YM ?_ | refine YN ?_ ?_))
  refine XE.retg tok Try.results94 rfl (by simp only [and_self, and_true]) (fun w' S => ?_)
  rw [e1, e2, e3]
  exact ⟨rfl, S.toBelow⟩
set_option maxHeartbeats 8000000 in
theorem Volume_any {p : BV} {b : Bas} {l : Int} {w : World} (hb : BasAt w w.heap.size p b) :
    Calls Try.prog 98 #[basV p b, .int .i64 l] w fun e w' => e = .returned (.tuple ⟨[.int .i64 (volN b l), .int .i64 (volE b l)]⟩) ∧ Below w.heap.size w w' := by
  obtain ⟨A, n, c, A2, n2, c2⟩ := p
  have hn := hb.n_eq
  simp only at hn
  subst hn
  have hmax := hb.len
  simp only at hmax
  simp only [basV, basC]
  refine enter Try.func98 rfl Try.ntmps98 rfl ?_; simp only [frame, Nat.zero_add, Nat.reduceAdd]
  repeat (first | (refine M0 ?_; first | refine SL ?_ | refine SB fun _ _ => ?_ | refine Y4 (Ev.call (f := 100) (ck rfl) rfl (fun w S => (valid_any (hb.sys S) :))) ?_) | (refine M1 ?_; first | refine SC ?_ | refine SD ?_) | (refine M2 ?_; refine SE ?_) | (refine M3 ?_; first | refine SG ?_ | refine SF ?_ | refine YF (Ev.call (f := 100) (ck rfl) rfl (fun w S => (valid_any (hb.sys S) :))) ?_) | (refine M4 ?_; refine SR ?_) | (refine M5 ?_; first | exact M7 | refine YM ?_ | refine YN ?_ ?_))
  refine XC.cond _ rfl (fun h => ?_) (fun h => ?_)
  · have hE : chkE b ≠ 0 := by simpa using h
    obtain ⟨e1, e2⟩ := vol_c (v := l) hE
    repeat (first | (refine M0 ?_; first | refine SL ?_ | refine SB fun _ _ => ?_) | (refine M1 ?_; first | refine SC ?_ | refine SD ?_) | (refine M2 ?_; refine SE ?_) | (refine M3 ?_; first | refine SG ?_ | refine SF ?_) | (refine M4 ?_; refine SR ?_) | (refine M5 ?_; first | exact M7 | refine YM ?_ | refine YN ?_ ?_))
    refine XE.retg tok Try.results98 rfl (by simp only [and_self, and_true]) (fun w' S => ?_)
    rw [e1, e2]
    exact ⟨rfl, S.toBelow⟩
  have hE : chkE b = 0 := by simpa using h
  have ho := (ok_of hE).rowsOk
  have h2 := ho.n2
  have h12 := ho.n12
  obtain ⟨ad, rfl, hlt⟩ := hb.rows.addr (by simp only; omega)
  repeat (first | (refine M0 ?_; first | refine SL ?_ | refine SB fun _ _ => ?_ | refine Y4 (Ev.load_old tok rfl rfl (add_lt2 hlt) (hb.rowLevel (i := 0) (by omega))) ?_ | refine Y4 (Ev.call (f := 73) (ck rfl) rfl (fun w S => out_any _ _ _ w)) ?_) | (refine M1 ?_; first | refine SC ?_ | refine SD ?_) | (refine M2 ?_; refine SE ?_) | (refine M3 ?_; first | refine SG ?_ | refine SF ?_ | refine YF (Ev.load_old tok rfl rfl (add_lt2 hlt) (hb.rowLevel (i := 0) (by omega))) ?_ | refine YF (Ev.call (f := 73) (ck rfl) rfl (fun w S => out_any _ _ _ w)) ?_) | (refine M4 ?_; refine SR ?_) | (refine M5 ?_; first | exact M7 | refine YM ?_ | refine YN ?_ ?_))
  refine XC.cond _ rfl (fun h4 => ?_) (fun h4 => ?_)
  · obtain ⟨e1, e2⟩ := vol_7 hE h4
    repeat (first | (refine M0 ?_; first | refine SL ?_ | refine SB fun _ _ => ?_) | (refine M1 ?_; first | refine SC ?_ | refine SD ?_) | (refine M2 ?_; refine SE ?_) | (refine M3 ?_; first | refine SG ?_ | refine SF ?_) | (refine M4 ?_; refine SR ?_) | (refine M5 ?_; first | exact M7 | refine YM ?_ | refine YN ?_ ?_))
    refine XE.retg tok Try.results98 rfl (by simp only [and_self, and_true]) (fun w' S => ?_)
    rw [e1, e2]
    exact ⟨rfl, S.toBelow⟩
  obtain ⟨e1, e2⟩ := vol_0 hE h4
  have hl := outB_f.1 h4
  obtain ⟨i1, i2, i3⟩ := lseg_spec ho hl.1
  repeat (first | (refine M0 ?_; first | refine SL ?_ | refine SB fun _ _ => ?_) | (refine M1 ?_; first | refine SC ?_ | refine SD ?_) | (refine M2 ?_; refine SE ?_) | (refine M3 ?_; first | refine SG ?_ | refine SF ?_) | (refine M4 ?_; refine SR ?_) | (refine M5 ?_; first | exact M7 | refine YM ?_ | refine YN ?_ ?_))
  refine XC.loopk [1, 2] rfl (fun i : Int => [(7, .int .i64 i)]) (fun _ => [_]) (fun _ => w)
    (fun i => (lseg b l : Int) ≤ i ∧ i ≤ (b.rows.length : Int) - 2 ∧ ∀ j : Nat, i < j → (j : Int) ≤ (b.rows.length : Int) - 2 → l < (b.row j).level) (fun i => i.toNat) ((b.rows.length : Int) - 2)
    ⟨by omega, Int.le_refl _, fun j h5 h6 => by omega⟩ ZZSUB (fun _ h => h) ?_
  rintro i ⟨h5, h6, h7⟩
  obtain ⟨k, rfl⟩ : ∃ k : Nat, i = (k : Int) := ⟨i.toNat, by omega⟩
  have hk : k + 1 < b.rows.length := by omega
  dsimp only [List.cons_append, List.nil_append]
  repeat (first | (refine M0 ?_; first | refine SL ?_ | refine SB fun _ _ => ?_ | refine Y4 (Ev.load_old tok rfl rfl (add_lt2 hlt) (hb.rowLevel (i := k) (by omega))) ?_) | (refine M1 ?_; first | refine SC ?_ | refine SD ?_) | (refine M2 ?_; refine SE ?_) | (refine M3 ?_; first | refine SG ?_ | refine SF ?_ | refine YF (Ev.load_old tok rfl rfl (add_lt2 hlt) (hb.rowLevel (i := k) (by omega))) ?_) | (refine M4 ?_; refine SR ?_) | (refine M5 ?_; first | exact M7 | refine YM ?_ | refine YN ?_ ?_))
  refine XC.cond _ rfl (fun h8 => ?_) (fun h8 => ?_)
  · have h9 : l < (b.row k).level := by simpa using h8
    have h10 : lseg b l ≠ k := fun e => by rw [← e] at h9; omega
    repeat (first | (refine M0 ?_; first | refine SL ?_ | refine SB fun _ _ => ?_) | (refine M1 ?_; first | refine SC ?_ | refine SD ?_) | (refine M2 ?_; refine SE ?_) | (refine M3 ?_; first | refine SG ?_ | refine SF ?_) | (refine M4 ?_; refine SR ?_) | (refine M5 ?_; first | exact M7 | refine YM ?_ | refine YN ?_ ?_))
    refine XE.round (s := (k : Int)) ((k : Int) - 1) ⟨by omega, by omega, fun j hj hj2 => ?_⟩ (by omega) ZZSUB (fun _ h => h)
    by_cases e : j = k
    · subst e; exact h9
    · exact h7 j (by omega) hj2
  · have h9 : (b.row k).level ≤ l := by
      have : ¬ l < (b.row k).level := by simpa using h8
      omega
    have hki : lseg b l = k := by
      rcases Nat.lt_or_ge (lseg b l) k with h10 | h10
      · have := i3 k h10 hk; omega
      · omega
    have hup := ho.levelUp k hk
    have hvp := ho.volUp k hk
    have v1 := ho.vol k (by omega)
    have v2 := ho.vol (k + 1) hk
    have l1 := ho.level k (by omega)
    have l2 := ho.level (k + 1) hk
    have hmul := mul_bd (X := 40000) (Y := 1000000000) (x := l - (b.row k).level) (y := (b.row (k + 1)).vol - (b.row k).vol) (by omega) (by omega)
    have hnn : 0 ≤ (l - (b.row k).level) * ((b.row (k + 1)).vol - (b.row k).vol) := Int.mul_nonneg (by omega) (by omega)
    have hdiv : ((l - (b.row k).level) * ((b.row (k + 1)).vol - (b.row k).vol)).tdiv ((b.row (k + 1)).level - (b.row k).level) = (l - (b.row k).level) * ((b.row (k + 1)).vol - (b.row k).vol) / ((b.row (k + 1)).level - (b.row k).level) := Int.tdiv_eq_ediv_of_nonneg hnn
    have hd0 : 0 ≤ (l - (b.row k).level) * ((b.row (k + 1)).vol - (b.row k).vol) / ((b.row (k + 1)).level - (b.row k).level) := Int.ediv_nonneg hnn (by omega)
    have hd1 : (l - (b.row k).level) * ((b.row (k + 1)).vol - (b.row k).vol) / ((b.row (k + 1)).level - (b.row k).level) ≤ (l - (b.row k).level) * ((b.row (k + 1)).vol - (b.row k).vol) := Int.ediv_le_self _ hnn
    repeat (first | (refine M0 ?_; first | refine SL ?_ | refine SB fun _ _ => ?_) | (refine M1 ?_; first | refine SC ?_ | refine SD ?_) | (refine M2 ?_; refine SE ?_) | (refine M3 ?_; first | refine SG ?_ | refine SF ?_) | (refine M4 ?_; refine SR ?_) | (refine M5 ?_; first | exact M7 | refine YM ?_ | refine YN ?_ ?_))
    refine XC.cutln [1] rfl (fun s : Nat × Nat => [(8, .pointer (some ⟨s.1, 0, none⟩)), (9, .pointer (some ⟨s.2, 0, none⟩))]) (fun s => [(s.1, cel 96 (rowC (b.row k))), (s.2, cel 96 (rowC (b.row (k + 1))))]) (fun s => w.heap.size ≤ s.1 ∧ w.heap.size ≤ s.2) ?_ ?_
    · refine XC.drawR _ [0, 1, 2, 3, 4, 5, 6, 7, 8, 9, 10] [11, 12, 13, 14] mixed (fun _ h => h) rfl (by kernel_rfl) ?_
      repeat (any_goals (first | (refine M0 ?_; first | refine SL ?_ | refine SB fun _ _ => ?_ | (refine XL.split _ _ rfl (fun h => ?_) (fun h => ?_) <;> rw [h]) | refine Y4 (Ev.load_old_agg tok (rowC (b.row k)) rfl rfl rfl (add_lt hlt) (hb.row (by omega))) ?_ | refine Y4 (Ev.load_old_agg tok (rowC (b.row (k + 1))) rfl rfl rfl (add_lt hlt) (hb.row hk)) ?_) | (refine M1 ?_; first | refine SC ?_ | refine SD ?_ | refine XC.cond _ rfl (fun h => ?_) (fun h => ?_)) | (refine M2 ?_; refine SE ?_) | (refine M3 ?_; first | refine SG ?_ | refine SF ?_ | (refine Fw.split _ _ rfl (fun h => ?_) (fun h => ?_) <;> rw [h]) | refine YF (Ev.load_old_agg tok (rowC (b.row k)) rfl rfl rfl (add_lt hlt) (hb.row (by omega))) ?_ | refine YF (Ev.load_old_agg tok (rowC (b.row (k + 1))) rfl rfl rfl (add_lt hlt) (hb.row hk)) ?_) | (refine M4 ?_; refine SR ?_) | (refine M5 ?_; first | exact M7 | refine YM ?_ | refine YN ?_ ?_)))
      all_goals
        refine XE.leaf (_, _) ZZSUB (fun _ S' => by first | exact S' | exact S'.perm (by repeat (first | exact List.Perm.refl _ | refine perm1 ?_ | refine List.Perm.cons _ ?_ | refine perm2 ?_)) | exact (S'.pop (by assumption)) | exact (S'.pop2 (by assumption))) ?_
        exact ⟨by assumption, by assumption⟩
    rintro ⟨g8, g9⟩ ⟨hg8, hg9⟩
    simp only at hg8 hg9
    simp only [rowC]
    dsimp only [List.cons_append, List.nil_append]
    refine XC.hint 8 2 (XC.hint 9 1 ?_)
    have hm1 : i64in ((l - (b.row k).level) * ((b.row (k + 1)).vol - (b.row k).vol)) := by unfold i64in; omega
    have hm2 : i64in ((b.row k).vol + ((l - (b.row k).level) * ((b.row (k + 1)).vol - (b.row k).vol)).tdiv ((b.row (k + 1)).level - (b.row k).level)) := by rw [hdiv]; unfold i64in; omega
    repeat (first | (refine M0 ?_; first | refine SL ?_ | refine SB fun _ _ => ?_) | (refine M1 ?_; first | refine SC ?_ | refine SD ?_) | (refine M2 ?_; refine SE ?_) | (refine M3 ?_; first | refine SG ?_ | refine SF ?_) | (refine M4 ?_; refine SR ?_) | (refine M5 ?_; first | exact M7 | refine YM ?_ | refine YN ?_ ?_))
    refine XE.retg tok Try.results98 rfl (by simp only [and_self, and_true]) (fun w' S => ?_)
    rw [e1, e2]
    refine ⟨?_, S.toBelow⟩
    unfold volOf volAt
    rw [hki, hdiv]
    rfl
end Go.Proofs.Ytmpaiphakjogjaa.X
/-
  The plain words of layer 4: more water at first, and in each tick, is not less water later.
-/
namespace Go.Proofs.Ytmpaiphakjogjaa.Bs
set_option linter.unusedVariables false
section
variable {b : Bas} (h : Ok b)
include h
/-- what a polder would take if it had room. -/
def takeQ (b : Bas) (i : Nat) (v : Int) : Int := (b.pol i).take * (num b v - (b.pol i).sill * den b v) / den b v
/-- a state that is not less. -/
structure StaLe (b : Bas) (s s' : Sta) : Prop where
  vol : s.vol ≤ s'.vol
  fil : ∀ i, i < b.pols.length → s.f i ≤ s'.f i
/-- a tick that brings no less. -/
structure TickLe (t t' : Tick) : Prop where
  outer : t.outer ≤ t'.outer
  river : t.river ≤ t'.river
  out : t'.out ≤ t.out
end
end Go.Proofs.Ytmpaiphakjogjaa.Bs
/-
  The plain words of layer 5 (closure): tasks, what Check says, plans, what is inside.
-/
namespace Go.Proofs.Ytmpaiphakjogjaa.Bs
open Go Go.Proofs.Ytmpaiphakjogjaa.X
set_option linter.unusedVariables false
structure His where
  from_ : Int
  vals : List Int
structure CTk where
  b : Bas
  fil : List Int
  his : List His
  river : List Int
  out : Int
  limit : Int
  delay : Int
structure CPl where
  close : Int
  open_ : Int
deriving DecidableEq
def hs0 : His := ⟨0, []⟩
def CTk.h (t : CTk) (k : Nat) : His := t.his[k]?.getD hs0
def CTk.m (t : CTk) : Nat := t.his.length
def CTk.n (t : CTk) : Nat := (t.h 0).vals.length
def CTk.from_ (t : CTk) : Int := (t.h 0).from_
/-- the level outside. -/
def CTk.v (t : CTk) (k i : Nat) : Int := at0 (t.h k).vals i
/-- the fault of a history. -/
def hisErr (t : CTk) (k : Nat) : Int :=
  if (t.h k).from_ ≠ t.from_ ∨ (t.h k).vals.length ≠ t.n then 2
  else if outB (t.h k).from_ 0 (200000 - t.n + 1) || (t.h k).vals.any highB then 7 else 0
def filBad (t : CTk) : Bool := (List.range t.fil.length).any fun i => outB (at0 t.fil i) 0 (t.b.pol i).room
noncomputable def chkC (t : CTk) : Int × Int × Int :=
  if chkE t.b ≠ 0 then (1, 0, chkE t.b) else
  if outB t.m 1 8 || outB t.n 1 60 then (2, 0, 3) else
  match firstN (hisErr t) t.m with
  | some i => (2, i, hisErr t i)
  | none =>
    if t.river.length ≠ t.n then (3, 0, 2) else
    if (t.river.any fun v => outB v 0 10000000) = true then (3, 0, 7) else
    if t.fil.length ≠ t.b.pols.length then (4, 0, 2) else
    if outB t.out 0 10000000 || (outB t.limit (t.b.row 0).level 20000 || outB t.delay 0 30) then (4, 0, 7) else
    if filBad t = true then (4, 0, 7) else (0, 0, 0)
noncomputable def ctE (t : CTk) : Int := (chkC t).2.2
structure CtOk (t : CTk) : Prop where
  ok : Ok t.b
  chk : chkE t.b = 0
  m1 : 1 ≤ t.m
  m8 : t.m ≤ 8
  n1 : 1 ≤ t.n
  n60 : t.n ≤ 60
  from_ : ∀ k, k < t.m → (t.h k).from_ = t.from_
  len : ∀ k, k < t.m → (t.h k).vals.length = t.n
  frm : 0 ≤ t.from_ ∧ t.from_ ≤ 200000 - t.n + 1
  val : ∀ k i, k < t.m → i < t.n → -20000 ≤ t.v k i ∧ t.v k i ≤ 20000
  river : t.river.length = t.n
  riv : ∀ i, i < t.n → 0 ≤ at0 t.river i ∧ at0 t.river i ≤ 10000000
  filn : t.fil.length = t.b.pols.length
  fil : ∀ i, i < t.fil.length → 0 ≤ at0 t.fil i ∧ at0 t.fil i ≤ (t.b.pol i).room
  out : 0 ≤ t.out ∧ t.out ≤ 10000000
  lim : (t.b.row 0).level ≤ t.limit ∧ t.limit ≤ 20000
  dly : 0 ≤ t.delay ∧ t.delay ≤ 30
theorem any_at {l : List Int} {p : Int → Bool} (h : l.any p = false) {i : Nat} (hi : i < l.length) : p (at0 l i) = false := by
  rw [List.any_eq_false] at h
  have := h l[i] (List.getElem_mem hi)
  unfold at0
  rw [List.getElem?_eq_getElem hi]
  simpa using this
theorem firstC_val {f : Nat → Int} {n i : Nat} (h : firstN f n = some i) : i < n ∧ f i ≠ 0 ∧ ∀ j, j < i → f j = 0 := by
  induction n with
  | zero => cases h
  | succ n ih =>
    simp only [firstN] at h
    cases hx : firstN f n with
    | some j =>
      rw [hx] at h
      cases h
      obtain ⟨a, b, c⟩ := ih hx
      exact ⟨by omega, b, c⟩
    | none =>
      rw [hx] at h
      simp only at h
      by_cases hf : f n = 0
      · rw [if_pos hf] at h; cases h
      · rw [if_neg hf] at h
        cases h
        exact ⟨by omega, hf, firstN_none_iff hx⟩
theorem hisErr_0 {t : CTk} {k : Nat} (h : hisErr t k = 0) : (t.h k).from_ = t.from_ ∧ (t.h k).vals.length = t.n ∧ (0 ≤ t.from_ ∧ t.from_ ≤ 200000 - t.n + 1) ∧ ∀ i, i < t.n → -20000 ≤ t.v k i ∧ t.v k i ≤ 20000 := by
  unfold hisErr at h
  split at h
  · cases h
  rename_i h1
  split at h
  · cases h
  rename_i h2
  simp only [Bool.or_eq_true, not_or, Bool.not_eq_true] at h2
  have h3 : (t.h k).from_ = t.from_ ∧ (t.h k).vals.length = t.n := ⟨Decidable.byContradiction fun h => h1 (.inl h), Decidable.byContradiction fun h => h1 (.inr h)⟩
  have h4 := outB_f.1 h2.1
  rw [h3.1] at h4
  exact ⟨h3.1, h3.2, h4, fun i hi => outB_f.1 (any_at h2.2 (by rw [h3.2]; exact hi))⟩
theorem ctOk_of {t : CTk} (h : ctE t = 0) : CtOk t := by
  unfold ctE chkC at h
  split at h
  · rename_i h1; exact absurd h h1
  rename_i h1
  have hc : chkE t.b = 0 := by simpa using h1
  split at h
  · cases h
  rename_i h2
  simp only [Bool.or_eq_true, not_or, Bool.not_eq_true] at h2
  have a1 := outB_f.1 h2.1
  have a2 := outB_f.1 h2.2
  split at h
  · rename_i i hi
    exact absurd h (firstC_val hi).2.1
  rename_i h3
  have h3' := firstN_none_iff h3
  split at h
  · cases h
  rename_i h4
  split at h
  · cases h
  rename_i h5
  split at h
  · cases h
  rename_i h6
  split at h
  · cases h
  rename_i h7
  split at h
  · cases h
  rename_i h8
  simp only [Bool.or_eq_true, not_or, Bool.not_eq_true] at h7
  have hr : t.river.length = t.n := by simpa using h4
  refine ⟨ok_of hc, hc, by omega, by omega, by omega, by omega, fun k hk => (hisErr_0 (h3' k hk)).1, fun k hk => (hisErr_0 (h3' k hk)).2.1, (hisErr_0 (h3' 0 (by omega))).2.2.1, fun k i hk hi => (hisErr_0 (h3' k hk)).2.2.2 i hi, hr,
    fun i hi => outB_f.1 (any_at (p := fun v => outB v 0 10000000) (by simpa using h5) (by rw [hr]; exact hi)), by simpa using h6, fun i hi => ?_, outB_f.1 h7.1, outB_f.1 h7.2.1, outB_f.1 h7.2.2⟩
  unfold filBad at h8
  rw [Bool.not_eq_true, List.any_eq_false] at h8
  exact outB_f.1 (by simpa using h8 i (by simpa using hi))
/-! ### ticks, plans -/
def CTk.highAt (t : CTk) (i : Nat) : Bool := (List.range t.m).any fun k => decide (t.limit < t.v k i)
/-- the first i ticks: the one behind the last that is high. -/
def CTk.qTo (t : CTk) : Nat → Nat
  | 0 => 0
  | i + 1 => if t.highAt i = true then i + 1 else t.qTo i
def CTk.q (t : CTk) : Nat := t.qTo t.n
theorem qTo_spec (t : CTk) : ∀ n, t.qTo n ≤ n ∧ (t.qTo n = 0 ∨ ∃ i, t.qTo n = i + 1 ∧ t.highAt i = true) ∧ ∀ i, t.qTo n ≤ i → i < n → t.highAt i = false := by
  intro n
  induction n with
  | zero => exact ⟨Nat.le_refl _, .inl rfl, fun i _ h => by omega⟩
  | succ n ih =>
    unfold CTk.qTo
    split
    · rename_i h
      exact ⟨Nat.le_refl _, .inr ⟨n, rfl, h⟩, fun i h1 h2 => by omega⟩
    · rename_i h
      refine ⟨by omega, ih.2.1, fun i h1 h2 => ?_⟩
      rcases Nat.lt_or_ge i n with h3 | h3
      · exact ih.2.2 i h1 h3
      · have : i = n := by omega
        subst this
        simpa using h
theorem q_eq {t : CTk} {q : Nat} (h1 : q ≤ t.n) (h2 : q = 0 ∨ ∃ i, q = i + 1 ∧ t.highAt i = true) (h3 : ∀ i, q ≤ i → i < t.n → t.highAt i = false) : q = t.q := by
  obtain ⟨a1, a2, a3⟩ := qTo_spec t t.n
  show q = t.qTo t.n
  rcases Nat.lt_trichotomy q (t.qTo t.n) with h | h | h
  · rcases a2 with a2 | ⟨i, a2, a4⟩
    · omega
    · rw [h3 i (by omega) (by omega)] at a4; cases a4
  · exact h
  · rcases h2 with h2 | ⟨i, h2, h4⟩
    · omega
    · rw [a3 i (by omega) (by omega)] at h4; cases h4
theorem high_f {t : CTk} {i : Nat} : t.highAt i = false ↔ ∀ k, k < t.m → t.v k i ≤ t.limit := by
  unfold CTk.highAt
  rw [List.any_eq_false]
  simp
theorem high_t {t : CTk} {i : Nat} : t.highAt i = true ↔ ∃ k, k < t.m ∧ t.limit < t.v k i := by
  unfold CTk.highAt
  rw [List.any_eq_true]
  simp
def CTk.last (t : CTk) : Int := t.n - 1 - t.delay
def nev : CPl := ⟨-1, -1⟩
def CTk.plan (t : CTk) (i : Int) : CPl := ⟨t.from_ + i, t.from_ + max (t.q : Int) (i + t.delay + 1)⟩
def CTk.strange (t : CTk) (p : CPl) : Bool := decide (p ≠ nev) && (outB p.close t.from_ (t.from_ + t.last) || outB p.open_ (p.close + t.delay + 1) (t.from_ + t.n))
/-! ### what is inside -/
def CTk.tick (t : CTk) (k i : Nat) : Tick := ⟨t.v k i, at0 t.river i, t.out⟩
def CTk.vol0 (t : CTk) (k s : Nat) : Int := volOf t.b (max (t.v k s) (t.b.row 0).level)
/-- the state j ticks behind tick s, at which the gates shut; none: too great. -/
def CTk.rs (t : CTk) (k s : Nat) : Nat → Option Sta
  | 0 => some ⟨t.vol0 k s, t.fil⟩
  | j + 1 => match t.rs k s j with
    | none => none
    | some st => if stepE t.b st (t.tick k (s + j)) = 0 then some (outS t.b st (t.tick k (s + j))) else none
/-- the volumes, m of them at most. -/
def CTk.vols (t : CTk) (k s m : Nat) : List Int := (List.range m).filterMap fun j => (t.rs k s j).map (·.vol)
theorem rs_none {t : CTk} {k s : Nat} {i j : Nat} (hij : i ≤ j) (h : t.rs k s i = none) : t.rs k s j = none := by
  induction j with
  | zero => have : i = 0 := by omega
            subst this; exact h
  | succ j ih =>
    rcases Nat.lt_or_ge i (j + 1) with h1 | h1
    · unfold CTk.rs; rw [ih (by omega)]
    · have : i = j + 1 := by omega
      subst this; exact h
theorem vols_succ (t : CTk) (k s m : Nat) : t.vols k s (m + 1) = t.vols k s m ++ ((t.rs k s m).map (·.vol)).toList := by
  unfold CTk.vols
  rw [List.range_succ, List.filterMap_append]
  cases h : t.rs k s m <;> simp [h]
theorem vols_len {t : CTk} {k s : Nat} : ∀ {m j : Nat} {st : Sta}, j ≤ m → t.rs k s j = some st → j ≤ (t.vols k s m).length := by
  intro m
  induction m with
  | zero => intro j st hj _; omega
  | succ m ih =>
    intro j st hj h
    rw [vols_succ, List.length_append]
    rcases Nat.lt_or_ge m j with h1 | h1
    · have : j = m + 1 := by omega
      subst this
      cases hm : t.rs k s m with
      | none => rw [rs_none (by omega) hm] at h; cases h
      | some x => have := ih (Nat.le_refl m) hm; simp; omega
    · have := ih h1 h; omega
theorem vols_le {t : CTk} {k s : Nat} : ∀ {m : Nat}, (t.vols k s m).length ≤ m := by
  intro m
  induction m with
  | zero => simp [CTk.vols]
  | succ m ih =>
    rw [vols_succ, List.length_append]
    have : ((t.rs k s m).map (·.vol)).toList.length ≤ 1 := by cases t.rs k s m <;> simp
    omega
/-- as long as nothing is too great, it has all m. -/
theorem vols_full {t : CTk} {k s m : Nat} {st : Sta} (h : t.rs k s m = some st) : (t.vols k s m).length = m := by
  have := vols_len (Nat.le_refl m) h
  have := @vols_le t k s m
  omega
theorem vols_at {t : CTk} {k s : Nat} : ∀ {m j : Nat}, j < m → (t.vols k s m)[j]? = (t.rs k s j).map (·.vol) := by
  intro m
  induction m with
  | zero => intro j h; omega
  | succ m ih =>
    intro j hj
    rw [vols_succ]
    rcases Nat.lt_or_ge j m with h | h
    · cases hr : t.rs k s j with
      | none =>
        have h1 := ih h
        rw [hr] at h1
        have h2 : (t.vols k s m).length ≤ j := by simpa using h1
        have h3 : t.rs k s m = none := rs_none (by omega) hr
        rw [h3]
        simpa using h2
      | some st =>
        have h1 := ih h
        rw [hr] at h1
        rw [List.getElem?_append_left (List.getElem?_eq_some_iff.1 h1).1, h1]
    · have : j = m := by omega
      subst this
      cases hr : t.rs k s j with
      | none =>
        have h2 := @vols_le t k s j
        simp only [Option.map_none, Option.toList_none, List.append_nil]
        exact List.getElem?_eq_none h2
      | some st =>
        have h2 := vols_full hr
        rw [List.getElem?_append_right (by omega), h2]
        simp
/-- behind the first that is too great no more come. -/
theorem vols_stop {t : CTk} {k s m m' : Nat} (h : t.rs k s m = none) (hm : m ≤ m') : t.vols k s m' = t.vols k s m := by
  induction m' with
  | zero => have : m = 0 := by omega
            subst this; rfl
  | succ m' ih =>
    rcases Nat.lt_or_ge m (m' + 1) with h1 | h1
    · rw [vols_succ, ih (by omega), rs_none (by omega) h]; simp
    · have : m = m' + 1 := by omega
      subst this; rfl
theorem rs_ok {t : CTk} (ho : CtOk t) {k s : Nat} (hk : k < t.m) (hs : s < t.n) : ∀ {j : Nat} {st : Sta}, t.rs k s j = some st → StaOk t.b st := by
  intro j
  induction j with
  | zero =>
    intro st h
    simp only [CTk.rs, Option.some.injEq] at h
    subst h
    have h1 : (t.b.row 0).level ≤ max (t.v k s) (t.b.row 0).level := by omega
    exact ⟨ho.filn, volOf_ge ho.ok.rowsOk h1, fun i hi => ho.fil i (by rw [ho.filn]; exact hi)⟩
  | succ j ih =>
    intro st h
    simp only [CTk.rs] at h
    cases hr : t.rs k s j with
    | none => rw [hr] at h; cases h
    | some x =>
      rw [hr] at h
      simp only at h
      split at h
      · rename_i he
        cases h
        rw [outS, if_pos he]
        exact stepS_ok ho.ok (ih hr) he
      · cases h
/-- what is inside: whether it is a volume (shut), and the number. -/
structure Lv where
  shut : Bool
  n : Int
def CTk.shutI (t : CTk) (p : CPl) : Int := p.close - t.from_ + t.delay
def CTk.isOpen (t : CTk) (p : CPl) (i : Nat) : Bool := decide (p = nev) || (decide ((i : Int) ≤ t.shutI p) || decide (p.open_ - t.from_ ≤ (i : Int)))
def CTk.ins (t : CTk) (k : Nat) (p : CPl) (i : Nat) : Option Lv :=
  if t.isOpen p i = true then some ⟨false, t.v k i⟩
  else (t.rs k (t.shutI p).toNat (i - (t.shutI p).toNat)).map fun st => ⟨true, st.vol⟩
noncomputable def CTk.lo (t : CTk) (x : Lv) : Int := if x.shut = true then lvlLo t.b x.n else x.n
noncomputable def CTk.hi (t : CTk) (x : Lv) : Int := if x.shut = true then lvlHi t.b x.n else x.n
/-- above the limit. -/
noncomputable def CTk.above (t : CTk) (k : Nat) (p : CPl) (i : Nat) : Bool := match t.ins k p i with
  | none => true
  | some x => decide (t.limit < t.hi x)
/-- the first i below n of which something is so. -/
def firstB (f : Nat → Bool) : Nat → Option Nat
  | 0 => none
  | n + 1 => match firstB f n with
    | some i => some i
    | none => if f n = true then some n else none
theorem firstB_none {f : Nat → Bool} : ∀ {n : Nat}, firstB f n = none ↔ ∀ j, j < n → f j = false := by
  intro n
  induction n with
  | zero => simp [firstB]
  | succ n ih =>
    unfold firstB
    cases hx : firstB f n with
    | some i =>
      constructor
      · intro h; cases h
      · intro h
        rw [ih.2 fun j hj => h j (by omega)] at hx; cases hx
    | none =>
      simp only
      have h0 := ih.1 hx
      constructor
      · intro h j hj
        rcases Nat.lt_or_ge j n with h1 | h1
        · exact h0 j h1
        · have : j = n := by omega
          subst this
          by_cases h2 : f j = true
          · rw [if_pos h2] at h; cases h
          · simpa using h2
      · intro h
        rw [if_neg (by simp [h n (by omega)])]
theorem firstB_some {f : Nat → Bool} : ∀ {n i : Nat}, firstB f n = some i ↔ i < n ∧ f i = true ∧ ∀ j, j < i → f j = false := by
  intro n
  induction n with
  | zero => intro i; simp [firstB]
  | succ n ih =>
    intro i
    unfold firstB
    cases hx : firstB f n with
    | some i' =>
      obtain ⟨a1, a2, a3⟩ := ih.1 hx
      constructor
      · intro h; cases h; exact ⟨by omega, a2, a3⟩
      · rintro ⟨b1, b2, b3⟩
        show some i' = some i
        congr 1
        rcases Nat.lt_trichotomy i' i with h | h | h
        · rw [b3 i' h] at a2; cases a2
        · exact h
        · rw [a3 i h] at b2; cases b2
    | none =>
      have h0 := firstB_none.1 hx
      simp only
      constructor
      · intro h
        by_cases h2 : f n = true
        · rw [if_pos h2] at h; cases h; exact ⟨by omega, h2, h0⟩
        · rw [if_neg h2] at h; cases h
      · rintro ⟨b1, b2, b3⟩
        have : i = n := by
          rcases Nat.lt_or_ge i n with h1 | h1
          · rw [h0 i h1] at b2; cases b2
          · omega
        subst this
        rw [if_pos b2]
noncomputable def CTk.fails (t : CTk) (k : Nat) (p : CPl) : Option Nat := firstB (t.above k p) t.n
noncomputable def CTk.holds (t : CTk) (k : Nat) (p : CPl) : Bool := (t.fails k p).isNone
/-- for which histories. -/
noncomputable def CTk.holdL (t : CTk) (p : CPl) : List Bool := (List.range t.m).map fun k => t.holds k p
/-- one history alone. -/
def CTk.alone (t : CTk) (k : Nat) : CTk := { t with his := [t.h k] }
/-- from 0 up to n the last one of which something is so. -/
def lastB (f : Nat → Bool) : Nat → Option Nat
  | 0 => none
  | n + 1 => if f n = true then some n else lastB f n
theorem lastB_none {f : Nat → Bool} : ∀ {n : Nat}, lastB f n = none ↔ ∀ j, j < n → f j = false := by
  intro n
  induction n with
  | zero => simp [lastB]
  | succ n ih =>
    unfold lastB
    by_cases h : f n = true
    · rw [if_pos h]
      constructor
      · intro h1; cases h1
      · intro h1; rw [h1 n (by omega)] at h; cases h
    · rw [if_neg h, ih]
      constructor
      · intro h1 j hj
        rcases Nat.lt_or_ge j n with h2 | h2
        · exact h1 j h2
        · have : j = n := by omega
          subst this; simpa using h
      · intro h1 j hj; exact h1 j (by omega)
theorem lastB_some {f : Nat → Bool} : ∀ {n i : Nat}, lastB f n = some i ↔ i < n ∧ f i = true ∧ ∀ j, i < j → j < n → f j = false := by
  intro n
  induction n with
  | zero => intro i; simp [lastB]
  | succ n ih =>
    intro i
    unfold lastB
    by_cases h : f n = true
    · rw [if_pos h]
      constructor
      · intro h1; cases h1; exact ⟨by omega, h, fun j h2 h3 => by omega⟩
      · rintro ⟨b1, b2, b3⟩
        congr 1
        rcases Nat.lt_or_ge i n with h2 | h2
        · rw [b3 n h2 (by omega)] at h; cases h
        · omega
    · rw [if_neg h, ih]
      constructor
      · rintro ⟨b1, b2, b3⟩
        refine ⟨by omega, b2, fun j h2 h3 => ?_⟩
        rcases Nat.lt_or_ge j n with h4 | h4
        · exact b3 j h2 h4
        · have : j = n := by omega
          subst this; simpa using h
      · rintro ⟨b1, b2, b3⟩
        have : i < n := by
          rcases Nat.lt_or_ge i n with h2 | h2
          · exact h2
          · have : i = n := by omega
            subst this; exact absurd b2 h
        exact ⟨this, b2, fun j h2 h3 => b3 j h2 (by omega)⟩
/-- how many ticks closing can begin at. -/
def CTk.beg (t : CTk) : Nat := (t.last + 1).toNat
end Go.Proofs.Ytmpaiphakjogjaa.Bs
/-
  The plain words of layer 5 (closure): rules, witnesses, peaks, decisions.
-/
namespace Go.Proofs.Ytmpaiphakjogjaa.Bs
open Go Go.Proofs.Ytmpaiphakjogjaa.X
set_option linter.unusedVariables false
structure CRu where
  count : Int
  early : Int
noncomputable def ruE (t : CTk) (r : CRu) : Int := if ctE t ≠ 0 then ctE t else if outB r.count 1 8 || outB r.early 0 60 then 7 else 0
structure RuOk (r : CRu) : Prop where
  count : 1 ≤ r.count ∧ r.count ≤ 8
  early : 0 ≤ r.early ∧ r.early ≤ 60
theorem ruE_0 {t : CTk} {r : CRu} (h : ruE t r = 0) : ctE t = 0 ∧ CtOk t ∧ RuOk r := by
  unfold ruE at h
  split at h
  · rename_i h1; exact absurd h h1
  rename_i h1
  split at h
  · cases h
  rename_i h2
  have h1' : ctE t = 0 := by simpa using h1
  simp only [Bool.or_eq_true, not_or, Bool.not_eq_true] at h2
  exact ⟨h1', ctOk_of h1', outB_f.1 h2.1, outB_f.1 h2.2⟩
/-- the first tick at which a history is high. -/
def CTk.fst (t : CTk) (k : Nat) : Option Nat := firstB (fun i => decide (t.limit < t.v k i)) t.n
/-- of the first k histories those that are high at some tick. -/
def CTk.fldTo (t : CTk) (k : Nat) : List Nat := (List.range k).filter fun j => (t.fst j).isSome
def CTk.fld (t : CTk) : List Nat := t.fldTo t.m
/-- the first tick at which one of the first k histories is high. -/
def CTk.lstTo (t : CTk) : Nat → Nat
  | 0 => t.n
  | k + 1 => match t.fst k with
    | none => t.lstTo k
    | some i => min (t.lstTo k) i
def CTk.lst (t : CTk) : Nat := t.lstTo t.m
theorem fldTo_succ (t : CTk) (k : Nat) : t.fldTo (k + 1) = t.fldTo k ++ (if (t.fst k).isSome = true then [k] else []) := by
  unfold CTk.fldTo
  rw [List.range_succ, List.filter_append]
  congr 1
  rw [List.filter_cons, List.filter_nil]
theorem lstTo_le (t : CTk) : ∀ k, t.lstTo k ≤ t.n := by
  intro k
  induction k with
  | zero => exact Nat.le_refl _
  | succ k ih =>
    unfold CTk.lstTo
    split
    · exact ih
    · omega
theorem fldTo_len (t : CTk) : ∀ k, (t.fldTo k).length ≤ k := by
  intro k
  have := List.length_filter_le (fun j => (t.fst j).isSome) (List.range k)
  simpa [CTk.fldTo] using this
def CTk.called (t : CTk) (r : CRu) : Bool := decide (r.count ≤ (t.fld.length : Int))
/-- from which index on it is allowed. -/
def CTk.frmI (t : CTk) (r : CRu) : Int := max 0 ((t.lst : Int) - r.early)
def CTk.may (t : CTk) (r : CRu) (i : Int) : Bool := t.called r && !outB i (t.frmI r) t.last
def CTk.allowed (t : CTk) (r : CRu) (tick : Int) : Bool := !outB tick t.from_ (t.from_ + t.n - 1) && t.may r (tick - t.from_)
/-- the first witness against the plan from an index. -/
noncomputable def CTk.wit (t : CTk) (i : Int) : Option (Nat × Nat) := match firstB (fun k => (t.fails k (t.plan i)).isSome) t.m with
  | none => none
  | some k => (t.fails k (t.plan i)).map fun a => (k, a)
noncomputable def CTk.notL (t : CTk) (i : Int) : List Nat := (List.range t.m).filter fun k => (t.fails k (t.plan i)).isSome
theorem wit_none {t : CTk} {i : Int} : t.wit i = none ↔ ∀ k, k < t.m → t.holds k (t.plan i) = true := by
  unfold CTk.wit
  cases h : firstB (fun k => (t.fails k (t.plan i)).isSome) t.m with
  | none =>
    have := firstB_none.1 h
    refine ⟨fun _ k hk => ?_, fun _ => rfl⟩
    have h1 := this k hk
    unfold CTk.holds
    cases hf : t.fails k (t.plan i) with
    | none => rfl
    | some a => rw [hf] at h1; cases h1
  | some k =>
    obtain ⟨a1, a2, a3⟩ := firstB_some.1 h
    obtain ⟨a, ha⟩ := Option.isSome_iff_exists.1 a2
    simp only
    rw [ha]
    constructor
    · intro h1; cases h1
    · intro h1
      have := h1 k a1
      unfold CTk.holds at this
      rw [ha] at this; cases this
def lvD : Option Lv → Lv
  | none => ⟨true, 0⟩
  | some x => x
/-- greater inside, as the document says it. -/
noncomputable def CTk.gt (t : CTk) (x y : Lv) : Bool :=
  if x.shut = y.shut then decide (y.n < x.n) else if x.shut = true then decide (y.n < t.hi x) else decide (t.lo y < x.n)
/-- the first of the first i ticks (1 at least) at which what is inside is greatest. -/
noncomputable def CTk.pkTo (t : CTk) (k : Nat) (p : CPl) : Nat → Nat
  | 0 => 0
  | i + 1 => if 0 < i ∧ t.gt (lvD (t.ins k p i)) (lvD (t.ins k p (t.pkTo k p i))) = true then i else t.pkTo k p i
theorem pkTo_lt (t : CTk) (k : Nat) (p : CPl) : ∀ i, 0 < i → t.pkTo k p i < i := by
  intro i
  induction i with
  | zero => intro h; omega
  | succ i ih =>
    intro _
    unfold CTk.pkTo
    split
    · omega
    · rcases Nat.eq_zero_or_pos i with h | h
      · subst h; unfold CTk.pkTo; omega
      · have := ih h; omega
noncomputable def CTk.pkAt (t : CTk) (k : Nat) (p : CPl) : Int := t.from_ + t.pkTo k p t.n
noncomputable def CTk.pkLv (t : CTk) (k : Nat) (p : CPl) : Int := t.hi (lvD (t.ins k p (t.pkTo k p t.n)))
/-- two numbers: a peak's tick and level; a witness's history and tick. -/
abbrev II := Int × Int
noncomputable def CTk.peak (t : CTk) (p : CPl) (k : Nat) : II := (t.pkAt k p, t.pkLv k p)
noncomputable def CTk.peaks (t : CTk) (p : CPl) : List II := (List.range t.m).map (t.peak p)
noncomputable def CTk.witC (t : CTk) (i : Int) : II := match t.wit i with
  | none => (0, 0)
  | some (k, a) => ((k : Nat), t.from_ + (a : Nat))
structure CDe where
  plan : CPl
  peaks : List II
  later : List II
def CDe.zero : CDe := ⟨⟨0, 0⟩, [], []⟩
/-- the last index from which the plan holds for all. -/
noncomputable def CTk.lastOk (t : CTk) : Option Nat := lastB (fun i => (t.wit (i : Nat)).isNone) t.beg
noncomputable def CTk.laterL (t : CTk) (i : Nat) : List II := (List.range (t.beg - (i + 1))).map fun j => t.witC ((i + 1 + j : Nat) : Int)
noncomputable def CTk.decE (t : CTk) (r : CRu) : Int :=
  if ruE t r ≠ 0 then ruE t r else if t.called r = false then 0 else match t.lastOk with
  | none => 9
  | some i => if t.may r (i : Nat) = true then 0 else 9
noncomputable def CTk.decD (t : CTk) (r : CRu) : CDe :=
  if ruE t r ≠ 0 then CDe.zero else if t.called r = false then ⟨nev, t.peaks nev, []⟩ else match t.lastOk with
  | none => CDe.zero
  | some i => if t.may r (i : Nat) = true then ⟨t.plan (i : Nat), t.peaks (t.plan (i : Nat)), t.laterL i⟩ else CDe.zero
/-- whether a witness rules an index out. -/
noncomputable def CTk.rules (t : CTk) (i : Int) (w : II) : Bool :=
  !outB w.1 0 ((t.m : Int) - 1) && (!outB w.2 t.from_ (t.from_ + t.n - 1) && t.above w.1.toNat (t.plan i) (w.2 - t.from_).toNat)
/-- which index, which error: a decision's. -/
noncomputable def CTk.acc (t : CTk) (r : CRu) (d : CDe) : Int × Int :=
  if ruE t r ≠ 0 then (0, ruE t r) else
  if t.strange d.plan = true ∨ d.peaks.length ≠ t.m then (0, 2) else
  if (if d.plan = nev then t.called r else !t.may r (d.plan.close - t.from_)) = true then (0, 150) else
  if d.plan ≠ nev ∧ (d.plan ≠ t.plan (d.plan.close - t.from_) ∨ t.wit (d.plan.close - t.from_) ≠ none) then (0, 151) else
  match firstB (fun k => decide (d.peaks[k]?.getD (0, 0) ≠ t.peak d.plan k)) t.m with
  | some k => ((k : Nat), 152)
  | none =>
    if (d.later.length : Int) ≠ (if d.plan = nev then 0 else t.last - (d.plan.close - t.from_)) then (0, 2) else
    match firstB (fun k => !t.rules (d.plan.close - t.from_ + 1 + (k : Nat)) (d.later[k]?.getD (0, 0))) d.later.length with
    | some k => ((k : Nat), 153)
    | none => (0, 0)
/-- the best index: the fewest fail, and of these the last. -/
noncomputable def CTk.bstTo (t : CTk) (r : CRu) : Nat → Option Nat
  | 0 => none
  | i + 1 => if t.may r (i : Nat) = true then match t.bstTo r i with
      | none => some i
      | some j => if (t.notL (i : Nat)).length ≤ (t.notL (j : Nat)).length then some i else some j
    else t.bstTo r i
noncomputable def CTk.bst (t : CTk) (r : CRu) : Option Nat := t.bstTo r t.n
noncomputable def CTk.bstE (t : CTk) (r : CRu) : Int :=
  if ruE t r ≠ 0 then ruE t r else if t.called r = false then 0 else match t.bst r with
  | none => 9
  | some _ => 0
noncomputable def CTk.bstP (t : CTk) (r : CRu) : CPl :=
  if ruE t r ≠ 0 then ⟨0, 0⟩ else if t.called r = false then nev else match t.bst r with
  | none => ⟨0, 0⟩
  | some i => t.plan (i : Nat)
noncomputable def CTk.bstN (t : CTk) (r : CRu) : List Int :=
  if ruE t r ≠ 0 then [] else if t.called r = false then t.fld.map fun k => ((k : Nat) : Int) else match t.bst r with
  | none => []
  | some i => (t.notL (i : Nat)).map fun k => ((k : Nat) : Int)
/-- the last index from which the plan holds for a history alone. -/
noncomputable def CTk.lasI (t : CTk) (k : Nat) : Option Nat := lastB (fun i => (t.alone k).holds 0 ((t.alone k).plan (i : Nat))) t.beg
noncomputable def CTk.lasE (t : CTk) (k : Int) : Int :=
  if ctE t ≠ 0 then ctE t else if outB k 0 ((t.m : Int) - 1) then 4 else match t.lasI k.toNat with
  | none => 9
  | some _ => 0
noncomputable def CTk.lasN (t : CTk) (k : Int) : Int :=
  if ctE t ≠ 0 then 0 else if outB k 0 ((t.m : Int) - 1) then 0 else match t.lasI k.toNat with
  | none => 0
  | some i => t.from_ + (i : Nat)
theorem alone_ok {t : CTk} (h : CtOk t) {k : Nat} (hk : k < t.m) : CtOk (t.alone k) := by
  have e0 : (t.alone k).h 0 = t.h k := rfl
  have en : (t.alone k).n = t.n := h.len k hk
  have ef : (t.alone k).from_ = t.from_ := h.from_ k hk
  refine ⟨h.ok, h.chk, Nat.le_refl _, by show 1 ≤ 8; decide, by rw [en]; exact h.n1, by rw [en]; exact h.n60, fun j hj => ?_, fun j hj => ?_, by rw [en, ef]; exact h.frm, fun j i hj hi => ?_, by rw [en]; exact h.river, fun i hi => h.riv i (by rw [en] at hi; exact hi), h.filn, h.fil, h.out, h.lim, h.dly⟩
  · have : j = 0 := by have : j < 1 := hj; omega
    subst this; rfl
  · have : j = 0 := by have : j < 1 := hj; omega
    subst this; rfl
  · have : j = 0 := by have : j < 1 := hj; omega
    subst this
    rw [en] at hi
    exact h.val k i hk hi
end Go.Proofs.Ytmpaiphakjogjaa.Bs
/-
  Plain laws of layer 5 (closure): a lower history; opening as early as can be; decisions and their proofs.
-/
namespace Go.Proofs.Ytmpaiphakjogjaa.Bs
open Go Go.Proofs.Ytmpaiphakjogjaa.X
set_option linter.unusedVariables false
/-- the same task, but for histories, of which one is nowhere above. -/
structure Same5 (t u : CTk) : Prop where
  b : u.b = t.b
  fil : u.fil = t.fil
  river : u.river = t.river
  out : u.out = t.out
  delay : u.delay = t.delay
  n : u.n = t.n
  from_ : u.from_ = t.from_
theorem lvl_in {t : CTk} (ht : CtOk t) {st : Sta} (h : StaOk t.b st) : lvlLo t.b st.vol = levLo t.b st.vol ∧ lvlHi t.b st.vol = levHi t.b st.vol := (lvl_0 ht.chk (outB_f.2 h.vol)).2
theorem holds_iff {t : CTk} {k : Nat} {p : CPl} : t.holds k p = true ↔ ∀ i, i < t.n → t.above k p i = false := by
  unfold CTk.holds CTk.fails
  rw [Option.isNone_iff_eq_none]
  exact firstB_none
theorem above_f {t : CTk} {k : Nat} {p : CPl} {i : Nat} : t.above k p i = false ↔ ∃ x, t.ins k p i = some x ∧ t.hi x ≤ t.limit := by
  unfold CTk.above
  cases h : t.ins k p i with
  | none => simp
  | some x => simp
theorem strange_f {t : CTk} {p : CPl} (hp : t.strange p = false) (hn : p ≠ nev) : (t.from_ ≤ p.close ∧ p.close ≤ t.from_ + t.last) ∧ (p.close + t.delay + 1 ≤ p.open_ ∧ p.open_ ≤ t.from_ + t.n) := by
  unfold CTk.strange at hp
  rw [decide_eq_true hn, Bool.true_and, Bool.or_eq_false_iff] at hp
  exact ⟨outB_f.1 hp.1, outB_f.1 hp.2⟩
theorem q_le (t : CTk) : t.q ≤ t.n := (qTo_spec t t.n).1
/-- the plan from an index at which closing can begin is a plan. -/
theorem plan_ok {t : CTk} (ht : CtOk t) {i : Int} (h0 : 0 ≤ i) (h1 : i ≤ t.last) : t.strange (t.plan i) = false ∧ t.plan i ≠ nev := by
  have hf := ht.frm
  have hd := ht.dly
  have hq := q_le t
  constructor
  · unfold CTk.strange
    rw [Bool.and_eq_false_iff]
    right
    rw [Bool.or_eq_false_iff]
    unfold CTk.last at h1
    constructor
    · exact outB_f.2 (by unfold CTk.plan CTk.last; simp only; omega)
    · exact outB_f.2 (by unfold CTk.plan; simp only; omega)
  · intro h
    have : (t.plan i).close = -1 := by rw [h]; rfl
    unfold CTk.plan at this
    simp only at this
    omega
end Go.Proofs.Ytmpaiphakjogjaa.Bs
/-
  Plain laws of layer 5 (closure): decisions and their proofs; the best plan; less.
-/
namespace Go.Proofs.Ytmpaiphakjogjaa.Bs
open Go Go.Proofs.Ytmpaiphakjogjaa.X
set_option linter.unusedVariables false
theorem nev_ok (t : CTk) : t.strange nev = false := by unfold CTk.strange; simp
theorem beg_lt {t : CTk} {i : Nat} : i < t.beg ↔ (i : Int) ≤ t.last := by unfold CTk.beg; omega
theorem lastOk_some {t : CTk} {i : Nat} : t.lastOk = some i ↔ (i : Int) ≤ t.last ∧ t.wit (i : Nat) = none ∧ ∀ j : Nat, i < j → (j : Int) ≤ t.last → t.wit (j : Nat) ≠ none := by
  unfold CTk.lastOk
  rw [lastB_some, beg_lt]
  simp only [Option.isNone_iff_eq_none]
  constructor
  · rintro ⟨a, b, c⟩
    refine ⟨a, b, fun j h1 h2 h3 => ?_⟩
    have := c j h1 (beg_lt.2 h2)
    rw [h3] at this; cases this
  · rintro ⟨a, b, c⟩
    refine ⟨a, b, fun j h1 h2 => ?_⟩
    have := c j h1 (beg_lt.1 h2)
    cases h : t.wit (j : Nat) with
    | none => exact absurd h this
    | some _ => rfl
theorem may_in {t : CTk} {r : CRu} {i : Int} (h : t.may r i = true) : t.called r = true ∧ 0 ≤ i ∧ i ≤ t.last ∧ t.frmI r ≤ i := by
  unfold CTk.may at h
  simp only [Bool.and_eq_true, Bool.not_eq_true'] at h
  have := outB_f.1 h.2
  refine ⟨h.1, ?_, this.2, this.1⟩
  have h2 : 0 ≤ t.frmI r := by unfold CTk.frmI; omega
  omega
theorem may_of {t : CTk} {r : CRu} {i : Int} (h : t.called r = true) (h1 : t.frmI r ≤ i) (h2 : i ≤ t.last) : t.may r i = true := by
  unfold CTk.may
  rw [h, outB_f.2 ⟨h1, h2⟩]; rfl
/-! ### the best plan -/
theorem bstTo_spec {t : CTk} {r : CRu} : ∀ n, (t.bstTo r n = none ↔ ∀ i : Nat, i < n → t.may r (i : Nat) = false) ∧ ∀ i, t.bstTo r n = some i → i < n ∧ t.may r (i : Nat) = true ∧ ∀ j : Nat, j < n → t.may r (j : Nat) = true → (t.notL (i : Nat)).length ≤ (t.notL (j : Nat)).length ∧ (i < j → (t.notL (i : Nat)).length < (t.notL (j : Nat)).length) := by
  intro n
  induction n with
  | zero => exact ⟨⟨fun _ i h => by omega, fun _ => rfl⟩, fun i h => by cases h⟩
  | succ n ih =>
    obtain ⟨h1, h2⟩ := ih
    unfold CTk.bstTo
    by_cases hm : t.may r (n : Nat) = true
    · rw [if_pos hm]
      cases hb : t.bstTo r n with
      | none =>
        have h0 := h1.1 hb
        refine ⟨⟨fun h => (by cases h), fun h => ?_⟩, fun i h => ?_⟩
        · rw [h n (by omega)] at hm; cases hm
        · cases h
          refine ⟨by omega, hm, fun j hj hj2 => ?_⟩
          have : j = n := by
            rcases Nat.lt_or_ge j n with h3 | h3
            · rw [h0 j h3] at hj2; cases hj2
            · omega
          subst this
          exact ⟨Nat.le_refl _, fun h => by omega⟩
      | some j =>
        obtain ⟨a1, a2, a3⟩ := h2 j hb
        simp only
        split
        · rename_i hle
          refine ⟨⟨fun h => (by cases h), fun h => ?_⟩, fun i h => ?_⟩
          · rw [h n (by omega)] at hm; cases hm
          · cases h
            refine ⟨by omega, hm, fun j2 hj hj2 => ?_⟩
            rcases Nat.lt_or_ge j2 n with h3 | h3
            · have := (a3 j2 h3 hj2).1
              exact ⟨by omega, fun h => by omega⟩
            · have : j2 = n := by omega
              subst this
              exact ⟨Nat.le_refl _, fun h => by omega⟩
        · rename_i hle
          refine ⟨⟨fun h => (by cases h), fun h => ?_⟩, fun i h => ?_⟩
          · rw [h n (by omega)] at hm; cases hm
          · cases h
            refine ⟨by omega, a2, fun j2 hj hj2 => ?_⟩
            rcases Nat.lt_or_ge j2 n with h3 | h3
            · exact a3 j2 h3 hj2
            · have : j2 = n := by omega
              subst this
              exact ⟨by omega, fun _ => by omega⟩
    · rw [if_neg hm]
      refine ⟨⟨fun h i hi => ?_, fun h => h1.2 fun i hi => h i (by omega)⟩, fun i h => ?_⟩
      · rcases Nat.lt_or_ge i n with h3 | h3
        · exact h1.1 h i h3
        · have : i = n := by omega
          subst this
          simpa using hm
      · obtain ⟨a1, a2, a3⟩ := h2 i h
        refine ⟨by omega, a2, fun j hj hj2 => ?_⟩
        rcases Nat.lt_or_ge j n with h3 | h3
        · exact a3 j h3 hj2
        · have : j = n := by omega
          subst this
          exact absurd hj2 hm
theorem bst_eq {t : CTk} {r : CRu} (hd : 0 ≤ t.delay) {i : Nat} (h1 : t.may r (i : Nat) = true) (h2 : ∀ j : Nat, t.may r (j : Nat) = true → (t.notL (i : Nat)).length ≤ (t.notL (j : Nat)).length ∧ (i < j → (t.notL (i : Nat)).length < (t.notL (j : Nat)).length)) : t.bst r = some i := by
  have hlt : ∀ {j : Nat}, t.may r (j : Nat) = true → j < t.n := fun h => by have := (may_in h).2.2.1; unfold CTk.last at this; omega
  obtain ⟨a1, a2⟩ := @bstTo_spec t r t.n
  unfold CTk.bst
  cases hb : t.bstTo r t.n with
  | none => rw [a1.1 hb i (hlt h1)] at h1; cases h1
  | some j =>
    obtain ⟨b1, b2, b3⟩ := a2 j hb
    congr 1
    have c1 := b3 i (hlt h1) h1
    have c2 := h2 j b2
    rcases Nat.lt_trichotomy j i with h | h | h
    · have := c1.2 h; omega
    · exact h
    · have := c2.2 h; omega
end Go.Proofs.Ytmpaiphakjogjaa.Bs
/-
  Plain laws of layer 5 (closure): with one history less, with a greater limit.
-/
namespace Go.Proofs.Ytmpaiphakjogjaa.Bs
open Go Go.Proofs.Ytmpaiphakjogjaa.X
set_option linter.unusedVariables false
theorem any_of {l : List Int} {p : Int → Bool} (h : ∀ i, i < l.length → p (at0 l i) = false) : l.any p = false := by
  rw [List.any_eq_false]
  intro x hx
  obtain ⟨i, hi, rfl⟩ := List.mem_iff_getElem.1 hx
  have := h i hi
  unfold at0 at this
  rw [List.getElem?_eq_getElem hi] at this
  simpa using this
theorem ctE_of {t : CTk} (h : CtOk t) : ctE t = 0 := by
  have hf := h.frm
  unfold ctE chkC
  rw [if_neg (by simp [h.chk]), outB_f.2 (by have := h.m1; have := h.m8; omega), outB_f.2 (by have := h.n1; have := h.n60; omega), if_neg (by simp)]
  rw [show firstN (hisErr t) t.m = none from firstN_none fun k hk => ?_]
  · simp only
    rw [if_neg (by simp [h.river]), if_neg (by rw [any_of (p := fun v => outB v 0 10000000) fun i hi => outB_f.2 (h.riv i (by rw [h.river] at hi; exact hi))]; simp), if_neg (by simp [h.filn]), outB_f.2 h.out, outB_f.2 h.lim, outB_f.2 h.dly, if_neg (by simp)]
    rw [show filBad t = false from ?_]
    · simp
    · unfold filBad
      rw [List.any_eq_false]
      intro i hi
      rw [outB_f.2 (h.fil i (by simpa using hi))]; simp
  · unfold hisErr
    rw [if_neg (by rw [h.from_ k hk, h.len k hk]; simp), h.from_ k hk, outB_f.2 hf, show (t.h k).vals.any highB = false from any_of fun i hi => outB_f.2 (h.val k i hk (by rw [h.len k hk] at hi; exact hi))]
    simp
/-- the histories of u are some of t's. -/
structure Sub5 (t u : CTk) : Prop extends Same5 t u where
  lim : u.limit = t.limit
  m1 : 1 ≤ u.m
  m : u.m ≤ t.m
  h : ∀ j, j < u.m → ∃ k, k < t.m ∧ u.h j = t.h k
/-- a greater limit. -/
def CTk.more (t : CTk) (l : Int) : CTk := { t with limit := l }
end Go.Proofs.Ytmpaiphakjogjaa.Bs
/-
  Plain words of Best: the best so far while the ticks are looked at, the last first (closure).
-/
namespace Go.Proofs.Ytmpaiphakjogjaa.Bs
open Go Go.Proofs.Ytmpaiphakjogjaa.X
set_option linter.unusedVariables false
/-- b is the best of the indices from i on; all of them are allowed. -/
structure BInv (t : CTk) (r : CRu) (i : Nat) (b : Option Nat) : Prop where
  may : ∀ j, i ≤ j → j < t.beg → t.may r (j : Nat) = true
  non : b = none → t.beg ≤ i
  som : ∀ x, b = some x → i ≤ x ∧ x < t.beg ∧ ∀ j, i ≤ j → j < t.beg → (t.notL (x : Nat)).length ≤ (t.notL (j : Nat)).length ∧ (x < j → (t.notL (x : Nat)).length < (t.notL (j : Nat)).length)
noncomputable def CTk.bStep (t : CTk) (b : Option Nat) (i : Nat) : Option Nat := match b with
  | none => some i
  | some x => if (t.notL (i : Nat)).length < (t.notL (x : Nat)).length then some i else some x
theorem BInv.start (t : CTk) (r : CRu) : BInv t r t.beg none := ⟨fun j h1 h2 => by omega, fun _ => Nat.le_refl _, fun x h => by cases h⟩
theorem BInv.step {t : CTk} {r : CRu} {i : Nat} {b : Option Nat} (h : BInv t r (i + 1) b) (hi : i < t.beg) (hm : t.may r (i : Nat) = true) : BInv t r i (t.bStep b i) := by
  refine ⟨fun j h1 h2 => ?_, fun hn => ?_, fun x hx => ?_⟩
  · rcases Nat.lt_or_ge i j with h3 | h3
    · exact h.may j h3 h2
    · have : j = i := by omega
      subst this; exact hm
  · unfold CTk.bStep at hn
    split at hn
    · cases hn
    · split at hn <;> cases hn
  · cases hb : b with
    | none =>
      rw [hb] at hx
      have hx : i = x := Option.some.inj hx
      subst hx
      have hbe := h.non hb
      refine ⟨Nat.le_refl _, hi, fun j h1 h2 => ?_⟩
      have : j = i := by omega
      subst this
      exact ⟨Nat.le_refl _, fun h => absurd h (Nat.lt_irrefl _)⟩
    | some y =>
      rw [hb] at hx
      obtain ⟨y1, y2, y3⟩ := h.som y hb
      unfold CTk.bStep at hx
      simp only at hx
      split at hx
      · rename_i hlt
        have hx : i = x := Option.some.inj hx
        subst hx
        refine ⟨Nat.le_refl _, hi, fun j h1 h2 => ?_⟩
        rcases Nat.lt_or_ge i j with h3 | h3
        · have := (y3 j h3 h2).1
          exact ⟨by omega, fun _ => by omega⟩
        · have : j = i := by omega
          subst this
          exact ⟨Nat.le_refl _, fun h => absurd h (Nat.lt_irrefl _)⟩
      · rename_i hlt
        have hx : y = x := Option.some.inj hx
        subst hx
        refine ⟨by omega, y2, fun j h1 h2 => ?_⟩
        rcases Nat.lt_or_ge i j with h3 | h3
        · exact y3 j h3 h2
        · have : j = i := by omega
          subst this
          exact ⟨by omega, fun h => by omega⟩
/-- when no earlier index is allowed, it is the best of all. -/
theorem BInv.bst {t : CTk} {r : CRu} {i : Nat} {b : Option Nat} (h : BInv t r i b) (hd : 0 ≤ t.delay) (hlow : ∀ j : Nat, j < i → t.may r (j : Nat) = false) : t.bst r = b := by
  have hin : ∀ {j : Nat}, t.may r (j : Nat) = true → i ≤ j ∧ j < t.beg := fun {j} hj => by
    refine ⟨Nat.not_lt.1 fun h1 => ?_, beg_lt.2 (may_in hj).2.2.1⟩
    rw [hlow j h1] at hj; cases hj
  cases hb : b with
  | some x =>
    obtain ⟨y1, y2, y3⟩ := h.som x hb
    exact bst_eq hd (h.may x y1 y2) fun j hj => y3 j (hin hj).1 (hin hj).2
  | none =>
    have h1 := h.non hb
    unfold CTk.bst
    rw [(bstTo_spec (t := t) (r := r) t.n).1]
    intro j hj
    cases hm : t.may r (j : Nat) with
    | false => rfl
    | true => have := hin hm; omega
/-- the first that is not allowed ends the search. -/
theorem may_down {t : CTk} {r : CRu} {i : Nat} (hc : t.called r = true) (hi : i < t.beg) (hm : t.may r (i : Nat) = false) : ∀ j : Nat, j < i + 1 → t.may r (j : Nat) = false := by
  intro j hj
  cases hx : t.may r (j : Nat) with
  | false => rfl
  | true =>
    have h1 := may_of (r := r) hc (show t.frmI r ≤ (i : Int) from by have := (may_in hx).2.2.2; omega) (beg_lt.1 hi)
    rw [hm] at h1; cases h1
theorem bst_none {t : CTk} {r : CRu} (h0 : ruE t r = 0) (hc : t.called r = true) (h : t.bst r = none) : t.bstE r = 9 ∧ t.bstP r = ⟨0, 0⟩ ∧ t.bstN r = [] := by
  unfold CTk.bstE CTk.bstP CTk.bstN
  rw [if_neg (by simp [h0]), if_neg (by simp [hc]), if_neg (by simp [h0]), if_neg (by simp [hc]), if_neg (by simp [h0]), if_neg (by simp [hc]), h]
  exact ⟨rfl, rfl, rfl⟩
theorem bst_some {t : CTk} {r : CRu} (h0 : ruE t r = 0) (hc : t.called r = true) {i : Nat} (h : t.bst r = some i) : t.bstE r = 0 ∧ t.bstP r = t.plan (i : Nat) ∧ t.bstN r = (t.notL (i : Nat)).map fun k => ((k : Nat) : Int) := by
  unfold CTk.bstE CTk.bstP CTk.bstN
  rw [if_neg (by simp [h0]), if_neg (by simp [hc]), if_neg (by simp [h0]), if_neg (by simp [hc]), if_neg (by simp [h0]), if_neg (by simp [hc]), h]
  exact ⟨rfl, rfl, rfl⟩
end Go.Proofs.Ytmpaiphakjogjaa.Bs
/-
  What peak compares: the spans of what is inside, or volumes (closure).
-/
namespace Go.Proofs.Ytmpaiphakjogjaa.Bs
open Go Go.Proofs.Ytmpaiphakjogjaa.X
set_option linter.unusedVariables false
noncomputable def CTk.tl (t : CTk) (k : Nat) (p : CPl) : Nat → Int
  | 0 => 0
  | i + 1 => t.lo (lvD (t.ins k p (t.pkTo k p (i + 1))))
noncomputable def CTk.th (t : CTk) (k : Nat) (p : CPl) : Nat → Int
  | 0 => 0
  | i + 1 => t.hi (lvD (t.ins k p (t.pkTo k p (i + 1))))
theorem open_f {t : CTk} (ht : CtOk t) {p : CPl} (hp : t.strange p = false) {i : Nat} (ho : t.isOpen p i = false) : ∃ s : Nat, t.shutI p = (s : Nat) ∧ s < i := by
  simp only [CTk.isOpen, Bool.or_eq_false_iff, decide_eq_false_iff_not] at ho
  obtain ⟨g1, g2, g3⟩ := ho
  have hshut : 0 ≤ t.shutI p := by
    unfold CTk.strange at hp
    rw [decide_eq_true g1, Bool.true_and, Bool.or_eq_false_iff] at hp
    have h1 := outB_f.1 hp.1
    have := ht.dly
    unfold CTk.shutI; omega
  exact ⟨(t.shutI p).toNat, by omega, by omega⟩
/-- what is inside while the gates are shut is a volume of the run. -/
theorem ins_vol {t : CTk} (ht : CtOk t) {k : Nat} {p : CPl} (hp : t.strange p = false) {i : Nat} (hi : i < t.n) {x : Lv} (h : t.ins k p i = some x) (ho : t.isOpen p i = false) {s : Nat} (hs : t.shutI p = (s : Nat)) :
    x.shut = true ∧ (t.vols k s (t.n - s))[i - s]? = some x.n ∧ ∃ st, t.rs k s (i - s) = some st ∧ st.vol = x.n := by
  obtain ⟨s', e, hlt⟩ := open_f ht hp ho
  have e1 : (t.shutI p).toNat = s := by omega
  unfold CTk.ins at h
  rw [if_neg (by simp [ho]), e1] at h
  cases hr : t.rs k s (i - s) with
  | none => rw [hr] at h; cases h
  | some st =>
    rw [hr] at h
    cases h
    exact ⟨rfl, by rw [vols_at (by omega), hr]; rfl, st, rfl, rfl⟩
theorem ins_open {t : CTk} {k : Nat} {p : CPl} {i : Nat} {x : Lv} (h : t.ins k p i = some x) (ho : t.isOpen p i = true) : x = ⟨false, t.v k i⟩ := by
  unfold CTk.ins at h
  rw [if_pos ho] at h
  cases h; rfl
theorem ins_shut {t : CTk} {k : Nat} {p : CPl} {i : Nat} {x : Lv} (h : t.ins k p i = some x) : x.shut = !t.isOpen p i := by
  cases ho : t.isOpen p i with
  | true => rw [ins_open h ho]; rfl
  | false =>
    unfold CTk.ins at h
    rw [if_neg (by simp [ho])] at h
    cases hr : t.rs k (t.shutI p).toNat (i - (t.shutI p).toNat) with
    | none => rw [hr] at h; cases h
    | some st => rw [hr] at h; cases h; rfl
theorem lo_hi_in {t : CTk} (ht : CtOk t) {k : Nat} (hk : k < t.m) {p : CPl} (hp : t.strange p = false) {i : Nat} (hi : i < t.n) {x : Lv} (h : t.ins k p i = some x) : t.lo x ≤ t.hi x ∧ t.hi x ≤ t.lo x + 1 := by
  cases ho : t.isOpen p i with
  | true => rw [ins_open h ho]; exact ⟨Int.le_refl _, by show t.v k i ≤ t.v k i + 1; omega⟩
  | false =>
    obtain ⟨s, e, hlt⟩ := open_f ht hp ho
    obtain ⟨h1, _, st, h2, h3⟩ := ins_vol ht hp hi h ho e
    have o1 := rs_ok ht hk (by omega) h2
    have o2 := lvl_in ht o1
    unfold CTk.lo CTk.hi
    rw [if_pos h1, if_pos h1, ← h3, o2.1, o2.2]
    exact lo_hi ht.ok.rowsOk _
/-- unless both are volumes, spans are compared. -/
theorem gt_span {t : CTk} {x y : Lv} (hx : t.lo x ≤ t.hi x ∧ t.hi x ≤ t.lo x + 1) (hy : t.lo y ≤ t.hi y ∧ t.hi y ≤ t.lo y + 1) (hn : ¬(x.shut = true ∧ y.shut = true)) :
    t.gt x y = (decide (t.hi y < t.hi x) || (decide (t.hi x = t.hi y) && decide (t.lo y < t.lo x))) := by
  obtain ⟨xs, xn⟩ := x
  obtain ⟨ys, yn⟩ := y
  cases xs <;> cases ys
  · show decide (yn < xn) = (decide (yn < xn) || (decide (xn = yn) && decide (yn < xn)))
    by_cases h : yn < xn <;> simp [h]
  · have e1 : t.lo ⟨false, xn⟩ = xn := rfl
    have e2 : t.hi ⟨false, xn⟩ = xn := rfl
    rw [e1, e2]
    have e3 : t.gt ⟨false, xn⟩ ⟨true, yn⟩ = decide (t.lo ⟨true, yn⟩ < xn) := rfl
    rw [e3, Bool.eq_iff_iff]
    simp only [Bool.or_eq_true, Bool.and_eq_true, decide_eq_true_eq]
    omega
  · have e1 : t.lo ⟨false, yn⟩ = yn := rfl
    have e2 : t.hi ⟨false, yn⟩ = yn := rfl
    rw [e1, e2]
    have e3 : t.gt ⟨true, xn⟩ ⟨false, yn⟩ = decide (yn < t.hi ⟨true, xn⟩) := rfl
    rw [e3, Bool.eq_iff_iff]
    simp only [Bool.or_eq_true, Bool.and_eq_true, decide_eq_true_eq]
    omega
  · exact absurd ⟨rfl, rfl⟩ hn
/-- one tick of the search for the peak. -/
theorem pk_step {t : CTk} {k : Nat} {p : CPl} {i : Nat} {b : Bool} {y : Lv} (hy : t.ins k p i = some y) (hb : 0 < i → b = t.gt y (lvD (t.ins k p (t.pkTo k p i)))) :
    ((decide (i = 0) || b) = true → t.pkTo k p (i + 1) = i ∧ t.tl k p (i + 1) = t.lo y ∧ t.th k p (i + 1) = t.hi y) ∧ ((decide (i = 0) || b) = false → t.pkTo k p (i + 1) = t.pkTo k p i ∧ t.tl k p (i + 1) = t.tl k p i ∧ t.th k p (i + 1) = t.th k p i) := by
  have e0 : t.pkTo k p (i + 1) = if 0 < i ∧ t.gt (lvD (t.ins k p i)) (lvD (t.ins k p (t.pkTo k p i))) = true then i else t.pkTo k p i := rfl
  have el : t.tl k p (i + 1) = t.lo (lvD (t.ins k p (t.pkTo k p (i + 1)))) := rfl
  have eh : t.th k p (i + 1) = t.hi (lvD (t.ins k p (t.pkTo k p (i + 1)))) := rfl
  rw [el, eh]
  rw [hy] at e0
  refine ⟨fun h => ?_, fun h => ?_⟩
  · have e1 : t.pkTo k p (i + 1) = i := by
      rw [e0]
      rcases Nat.eq_zero_or_pos i with h1 | h1
      · subst h1
        split
        · rfl
        · rfl
      · rw [decide_eq_false (by omega), Bool.false_or, hb h1] at h
        rw [if_pos ⟨h1, h⟩]
    rw [e1, hy]
    exact ⟨rfl, rfl, rfl⟩
  · simp only [Bool.or_eq_false_iff, decide_eq_false_iff_not] at h
    have h1 : 0 < i := by omega
    have e1 : t.pkTo k p (i + 1) = t.pkTo k p i := by
      rw [e0, if_neg (fun h2 => ?_)]
      have h3 : t.gt y (lvD (t.ins k p (t.pkTo k p i))) = true := h2.2
      have h4 := h.2
      rw [hb h1, h3] at h4
      cases h4
    rw [e1]
    obtain ⟨j, rfl⟩ : ∃ j, i = j + 1 := ⟨i - 1, by omega⟩
    exact ⟨rfl, rfl, rfl⟩
end Go.Proofs.Ytmpaiphakjogjaa.Bs
/-
  The example's task in plain words; what can be reckoned (closure).
-/
namespace Go.Proofs.Ytmpaiphakjogjaa.Bs
open Go Go.Proofs.Ytmpaiphakjogjaa.X
set_option linter.unusedVariables false
theorem firstB_congr {f g : Nat → Bool} : ∀ {n : Nat}, (∀ i, i < n → f i = g i) → firstB f n = firstB g n := by
  intro n
  induction n with
  | zero => intro _; rfl
  | succ n ih =>
    intro h
    unfold firstB
    rw [ih fun i hi => h i (by omega), h n (by omega)]
def CTk.hiC (t : CTk) (x : Lv) : Int := if x.shut = true then levHi t.b x.n else x.n
def CTk.loC (t : CTk) (x : Lv) : Int := if x.shut = true then levLo t.b x.n else x.n
def CTk.aboveC (t : CTk) (k : Nat) (p : CPl) (i : Nat) : Bool := match t.ins k p i with
  | none => true
  | some x => decide (t.limit < t.hiC x)
def CTk.failsC (t : CTk) (k : Nat) (p : CPl) : Option Nat := firstB (t.aboveC k p) t.n
theorem hi_c {t : CTk} (ht : CtOk t) {k : Nat} (hk : k < t.m) {p : CPl} (hp : t.strange p = false) {i : Nat} (hi : i < t.n) {x : Lv} (h : t.ins k p i = some x) : t.hi x = t.hiC x ∧ t.lo x = t.loC x := by
  cases ho : t.isOpen p i with
  | true => rw [ins_open h ho]; exact ⟨rfl, rfl⟩
  | false =>
    obtain ⟨s, e, hlt⟩ := open_f ht hp ho
    obtain ⟨h1, _, st, h2, h3⟩ := ins_vol ht hp hi h ho e
    have o2 := lvl_in ht (rs_ok ht hk (by omega) h2)
    unfold CTk.hi CTk.hiC CTk.lo CTk.loC
    rw [if_pos h1, if_pos h1, if_pos h1, if_pos h1, ← h3, o2.1, o2.2]
    exact ⟨rfl, rfl⟩
theorem above_c {t : CTk} (ht : CtOk t) {k : Nat} (hk : k < t.m) {p : CPl} (hp : t.strange p = false) {i : Nat} (hi : i < t.n) : t.above k p i = t.aboveC k p i := by
  unfold CTk.above CTk.aboveC
  cases h : t.ins k p i with
  | none => rfl
  | some x => simp only; rw [(hi_c ht hk hp hi h).1]
theorem fails_c {t : CTk} (ht : CtOk t) {k : Nat} (hk : k < t.m) {p : CPl} (hp : t.strange p = false) : t.fails k p = t.failsC k p := firstB_congr fun i hi => above_c ht hk hp hi
theorem holds_c {t : CTk} (ht : CtOk t) {k : Nat} (hk : k < t.m) {p : CPl} (hp : t.strange p = false) : t.holds k p = (t.failsC k p).isNone := by unfold CTk.holds; rw [fails_c ht hk hp]
theorem cx_all3 {P : Nat → Prop} (h0 : P 0) (h1 : P 1) (h2 : P 2) : ∀ j, j < 3 → P j := by
  intro j hj
  match j, hj with
  | 0, _ => exact h0
  | 1, _ => exact h1
  | 2, _ => exact h2
theorem cx_all2 {P : Nat → Prop} (h0 : P 0) (h1 : P 1) : ∀ j, j < 2 → P j := by
  intro j hj
  match j, hj with
  | 0, _ => exact h0
  | 1, _ => exact h1
def cxB : Bas := ⟨[⟨-1000, 0⟩, ⟨0, 1000000⟩, ⟨2000, 5000000⟩], 100, 3000, 500, []⟩
def cxT : CTk := ⟨cxB, [], [⟨10, [0, 500, 1500, 2500, 1500, 500]⟩, ⟨10, [0, 0, 0, 0, 0, 0]⟩], [60000, 60000, 60000, 60000, 60000, 60000], 0, 800, 1⟩
def cxR : CRu := ⟨1, 3⟩
theorem cx_chk : chkE cxB = 0 := by
  have h1 : firstN (rowErr cxB) cxB.rows.length = none := firstN_none (cx_all3 (by kernel_rfl) (by kernel_rfl) (by kernel_rfl))
  have h2 : firstN (polErr cxB) cxB.pols.length = none := firstN_none (fun j hj => absurd hj (by show ¬ j < 0; omega))
  have h3 : wide cxB (great cxB cxB.pols.length) := fun i hi => by
    have : ∀ j, j < 2 → wideAt cxB (great cxB cxB.pols.length) j := cx_all2 (of_decide_eq_true (by kernel_rfl)) (of_decide_eq_true (by kernel_rfl))
    exact this i (by have : i + 1 < 3 := hi; omega)
  unfold chkE chk
  rw [if_neg (by decide), h1]
  simp only
  rw [if_neg (by decide), if_neg (by decide), h2]
  simp only
  rw [if_pos h3]
theorem cx_e : ctE cxT = 0 := by
  unfold ctE chkC
  rw [if_neg (by rw [show chkE cxT.b = 0 from cx_chk]; decide), if_neg (by rw [show (outB (cxT.m : Int) 1 8 || outB (cxT.n : Int) 1 60) = false from by kernel_rfl]; decide)]
  rw [show firstN (hisErr cxT) cxT.m = none from firstN_none (cx_all2 (by kernel_rfl) (by kernel_rfl))]
  simp only
  rw [if_neg (by decide), if_neg (by rw [show (cxT.river.any fun v => outB v 0 10000000) = false from by kernel_rfl]; decide), if_neg (by decide), if_neg (by rw [show (outB cxT.out 0 10000000 || (outB cxT.limit (cxT.b.row 0).level 20000 || outB cxT.delay 0 30)) = false from by kernel_rfl]; decide), if_neg (by rw [show filBad cxT = false from by kernel_rfl]; decide)]
theorem cx_ok : CtOk cxT := ctOk_of cx_e
theorem cx_ru : ruE cxT cxR = 0 := by
  unfold ruE
  rw [if_neg (by simp [cx_e]), if_neg (by rw [show (outB cxR.count 1 8 || outB cxR.early 0 60) = false from by kernel_rfl]; decide)]
theorem cx_last : cxT.last = 4 := by kernel_rfl
theorem cx_beg : cxT.beg = 5 := by kernel_rfl
theorem cx_pl {i : Nat} (hi : i ≤ 4) : cxT.strange (cxT.plan (i : Nat)) = false := (plan_ok cx_ok (Int.natCast_nonneg i) (by rw [cx_last]; omega)).1
/-- from tick 10 on the plan holds, from a later one it does not. -/
theorem cx_h0 : cxT.holds 0 (cxT.plan ((0 : Nat) : Int)) = true := by rw [holds_c cx_ok (by decide) (cx_pl (by omega))]; kernel_rfl
theorem cx_h1 : cxT.holds 1 (cxT.plan ((0 : Nat) : Int)) = true := by rw [holds_c cx_ok (by decide) (cx_pl (by omega))]; kernel_rfl
theorem cx_n1 : (cxT.failsC 0 (cxT.plan ((1 : Nat) : Int))).isNone = false := by kernel_rfl
theorem cx_n2 : (cxT.failsC 0 (cxT.plan ((2 : Nat) : Int))).isNone = false := by kernel_rfl
theorem cx_n3 : (cxT.failsC 0 (cxT.plan ((3 : Nat) : Int))).isNone = false := by kernel_rfl
theorem cx_n4 : (cxT.failsC 0 (cxT.plan ((4 : Nat) : Int))).isNone = false := by kernel_rfl
theorem cx_a1 : ((cxT.alone 0).failsC 0 ((cxT.alone 0).plan ((1 : Nat) : Int))).isNone = false := by kernel_rfl
theorem cx_a2 : ((cxT.alone 0).failsC 0 ((cxT.alone 0).plan ((2 : Nat) : Int))).isNone = false := by kernel_rfl
theorem cx_a3 : ((cxT.alone 0).failsC 0 ((cxT.alone 0).plan ((3 : Nat) : Int))).isNone = false := by kernel_rfl
theorem cx_a4 : ((cxT.alone 0).failsC 0 ((cxT.alone 0).plan ((4 : Nat) : Int))).isNone = false := by kernel_rfl
theorem cx_no : ∀ j : Nat, 0 < j → j ≤ 4 → cxT.holds 0 (cxT.plan (j : Nat)) = false := by
  intro j h0 h1
  rw [holds_c cx_ok (by decide) (cx_pl h1)]
  have h9 : j = 1 ∨ j = 2 ∨ j = 3 ∨ j = 4 := by omega
  rcases h9 with rfl | rfl | rfl | rfl
  · exact cx_n1
  · exact cx_n2
  · exact cx_n3
  · exact cx_n4
theorem cx_lastOk : cxT.lastOk = some 0 := by
  refine lastOk_some.2 ⟨by rw [cx_last]; omega, wit_none.2 (cx_all2 cx_h0 cx_h1), fun j h1 h2 hw => ?_⟩
  rw [cx_last] at h2
  have := wit_none.1 hw 0 (by decide)
  rw [cx_no j h1 (by omega)] at this
  cases this
theorem cx_called : cxT.called cxR = true := by kernel_rfl
theorem cx_may : cxT.may cxR ((0 : Nat) : Int) = true := by kernel_rfl
theorem cx_dec : cxT.decE cxR = 0 ∧ (cxT.decD cxR).plan = ⟨10, 15⟩ ∧ (cxT.decD cxR).later.length = 4 := by
  have h1 : cxT.decE cxR = 0 := by
    unfold CTk.decE
    rw [if_neg (by simp [cx_ru]), if_neg (by simp [cx_called]), cx_lastOk]
    simp only
    rw [if_pos cx_may]
  have h2 : cxT.decD cxR = ⟨cxT.plan ((0 : Nat) : Int), cxT.peaks (cxT.plan ((0 : Nat) : Int)), cxT.laterL 0⟩ := by
    unfold CTk.decD
    rw [if_neg (by simp [cx_ru]), if_neg (by simp [cx_called]), cx_lastOk]
    simp only
    rw [if_pos cx_may]
  refine ⟨h1, by rw [h2]; exact (by kernel_rfl : cxT.plan ((0 : Nat) : Int) = ⟨10, 15⟩), ?_⟩
  rw [h2]
  simp [CTk.laterL, cx_beg]
theorem cx_al : CtOk (cxT.alone 0) := alone_ok cx_ok (by decide)
theorem cx_las : cxT.lasN 0 = 10 ∧ cxT.lasE 0 = 0 := by
  have hp : ∀ i : Nat, i ≤ 4 → (cxT.alone 0).strange ((cxT.alone 0).plan (i : Nat)) = false := fun i hi => (plan_ok cx_al (Int.natCast_nonneg i) (by rw [show (cxT.alone 0).last = 4 from by kernel_rfl]; omega)).1
  have hb : outB 0 0 ((cxT.m : Int) - 1) = false := by kernel_rfl
  have h : cxT.lasI (0 : Int).toNat = some 0 := by
    unfold CTk.lasI
    refine lastB_some.2 ⟨by rw [cx_beg]; omega, ?_, fun j h1 h2 => ?_⟩
    · show (cxT.alone 0).holds 0 ((cxT.alone 0).plan ((0 : Nat) : Int)) = true
      rw [holds_c cx_al (by decide) (hp 0 (by omega))]; kernel_rfl
    · rw [cx_beg] at h2
      show (cxT.alone 0).holds 0 ((cxT.alone 0).plan (j : Nat)) = false
      rw [holds_c cx_al (by decide) (hp j (by omega))]
      have h9 : j = 1 ∨ j = 2 ∨ j = 3 ∨ j = 4 := by omega
      rcases h9 with rfl | rfl | rfl | rfl
      · exact cx_a1
      · exact cx_a2
      · exact cx_a3
      · exact cx_a4
  refine ⟨?_, ?_⟩
  · unfold CTk.lasN
    rw [if_neg (by simp [cx_e]), if_neg (by simp [hb]), h]; kernel_rfl
  · unfold CTk.lasE
    rw [if_neg (by simp [cx_e]), if_neg (by simp [hb]), h]
theorem cx_las2 : cxT.lasE 2 = 4 := by
  have hb : outB 2 0 ((cxT.m : Int) - 1) = true := by kernel_rfl
  unfold CTk.lasE
  rw [if_neg (by simp [cx_e]), if_pos hb]
end Go.Proofs.Ytmpaiphakjogjaa.Bs
/-
  How a task of closure lies in memory; a game, and the runs that were done.
-/
namespace Go.Proofs.Ytmpaiphakjogjaa.X
open Go Go.RowKit Go.Proofs.Ytmpaiphakjogjaa.Bs
set_option linter.unusedVariables false
def hisC (q : SV) (h : His) : List Value := [.int .i64 h.from_, svV q]
def hisK : Kind (SV × His) := ⟨65, 2, fun e => hisC e.1 e.2, fun e => [hInts e.1 e.2.vals], fun _ => rfl⟩
structure CTV where
  p : BV
  f : SV
  h : SV
  r : SV
def ctkC (v : CTV) (t : CTk) : List Value :=
  [.slice v.p.A v.p.n v.p.c, .int .i64 t.b.leak, .int .i64 t.b.crest, .int .i64 t.b.over, .slice v.p.A2 v.p.n2 v.p.c2, .slice v.f.A v.f.n v.f.c, .slice v.h.A v.h.n v.h.c, .slice v.r.A v.r.n v.r.c, .int .i64 t.out, .int .i64 t.limit, .int .i64 t.delay]
def ctkV (v : CTV) (t : CTk) : Value := .agg ⟨ctkC v t⟩
structure CtAt (w : World) (B : Nat) (v : CTV) (t : CTk) : Prop where
  bas : BasAt w B v.p t.b
  fil : IntsAt w (Lt B) v.f t.fil
  his : ∃ es : List (SV × His), ListAt hisK w (Lt B) v.h es ∧ es.map (·.2) = t.his
  river : IntsAt w (Lt B) v.r t.river
  cap : v.h.n ≤ v.h.c
section
variable {w w' w0 : World} {B B' : Nat} {v : CTV} {t : CTk} {L : Lo}
theorem CtAt.below (h : CtAt w B v t) (hb : Below B w w') : CtAt w' B v t := by
  obtain ⟨es, h1, h2⟩ := h.his
  exact ⟨h.bas.below hb, h.fil.keep fun k hk => hb.block k hk, ⟨es, h1.below hb, h2⟩, h.river.keep fun k hk => hb.block k hk, h.cap⟩
theorem CtAt.more (h : CtAt w B v t) (hB : B ≤ B') : CtAt w B' v t := by
  obtain ⟨es, h1, h2⟩ := h.his
  exact ⟨h.bas.more hB, h.fil.mono fun k hk => Nat.lt_of_lt_of_le hk hB, ⟨es, h1.mono fun k hk => Nat.lt_of_lt_of_le hk hB, h2⟩, h.river.mono fun k hk => Nat.lt_of_lt_of_le hk hB, h.cap⟩
theorem CtAt.sys (h : CtAt w0 B v t) (S : Sys B w0 L w) : CtAt w w.heap.size v t := (h.below S.toBelow).more (Nat.le_trans S.base S.size)
theorem CtAt.hn (h : CtAt w B v t) : v.h.n = t.m := by
  obtain ⟨es, h1, h2⟩ := h.his
  rw [h1.len (by decide)]
  show es.length = t.his.length
  rw [← h2]; simp
theorem CtAt.hmax (h : CtAt w B v t) : v.h.n ≤ 9223372036854775807 := by
  obtain ⟨es, h1, h2⟩ := h.his
  exact h1.max
/-- a history's cells, and its values. -/
theorem CtAt.hisAt (h : CtAt w B v t) {k : Nat} (hk : k < t.m) : ∃ (ad : Addr) (q : SV), v.h.A = some ad ∧ ad.block < B ∧ (∀ j u, (hisC q (t.h k))[j]? = some u → w.cell? ((ad.add (k * 2)).add j) = some u) ∧ IntsAt w (Lt B) q (t.h k).vals := by
  obtain ⟨es, h1, h2⟩ := h.his
  have hl : k < es.length := by
    have : es.length = t.his.length := by rw [← h2]; simp
    rw [this]; exact hk
  obtain ⟨ad, e1, e2⟩ := ListAt.addr (A := v.h.A) (n := v.h.n) (c := v.h.c) h1 (by decide) (by omega)
  have hek : es[k]? = some es[k] := List.getElem?_eq_getElem hl
  have eh : t.h k = es[k].2 := by
    unfold CTk.h
    rw [← h2, List.getElem?_map, hek]; rfl
  refine ⟨ad, es[k].1, e1, e2, fun j u hj => ?_, ?_⟩
  · have h1' : ListAt hisK w (Lt B) ⟨some ad, v.h.n, v.h.c⟩ es := by rw [← e1]; exact h1
    rw [eh] at hj
    exact h1'.elem hek j u hj
  · rw [eh]
    exact h1.ins es[k] (List.getElem_mem hl) (hInts es[k].1 es[k].2.vals) (List.mem_singleton.2 rfl)
end
/-! ### keys -/
def keyC (k s : Nat) : List Value := [.int .i64 (k : Nat), .int .i64 (s : Nat)]
def keyV (k s : Nat) : Value := .agg ⟨keyC k s⟩
theorem keyV_inj {k s k' s' : Nat} (h : keyV k s = keyV k' s') : k = k' ∧ s = s' := by
  simp only [keyV, keyC, Value.agg.injEq, Array.mk.injEq, List.cons.injEq, Value.int.injEq, true_and, and_true] at h
  omega
theorem run_law : WideMaps.KeyLaw Try.prog 156 := deep_law (m := 4) (by decide) (by kernel_rfl) (by kernel_rfl) (by kernel_rfl)
theorem run_fuel : ∃ d, Try.prog.types.size + 1 = d + 3 := by
  have h : Nat.ble 2 Try.prog.types.size = true := by kernel_rfl
  have := Nat.le_of_ble_eq_true h
  exact ⟨Try.prog.types.size - 2, by omega⟩
def intT5 (P : Program) (t : TypeId) : Bool := match P.underlying t with
  | some (.int .i64) => P.cellsOf t == 1
  | _ => false
theorem keyLits_int5 {P : Program} {t : TypeId} (ht : intT5 P t = true) (d : Nat) {n : Int} (h : i64in n) : P.keyLits (d + 1) t [.int .i64 n] = some [.int .i64 n] := by
  unfold intT5 at ht
  split at ht
  · rename_i hu
    have h1 : (Lit.int .i64 n).wf = true := by
      have e1 : IntKind.i64.min = -9223372036854775808 := rfl
      have e2 : IntKind.i64.max = 9223372036854775807 := rfl
      unfold i64in at h
      simp only [Lit.wf, e1, e2, Bool.and_eq_true, decide_eq_true_eq]
      omega
    simp [Program.keyLits, hu, h1]
  · cases ht
theorem intT5_1 {P : Program} {t : TypeId} (ht : intT5 P t = true) : P.cellsOf t = 1 := by
  unfold intT5 at ht
  split at ht
  · simpa using ht
  · cases ht
theorem keyLits_str5 {P : Program} {t : TypeId} {fs : Array Field} {d : Nat} {cs : List Value} (hu : P.underlying t = some (.struct fs)) : P.keyLits (d + 1) t cs = if cs.length = P.cellsOf t ∧ fs.all (·.name != "_") = true then (fs.toList.mapM fun f => P.keyLits d f.type ((cs.drop f.offset).take (P.cellsOf f.type))).map List.flatten else none := by
  conv => lhs; unfold Program.keyLits
  simp only [hu]
def pairT (P : Program) (t : TypeId) : Bool := match P.underlying t with
  | some (.struct ⟨[a, b]⟩) => intT5 P a.type && (intT5 P b.type && (a.offset == 0 && (b.offset == 1 && (a.name != "_" && (b.name != "_" && (P.cellsOf t == 2 && P.keyType t))))))
  | _ => false
theorem keyOf_pair {P : Program} {t : TypeId} (ht : pairT P t = true) {D : Nat} (hD : P.types.size + 1 = D + 3) {x y : Int} (hx : i64in x) (hy : i64in y) : ∃ l, keyOf P t (.agg ⟨[.int .i64 x, .int .i64 y]⟩) = some l := by
  unfold pairT at ht
  split at ht
  · rename_i f1 f2 hu
    simp only [Bool.and_eq_true, beq_iff_eq, bne_iff_ne, ne_eq] at ht
    obtain ⟨t1, t2, o1, o2, n1, n2, c2, hk⟩ := ht
    have h1 : P.keyLits (P.types.size + 1) t [.int .i64 x, .int .i64 y] = some [.int .i64 x, .int .i64 y] := by
      rw [hD]
      rw [keyLits_str5 hu]
      simp [c2, n1, n2, o1, o2, intT5_1 t1, intT5_1 t2, keyLits_int5 t1 (D + 1) hx, keyLits_int5 t2 (D + 1) hy]
    refine ⟨.string (keyBytes [.int .i64 x, .int .i64 y]), ?_⟩
    unfold keyOf
    simp only [hu]
    rw [if_pos (by simp [hk, Value.formed, hu, c2])]
    simp only [Value.cells]
    rw [h1]
    rfl
  · cases ht
theorem run_t : pairT Try.prog 156 = true := by kernel_rfl
theorem run_key {k s : Nat} (hk : k ≤ 1000) (hs : s ≤ 1000) : ∃ l, keyOf Try.prog 156 (keyV k s) = some l := by
  obtain ⟨d, hd⟩ := run_fuel
  exact keyOf_pair run_t hd (by unfold i64in; omega) (by unfold i64in; omega)
/-! ### a game -/
def gamC (v : CTV) (t : CTk) (gm : Nat) : List Value :=
  [.slice v.p.A v.p.n v.p.c, .int .i64 t.b.leak, .int .i64 t.b.crest, .int .i64 t.b.over, .slice v.p.A2 v.p.n2 v.p.c2, .slice v.f.A v.f.n v.f.c, .slice v.h.A v.h.n v.h.c, .slice v.r.A v.r.n v.r.c, .int .i64 t.out, .int .i64 t.limit, .int .i64 t.delay,
   .int .i64 t.from_, .int .i64 (t.n : Nat), .int .i64 (t.q : Nat), .map (some gm)]
abbrev gamO (v : CTV) (t : CTk) (gm : Nat) : Obj := cel 107 (gamC v t gm)
/-- a run that was done. -/
def RunE (t : CTk) (w : World) (ok : Nat → Prop) (e : Value × Value) : Prop := ∃ (k s : Nat) (q : SV), e.1 = keyV k s ∧ e.2 = svV q ∧ k < t.m ∧ s < t.n ∧ IntsAt w ok q (t.vols k s (t.n - s))
/-- what is known of runs: at gm; its slices are in blocks of ok. -/
def Mem5 (t : CTk) (gm : Nat) (w : World) (ok : Nat → Prop) : Prop := ∃ kvs : List (Value × Value), w.heap[gm]? = some (mapO kvs) ∧ KeysOk Try.prog 156 kvs ∧ ∀ e, e ∈ kvs → RunE t w ok e
theorem Mem5.keep {t : CTk} {gm : Nat} {w w' : World} {ok : Nat → Prop} (h : Mem5 t gm w ok) (hk : ∀ k, ok k ∨ k = gm → w'.heap[k]? = w.heap[k]?) : Mem5 t gm w' ok := by
  obtain ⟨kvs, h1, h2, h3⟩ := h
  refine ⟨kvs, (hk gm (.inr rfl)).trans h1, h2, fun e he => ?_⟩
  obtain ⟨k, s, q, a1, a2, a3, a4, a5⟩ := h3 e he
  exact ⟨k, s, q, a1, a2, a3, a4, a5.keep fun j hj => hk j (.inl hj)⟩
theorem Mem5.mono {t : CTk} {gm : Nat} {w : World} {ok ok' : Nat → Prop} (h : Mem5 t gm w ok) (hk : ∀ k, ok k → ok' k) : Mem5 t gm w ok' := by
  obtain ⟨kvs, h1, h2, h3⟩ := h
  refine ⟨kvs, h1, h2, fun e he => ?_⟩
  obtain ⟨k, s, q, a1, a2, a3, a4, a5⟩ := h3 e he
  exact ⟨k, s, q, a1, a2, a3, a4, a5.mono hk⟩
/-- A GAME AT g, ITS RUNS AT gm; ks: blocks that are none of the runs'; rs, hs: rows and things made since b0. -/
structure Gam (t : CTk) (v : CTV) (b0 g gm : Nat) (ks : List Nat) (rs : List RowX) (hs : List Held) (w : World) : Prop where
  fam : Fam w b0 (gm :: ks) rs hs
  nin : gm ∉ ks
  gin : g ∈ ks
  lt : ∀ k, k ∈ gm :: ks → k < w.heap.size
  bg : b0 ≤ g
  bm : b0 ≤ gm
  game : w.heap[g]? = some (gamO v t gm)
  task : CtAt w b0 v t
  memo : Mem5 t gm w (Free w b0 (gm :: ks) rs)
section
variable {t : CTk} {v : CTV} {b0 g gm : Nat} {ks ks' : List Nat} {rs : List RowX} {hs hs' new : List Held} {w w' wE w0 w1 w2 : World} {L : Lo} {B : Nat}
theorem Gam.ne (h : Gam t v b0 g gm ks rs hs w) : g ≠ gm := fun e => h.nin (e ▸ h.gin)
theorem Gam.sys (h : Gam t v b0 g gm ks rs hs w0) (S : Sys b0 w0 L w) (hg : (g, gamO v t gm) ∈ L) (hL : ∀ e, e ∈ L → e.1 ∈ ks ∨ w0.heap.size ≤ e.1) : Gam t v b0 g gm ks rs hs w := by
  have hL' : ∀ e, e ∈ L → e.1 ∈ gm :: ks ∨ w0.heap.size ≤ e.1 := fun e he => (hL e he).imp (fun h => List.mem_cons_of_mem _ h) id
  have hgm : w.heap[gm]? = w0.heap[gm]? := S.old gm (h.lt gm (.head _)) fun e he e1 => by
    rcases hL e he with h1 | h1
    · exact h.nin (e1 ▸ h1)
    · have := h.lt gm (.head _); omega
  refine ⟨h.fam.sys S hL', h.nin, h.gin, fun k hk => Nat.lt_of_lt_of_le (h.lt k hk) S.size, h.bg, h.bm, (S.own _ hg).2, h.task.below S.toBelow, ?_⟩
  refine (h.memo.keep (w' := w) fun k hk => ?_).mono fun k hk => ⟨hk.1, Nat.lt_of_lt_of_le hk.2.1 S.size, hk.2.2⟩
  rcases hk with hk | rfl
  · exact S.old k hk.2.1 fun e he e1 => by
      rcases hL' e he with h1 | h1
      · exact hk.2.2.1 (e1 ▸ h1)
      · have := hk.2.1; omega
  · exact hgm
/-- what was made by a call. -/
theorem Gam.made (h : Gam t v b0 g gm ks rs hs w1) (hb : Below w1.heap.size w1 w2) (hx : ∀ x, x ∈ new → x.p w2 (Btw w1.heap.size w2.heap.size)) : Gam t v b0 g gm ks rs (new ++ hs) w2 := by
  have hF : Fam w2 b0 (gm :: ks) rs (new ++ hs) := by
    have h1 := Fam.call (L := []) (w1 := w1) (w2 := w2) (new := new) h.fam (Sys.enter w1) hb (fun e he => by cases he) h.lt hx
    simpa using h1.1
  refine ⟨hF, h.nin, h.gin, fun k hk => Nat.lt_of_lt_of_le (h.lt k hk) hb.size, h.bg, h.bm, (hb.block g (h.lt g (List.mem_cons_of_mem _ h.gin))).trans h.game, h.task.below (hb.mono h.fam.base), ?_⟩
  refine (h.memo.keep (w' := w2) fun k hk => ?_).mono fun k hk => ⟨hk.1, Nat.lt_of_lt_of_le hk.2.1 hb.size, hk.2.2⟩
  rcases hk with hk | rfl
  · exact hb.block k hk.2.1
  · exact hb.block k (h.lt k (.head _))
theorem Gam.forget (h : Gam t v b0 g gm ks rs hs w) (hh : ∀ x, x ∈ hs' → x ∈ hs) : Gam t v b0 g gm ks rs hs' w := ⟨h.fam.forget hh, h.nin, h.gin, h.lt, h.bg, h.bm, h.game, h.task, h.memo⟩
/-- more blocks that are none of the runs'. -/
theorem Gam.add (h : Gam t v b0 g gm ks rs hs w) (S : Sys b0 w L w') (hg : (g, gamO v t gm) ∈ L) (hL : ∀ e, e ∈ L → e.1 ∈ ks ∨ w.heap.size ≤ e.1) : Gam t v b0 g gm (L.map (·.1) ++ ks) rs hs w' := by
  have h1 := h.sys S hg hL
  have hmem : ∀ k, k ∈ L.map (·.1) ++ ks → k ∈ ks ∨ w.heap.size ≤ k := fun k hk => by
    rcases List.mem_append.1 hk with hk | hk
    · obtain ⟨e, he, rfl⟩ := List.mem_map.1 hk
      exact hL e he
    · exact .inl hk
  have hlt : ∀ k, k ∈ gm :: (L.map (·.1) ++ ks) → k < w'.heap.size := fun k hk => by
    rcases List.mem_cons.1 hk with rfl | hk
    · exact h1.lt k (.head _)
    · rcases List.mem_append.1 hk with hk | hk
      · exact S.keyLt k hk
      · exact h1.lt k (List.mem_cons_of_mem _ hk)
  have hold : ∀ x, x ∈ ks → x ∈ gm :: (L.map (·.1) ++ ks) := fun x hx => List.mem_cons_of_mem _ (List.mem_append_right _ hx)
  have hks : ∀ k, k ∈ gm :: (L.map (·.1) ++ ks) → k ∈ gm :: ks ∨ w.heap.size ≤ k := fun k hk => by
    rcases List.mem_cons.1 hk with rfl | hk
    · exact .inl (.head _)
    · exact (hmem k hk).imp (fun h => List.mem_cons_of_mem _ h) id
  have hF : Fam w' b0 (gm :: (L.map (·.1) ++ ks)) rs hs := (h.fam.add hks).sys S fun e he => .inl (List.mem_cons_of_mem _ (List.mem_append_left _ (List.mem_map.2 ⟨e, he, rfl⟩)))
  refine ⟨hF, fun hk => ?_, List.mem_append_right _ h.gin, hlt, h.bg, h.bm, h1.game, h1.task, ?_⟩
  · rcases hmem gm hk with h2 | h2
    · exact h.nin h2
    · have := h.lt gm (.head _); omega
  · obtain ⟨kvs, a1, a2, a3⟩ := h.memo
    have hgm : w'.heap[gm]? = w.heap[gm]? := S.old gm (h.lt gm (.head _)) fun e he e1 => by
      rcases hL e he with h2 | h2
      · exact h.nin (e1 ▸ h2)
      · have := h.lt gm (.head _); omega
    refine ⟨kvs, hgm.trans a1, a2, fun e he => ?_⟩
    obtain ⟨k, s, q, c1, c2, c3, c4, c5⟩ := a3 e he
    refine ⟨k, s, q, c1, c2, c3, c4, (c5.keep fun j hj => ?_).mono fun j hj => ⟨hj.1, Nat.lt_of_lt_of_le hj.2.1 S.size, fun hk => ?_, hj.2.2.2⟩⟩
    · exact S.old j hj.2.1 fun e he e1 => by
        rcases hL e he with h2 | h2
        · exact hj.2.2.1 (e1 ▸ List.mem_cons_of_mem _ h2)
        · have := hj.2.1; omega
    · rcases hks j hk with h2 | h2
      · exact hj.2.2.1 h2
      · have := hj.2.1; omega
/-- the rows' blocks. -/
def rowKs (rs : List RowX) : List Nat := rs.filterMap fun r => r.v.ownBlock
theorem mem_rowKs {k : Nat} : k ∈ rowKs rs ↔ ∃ r, r ∈ rs ∧ r.v.ownBlock = some k := by
  unfold rowKs
  rw [List.mem_filterMap]
/-- for a call: the rows are put aside. -/
theorem Gam.down (h : Gam t v b0 g gm ks rs hs w) : Gam t v b0 g gm (rowKs rs ++ ks) [] [] w := by
  have hlt : ∀ k, k ∈ rowKs rs → k < w.heap.size ∧ b0 ≤ k ∧ k ∉ gm :: ks := fun k hk => by
    obtain ⟨r, hr, e⟩ := mem_rowKs.1 hk
    exact ⟨(h.fam.lt hr e).2, (h.fam.lt hr e).1, h.fam.sep r hr k e⟩
  refine ⟨⟨h.fam.base, fun r hr => (by cases hr), fun r hr => (by cases hr), .nil, fun r hr => (by cases hr), fun x hx => (by cases hx)⟩, ?_, List.mem_append_right _ h.gin, ?_, h.bg, h.bm, h.game, h.task, ?_⟩
  · intro hk
    rcases List.mem_append.1 hk with hk | hk
    · exact (hlt gm hk).2.2 (.head _)
    · exact h.nin hk
  · intro k hk
    rcases List.mem_cons.1 hk with rfl | hk
    · exact h.lt k (.head _)
    · rcases List.mem_append.1 hk with hk | hk
      · exact (hlt k hk).1
      · exact h.lt k (List.mem_cons_of_mem _ hk)
  · refine h.memo.mono fun j hj => ⟨hj.1, hj.2.1, fun hk => ?_, fun r hr => by cases hr⟩
    rcases List.mem_cons.1 hk with rfl | hk
    · exact hj.2.2.1 (.head _)
    · rcases List.mem_append.1 hk with hk | hk
      · obtain ⟨r, hr, e⟩ := mem_rowKs.1 hk
        exact hj.2.2.2 r hr e
      · exact hj.2.2.1 (List.mem_cons_of_mem _ hk)
theorem Since.sys {W : World} (h : Since wE gm W) (S : Sys B W L w') (hL : ∀ e, e ∈ L → (e.1 < wE.heap.size → W.heap[e.1]? = some e.2) ∧ e.1 ≠ gm) : Since wE gm w' :=
  ⟨S.os.trans h.os, S.tape.trans h.tape, S.output.trans h.output, Nat.le_trans h.size S.size, fun k hk hne => by
    rw [← h.old k hk hne]
    by_cases he : ∃ e, e ∈ L ∧ e.1 = k
    · obtain ⟨e, he, rfl⟩ := he
      rw [(S.own e he).2]
      exact ((hL e he).1 hk).symm
    · exact S.old k (Nat.lt_of_lt_of_le hk h.size) fun e h1 h2 => he ⟨e, h1, h2⟩⟩
theorem Since.refl {W : World} {gm : Nat} : Since W gm W := ⟨rfl, rfl, rfl, Nat.le_refl _, fun _ _ _ => rfl⟩
theorem Since.trans {A C D : World} (h : Since A gm C) (k : Since C gm D) : Since A gm D :=
  ⟨k.os.trans h.os, k.tape.trans h.tape, k.output.trans h.output, Nat.le_trans h.size k.size, fun j hj hne => (k.old j (Nat.lt_of_lt_of_le hj h.size) hne).trans (h.old j hj hne)⟩
theorem Since.made {A C D : World} (h : Since A gm C) (k : Below C.heap.size C D) : Since A gm D :=
  ⟨k.os.trans h.os, k.tape.trans h.tape, k.output.trans h.output, Nat.le_trans h.size k.size, fun j hj hne => (k.block j (Nat.lt_of_lt_of_le hj h.size)).trans (h.old j hj hne)⟩
theorem Since.below {A C : World} (h : Since A gm C) {b : Nat} (hb : b ≤ gm) (hs : b ≤ A.heap.size) : Below b A C :=
  ⟨h.os, h.tape, h.output, h.size, fun k hk => h.old k (Nat.lt_of_lt_of_le hk hs) (by omega)⟩
/-- what a call that may do runs leaves: a value, new things. -/
def GamR (t : CTk) (b0 gm : Nat) (ks : List Nat) (R : Value → List Held → Prop) (w : World) (e : Ending) (w' : World) : Prop :=
  ∃ x new, e = .returned x ∧ R x new ∧ Since w gm w' ∧ Mem5 t gm w' (Free w' b0 (gm :: ks) []) ∧ ∀ y, y ∈ new → y.p w' (Free w' b0 (gm :: ks) [])
/-- behind such a call. -/
theorem Gam.after (h : Gam t v b0 g gm ks rs hs w) {kk : List Nat} (hkk : kk = rowKs rs ++ ks) (hs' : Since w gm w') (hm : Mem5 t gm w' (Free w' b0 (gm :: kk) [])) (hx : ∀ y, y ∈ new → y.p w' (Free w' b0 (gm :: kk) [])) : Gam t v b0 g gm ks rs (new ++ hs) w' := by
  subst hkk
  have hfree : ∀ j, Free w' b0 (gm :: (rowKs rs ++ ks)) [] j → Free w' b0 (gm :: ks) rs j := fun j hj => ⟨hj.1, hj.2.1, fun hk => hj.2.2.1 (by
    rcases List.mem_cons.1 hk with rfl | hk
    · exact .head _
    · exact List.mem_cons_of_mem _ (List.mem_append_right _ hk)), fun r hr e => hj.2.2.1 (List.mem_cons_of_mem _ (List.mem_append_left _ (mem_rowKs.2 ⟨r, hr, e⟩)))⟩
  have hF : Fam w' b0 (gm :: ks) rs hs := h.fam.move hs'.size fun j hj hk => hs'.old j hj fun e => hk (e ▸ .head _)
  refine ⟨⟨hF.base, hF.row, hF.sep, hF.two, hF.ins, fun x hx' => ?_⟩, h.nin, h.gin, fun k hk => Nat.lt_of_lt_of_le (h.lt k hk) hs'.size, h.bg, h.bm, ?_, h.task.below (hs'.below h.bm h.fam.base), hm.mono hfree⟩
  · rcases List.mem_append.1 hx' with h1 | h1
    · exact x.mono (hx x h1) hfree
    · exact hF.held x h1
  · rw [hs'.old g (h.lt g (List.mem_cons_of_mem _ h.gin)) h.ne]; exact h.game
variable {P : Program} {N : Nat} {ds : List Deferred} {Q : Exit → Act → World → Prop} {F : Fr} {ops : Array Oper} {rest : List Oper} {ty : TypeId} {p : String} {af : Array Edge}
/-- A CALL THAT MAY DO RUNS; the world behind it is the new base. -/
theorem XL.callG {f : FuncId} {d : Nat} {args : Array Operand} {vs : List Value} {ats : Array TypeId} (R : Value → List Held → Prop) (h : callOk P f = true)
    (ha : evos F args.toList = some vs) (hd : Nat.blt d N = true) (hG : Gam t v b0 g gm ks rs hs w0) (hSn : Since wE gm w0) (hg : (g, gamO v t gm) ∈ L)
    (hc : ∀ w ks2, Gam t v b0 g gm ks2 [] [] w → Calls P f vs.toArray w (GamR t b0 gm ks2 R w))
    (k : ∀ w' x new, R x new → Gam t v b0 g gm (L.map (·.1) ++ ks) rs (new ++ hs) w' → Since wE gm w' → XL P N b0 w' ds Q ops rest ((d, x) :: F) L)
    (hL : ∀ e, e ∈ L → e.1 ∈ ks ∨ w0.heap.size ≤ e.1 := by exact ZZHM) (hLE : ∀ e, e ∈ L → e.1 ∈ [g] ∨ wE.heap.size ≤ e.1 := by exact ZZHM) :
    XL P N b0 w0 ds Q ops ({ dst := some d, op := .call { callee := .value (.func f), args := args, argTypes := ats }, type := ty, pos := p, after := af, guard := none } :: rest) F L := by
  refine XL.callr (fst := []) (cap := []) (fun w x w' => ∃ new, R x new ∧ Gam t v b0 g gm (L.map (·.1) ++ ks) rs (new ++ hs) w' ∧ Since w gm w') h rfl ha hd (fun w S => ?_) (fun w x w' S hR => ?_)
  · have hA := hG.add S hg hL
    have := hc w _ hA.down
    simp only [List.nil_append, List.append_nil]
    exact this.mono fun e w' ⟨x, new, e1, e2, e3, e4, e5⟩ => ⟨x, e1, new, e2, hA.after rfl e3 e4 e5, e3⟩
  · obtain ⟨new, e2, hG', e3⟩ := hR
    have hne : ∀ e, e ∈ L → e.1 ≠ gm := fun e he e1 => by
      rcases hL e he with h1 | h1
      · exact hG.nin (e1 ▸ h1)
      · have := hG.lt gm (.head _); omega
    have S' : Sys b0 w' L w' := Sys.start hG'.fam.base (fun e he => ⟨(S.own e he).1, by rw [e3.old e.1 (S.lt he) (hne e he)]; exact (S.own e he).2⟩) S.nd
    refine ⟨L, w', S', k w' x new e2 hG' ((hSn.sys S fun e he => ⟨fun hlt => ?_, hne e he⟩).trans e3)⟩
    rcases hLE e he with h1 | h1
    · rw [List.mem_singleton] at h1
      have h2 : e = (g, gamO v t gm) := by
        have a1 := (S.own e he).2
        have a2 := (S.own _ hg).2
        rw [h1] at a1
        simp only at a2
        rw [a1] at a2
        exact Prod.ext h1 (Option.some.inj a2)
      rw [h2]; exact hG.game
    · omega
end
end Go.Proofs.Ytmpaiphakjogjaa.X
/-
  What stood, but for a few blocks, as a held thing; numbers that lie among the arguments or were made; drawn regions whose reads are of own blocks, anchored to what the arguments are.
-/
namespace Go.Proofs.Ytmpaiphakjogjaa.X
open Go Go.RowKit Go.Proofs.Ytmpaiphakjogjaa.Bs
set_option linter.unusedVariables false
def intK5 : Kind Int := ⟨3, 1, fun k => [.int .i64 k], fun _ => [], fun _ => rfl⟩
theorem int5_el : elemOk Try.prog 26 intK5.ty intK5.m 8 = true := by kernel_rfl
theorem ints_flat5 (l : List Int) : l.flatMap intK5.c = ints l := by
  induction l with
  | nil => rfl
  | cons a l ih => rw [List.flatMap_cons, ih]; rfl
/-- all that stood at W0 from b0 on stands, but for the blocks gs. -/
def hOld2 (b0 : Nat) (W0 : World) (gs : List Nat) : Held := ⟨fun W ok => ∀ k, b0 ≤ k → k < W0.heap.size → k ∉ gs → ok k ∧ W.heap[k]? = W0.heap[k]?, fun h hk k h1 h2 h3 => ⟨(h k h1 h2 h3).1, (hk k (h k h1 h2 h3).1).trans (h k h1 h2 h3).2⟩, fun h hk k h1 h2 h3 => ⟨hk k (h k h1 h2 h3).1, (h k h1 h2 h3).2⟩⟩
/-- numbers among the arguments, or among what was made. -/
def hIntsO (w : World) (b0 : Nat) (q : SV) (l : List Int) : Held := ⟨fun W ok => IntsAt w (Lt b0) q l ∨ IntsAt W ok q l, fun h hk => h.imp id fun h => h.keep hk, fun h hk => h.imp id fun h => h.mono hk⟩
theorem Fam.old2 {w : World} {b0 : Nat} {gs : List Nat} (h : b0 ≤ w.heap.size) : Fam w b0 gs [] [hOld2 b0 w gs] :=
  (Fam.start h).hold (ok := Free w b0 gs []) (fun k h1 h2 h3 => ⟨⟨h1, h2, h3, fun r hr => by cases hr⟩, rfl⟩) fun j hj => hj
theorem hIntsO.at_ {w W : World} {b0 : Nat} {q : SV} {l : List Int} {ok : Nat → Prop} (h : (hIntsO w b0 q l).p W ok) (hb : Below b0 w W) (hw : b0 ≤ W.heap.size) (hok : ∀ k, ok k → k < W.heap.size) : IntsAt W (Lt W.heap.size) q l := by
  rcases h with h | h
  · exact (h.below hb).mono fun k hk => Nat.lt_of_lt_of_le hk hw
  · exact h.mono hok
theorem Since.of {w w' : World} {b0 g gm : Nat} {ok : Nat → Prop} (hB : Below b0 w w') (hO : (hOld2 b0 w [gm, g]).p w' ok) (hg : w'.heap[g]? = w.heap[g]?) : Since w gm w' :=
  ⟨hB.os, hB.tape, hB.output, hB.size, fun k hk hne => by
    by_cases e : k = g
    · rw [e]; exact hg
    · rcases Nat.lt_or_ge k b0 with h1 | h1
      · exact hB.block k h1
      · exact (hO k h1 hk (by simp [hne, e])).2⟩
theorem owns_raise {W : World} {b0 b1 e size n : Nat} {v : Value} {xs : List Value} (h : W.ownsRow b0 e size v n xs) (hb : ∀ k, v.ownBlock = some k → b1 ≤ k) : W.ownsRow b1 e size v n xs := by
  refine ⟨h.1, ?_⟩
  rcases h.2 with h1 | ⟨g, cap, cur, rfl, h2, h3⟩
  · exact .inl h1
  · exact .inr ⟨g, cap, cur, rfl, hb g rfl, h3⟩
/-- a row's block is none of those that stood. -/
theorem Fam.fresh2 {w W : World} {b0 : Nat} {gs ks : List Nat} {rs : List RowX} {hs : List Held} (h : Fam W b0 ks rs hs) (hm : hOld2 b0 w gs ∈ hs) (hgs : ∀ k, k ∈ gs → k ∈ ks) {r : RowX} (hr : r ∈ rs) {k : Nat} (hk : r.v.ownBlock = some k) : w.heap.size ≤ k := by
  refine Nat.not_lt.1 fun hlt => ?_
  have h1 := (h.lt hr hk).1
  by_cases hg : k ∈ gs
  · exact h.sep r hr k hk (hgs k hg)
  · exact (h.held _ hm k h1 hlt hg).1.2.2.2 r hr hk
section
variable {P : Program} {N : Nat} {B : Nat} {w0 wE : World} {ds : List Deferred} {Q : Exit → Act → World → Prop} {F : Fr} {L Ls : Lo} {ops : Array Oper} {rem : List (Nat × Oper)}
theorem z7 (k : XR P N B (trunc wE B) w0 ds Q Ls ops rem F L) (hB : Below B wE w0 := by assumption) (hle : B ≤ wE.heap.size := by assumption)
    (hs : ∀ e, e ∈ Ls → e ∈ L := by (intro e he; repeat (first | (cases he; done) | (rcases List.mem_cons.1 he with rfl | he; · repeat (first | exact List.mem_cons_self | apply List.mem_cons_of_mem)))) <;> fail)
    (hn : (Ls.map (·.1)).Nodup := by (simp; try omega) <;> fail) : XE N B w0 ds (heldR P B (trunc wE B) Q Ls ops rem) .normal F L :=
  XE.heldR (fun _ h => Sys.anchorT hB h hs hn hle) k
end
section
variable {t : CTk} {v : CTV} {b0 g gm : Nat} {ks ks' : List Nat} {rs : List RowX} {hs hs' new : List Held} {w w' wE w0 w1 w2 : World} {L : Lo} {B : Nat}
variable {P : Program} {N : Nat} {ds : List Deferred} {Q : Exit → Act → World → Prop} {F : Fr} {ops : Array Oper} {rest : List Oper} {ty : TypeId} {p : String} {af : Array Edge}
/-- the same; the call may look at the own blocks. -/
theorem XL.callH {f : FuncId} {d : Nat} {args : Array Operand} {vs : List Value} {ats : Array TypeId} (R : Value → List Held → Prop) (h : callOk P f = true)
    (ha : evos F args.toList = some vs) (hd : Nat.blt d N = true) (hG : Gam t v b0 g gm ks rs hs w0) (hSn : Since wE gm w0) (hg : (g, gamO v t gm) ∈ L)
    (hc : ∀ w ks2, Sys b0 w0 L w → (∀ e, e ∈ L → e.1 ∈ ks2) → Gam t v b0 g gm ks2 [] [] w → Calls P f vs.toArray w (GamR t b0 gm ks2 R w))
    (k : ∀ w' x new, R x new → Gam t v b0 g gm (L.map (·.1) ++ ks) rs (new ++ hs) w' → Since wE gm w' → XL P N b0 w' ds Q ops rest ((d, x) :: F) L)
    (hL : ∀ e, e ∈ L → e.1 ∈ ks ∨ w0.heap.size ≤ e.1 := by exact ZZHM) (hLE : ∀ e, e ∈ L → e.1 ∈ [g] ∨ wE.heap.size ≤ e.1 := by exact ZZHM) :
    XL P N b0 w0 ds Q ops ({ dst := some d, op := .call { callee := .value (.func f), args := args, argTypes := ats }, type := ty, pos := p, after := af, guard := none } :: rest) F L := by
  refine XL.callr (fst := []) (cap := []) (fun w x w' => ∃ new, R x new ∧ Gam t v b0 g gm (L.map (·.1) ++ ks) rs (new ++ hs) w' ∧ Since w gm w') h rfl ha hd (fun w S => ?_) (fun w x w' S hR => ?_)
  · have hA := hG.add S hg hL
    have := hc w _ S (fun e he => List.mem_append_right _ (List.mem_append_left _ (List.mem_map.2 ⟨e, he, rfl⟩))) hA.down
    simp only [List.nil_append, List.append_nil]
    exact this.mono fun e w' ⟨x, new, e1, e2, e3, e4, e5⟩ => ⟨x, e1, new, e2, hA.after rfl e3 e4 e5, e3⟩
  · obtain ⟨new, e2, hG', e3⟩ := hR
    have hne : ∀ e, e ∈ L → e.1 ≠ gm := fun e he e1 => by
      rcases hL e he with h1 | h1
      · exact hG.nin (e1 ▸ h1)
      · have := hG.lt gm (.head _); omega
    have S' : Sys b0 w' L w' := Sys.start hG'.fam.base (fun e he => ⟨(S.own e he).1, by rw [e3.old e.1 (S.lt he) (hne e he)]; exact (S.own e he).2⟩) S.nd
    refine ⟨L, w', S', k w' x new e2 hG' ((hSn.sys S fun e he => ⟨fun hlt => ?_, hne e he⟩).trans e3)⟩
    rcases hLE e he with h1 | h1
    · rw [List.mem_singleton] at h1
      have h2 : e = (g, gamO v t gm) := by
        have a1 := (S.own e he).2
        have a2 := (S.own _ hg).2
        rw [h1] at a1
        simp only at a2
        rw [a1] at a2
        exact Prod.ext h1 (Option.some.inj a2)
      rw [h2]; exact hG.game
    · omega
end
end Go.Proofs.Ytmpaiphakjogjaa.X
/-
  A function that holds several ranges over functions, one after the other (in a loop): its deferred calls grow by a mark each time; a range that is left by a break; a call of yield behind a guard.
-/
namespace Go.Proofs.Ytmpaiphakjogjaa.X
open Go Go.RowKit
set_option linter.unusedVariables false
section
variable {P : Program} {T : TT} {N : Nat} {B : Nat} {w0 : World} {ds : List Deferred} {Q : Exit → Act → World → Prop} {F : Fr} {L L' : Lo} {r : Option Nat} {n : Nat}
theorem XI.guard_y {ops : Array Oper} {rest : List Oper} {d j : Nat} {wb : Bool} {op : Op} {ty : TypeId} {p : String} {af : Array Edge} (hj : asked ops F j = some wb)
    (h : XI P N B w0 ds Q r n ops ({ dst := some d, op := op, type := ty, pos := p, after := af, guard := none } :: rest) F L) :
    XI P N B w0 ds Q r n ops ({ dst := some d, op := op, type := ty, pos := p, after := af, guard := some (j, wb) } :: rest) F L := by
  refine ⟨fun a w hf hs => ?_⟩
  have hw : Region.wanted { dst := some d, op := op, type := ty, pos := p, after := af, guard := some (j, wb) } (yielded ops a.tmps) = true := by
    simp [Region.wanted, asked_spec hj hf]
  have h1 := h.run a w hf hs
  unfold wpListIn at h1 ⊢
  rw [if_pos (by simp [Region.wanted])] at h1
  rw [hw, if_pos rfl]
  exact h1
theorem XI.guard_n {ops : Array Oper} {rest : List Oper} {d j : Nat} {wb : Bool} {op : Op} {ty : TypeId} {p : String} {af : Array Edge} (hj : asked ops F j = some (!wb))
    (h : XI P N B w0 ds Q r n ops rest ((d, undef) :: F) L) (hd : Nat.blt d N = true) :
    XI P N B w0 ds Q r n ops ({ dst := some d, op := op, type := ty, pos := p, after := af, guard := some (j, wb) } :: rest) F L := by
  refine ⟨fun a w hf hs => ?_⟩
  have hw : Region.wanted { dst := some d, op := op, type := ty, pos := p, after := af, guard := some (j, wb) } (yielded ops a.tmps) = false := by
    simp [Region.wanted, asked_spec hj hf]
  unfold wpListIn
  rw [hw, if_neg (by simp)]
  exact ⟨fun f _ => fen_fn r f, h.run _ w (hf.put hd) hs⟩
/-- a loop in which the deferred calls grow. -/
theorem XC.loopD {c : Code} {σ : Type} (ts : List Nat) {G0 : Fr} (hk : keepO F ts = some G0) (G : σ → Fr) (M : σ → Lo) (W : σ → World) (D : σ → List Deferred) (pre : σ → Prop) (μ : σ → Nat) (s0 : σ)
    (h0 : pre s0) (hD : D s0 = ds) (hG : Sub (G s0) F) (hM : ∀ w, Sys B w0 L w → Sys B (W s0) (M s0) w)
    (round : ∀ s, pre s → XC P N B (W s) (D s) (Exit.then (fun a w => ∃ s', pre s' ∧ μ s' < μ s ∧ Fits N (D s') (G s' ++ G0) a ∧ Sys B (W s') (M s') w) Q) c (G s ++ G0) (M s)) :
    XC P N B w0 ds Q (.loop c) F L := by
  subst hD
  refine ⟨fun a w hf hs => ?_⟩
  refine wp_loop_ghost (fun n a w => ∃ s, μ s = n ∧ pre s ∧ Fits N (D s) (G s ++ G0) a ∧ Sys B (W s) (M s) w) (μ s0) ⟨s0, rfl, h0, (hG.append (keepO_sub ts G0 hk)).fits hf, hM w hs⟩ ?_
  rintro n a w ⟨s, rfl, hp, hf, hs⟩
  refine wp_mono ((round s hp).run a w hf hs) fun e a' w' q => ?_
  cases e with
  | normal =>
    obtain ⟨s', hp', hlt, hf', hs'⟩ := q
    exact ⟨μ s', hlt, s', rfl, hp', hf', hs'⟩
  | exit id => exact q
  | goto l => exact q
  | ret => exact q
  | panic ch => exact q
  | outgrown => exact q
theorem XE.roundD {σ : Type} {G : σ → Fr} {M : σ → Lo} {W : σ → World} {D : σ → List Deferred} {pre : σ → Prop} {μ : σ → Nat} {s : σ}
    (h : ∀ w, Sys B w0 L w → ∃ s', pre s' ∧ μ s' < μ s ∧ D s' = ds ∧ Sub (G s') F ∧ Sys B (W s') (M s') w) :
    XE N B w0 ds (Exit.then (fun a w => ∃ s', pre s' ∧ μ s' < μ s ∧ Fits N (D s') (G s') a ∧ Sys B (W s') (M s') w) Q) .normal F L :=
  ⟨fun a w hf hs => by
    obtain ⟨s', h1, h2, h3, h4, h5⟩ := h w hs
    exact ⟨s', h1, h2, by rw [h3]; exact h4.fits hf, h5⟩⟩
/-- how a range over a function ends. -/
def RFEnd (P : Program) (N B : Nat) (w1 : World) (ds : List Deferred) (Q : Exit → Act → World → Prop) (F : Fr) (L : Lo) : Option Code → Prop
  | none => XE N B w1 ds Q .normal F L
  | some .ret => XE N B w1 ds Q .ret F L
  | some (.exit id) => XE N B w1 ds Q (.exit id) F L
  | some _ => False
theorem XC.rangeFuncD {g : Operand} {ps : Array Tmp} {assign body : Code} {gf : FuncId} {cap : List Value} (hg : evo F g = some (.func (.func gf) #[] ⟨cap⟩)) (hk : callOk P gf = true)
    (hc : ∀ (fn : FuncId) (a : Act) (D : Nat) (w : World), w0.heap.size ≤ D → Fits N ds F a → Sys B w0 ((D + 1, .loop (recO fn a.tmps ps assign body D .ready none)) :: (D, .deferred (some [])) :: L) w →
      Calls P gf (Value.func (.yield (D + 1)) #[] #[] :: cap).toArray w fun e w3 => ∃ v, e = .returned v ∧
        ∃ st pe L3 w1, st ≠ .busy ∧ Sys B w1 ((D + 1, .loop (recO fn a.tmps ps assign body D st pe)) :: L3) w3 ∧ RFEnd P N B w1 (markD D :: ds) Q F ((D + 1, .loop (recO fn a.tmps ps assign body D .exhausted pe)) :: L3) pe) :
    XC P N B w0 ds Q (.rangeFunc g ps assign body) F L := by
  refine ⟨fun a w hf hs => (wpIn_wide (n := 1)).1 (wpIn_rangeFunc (F := Fence.wide) fun fn _ => ?_)⟩
  have S1 := (hs.box (.deferred (some []))).box (.loop (recO fn a.tmps ps assign body w.heap.size .ready none))
  have hsz : (w.alloc (.deferred (some []))).heap.size = w.heap.size + 1 := by simp
  rw [hsz] at S1
  obtain ⟨W1, hW1⟩ : ∃ W1, (w.alloc (.deferred (some []))).alloc (.loop (recO fn a.tmps ps assign body w.heap.size .ready none)) = W1 := ⟨_, rfl⟩
  rw [hW1] at S1
  have hcall := hc fn a w.heap.size W1 hs.size hf S1
  refine ⟨w.heap.size + 1, [markD w.heap.size], W1, { target := .fn (.func gf) ⟨cap⟩, args := #[.func (.yield (w.heap.size + 1)) #[] #[]] }, W1, gf, (Value.func (.yield (w.heap.size + 1)) #[] #[] :: cap).toArray, W1,
    by rw [← hW1]; exact run_enterLoop_outer _ _ _ _ _, ?_, fun f' _ => trivial, ?_, fun h => (by cases h), ?_⟩
  · have : evo F g = some (.func (.func gf) ⟨[]⟩ ⟨cap⟩) := hg
    have e := hf.eval this
    simp only [resolve, rangeCall, e, Deferred.ofValue]
    simp [Act.eval]
  · have : (#[Value.func (.yield (w.heap.size + 1)) #[] #[]] ++ (⟨cap⟩ : Array Value)) = (Value.func (.yield (w.heap.size + 1)) #[] #[] :: cap).toArray := by simp
    simp only [invoke, this]
    exact callFunc_run hk _ _
  · refine callsIn_wide.2 (hcall.mono fun e w3 he => ?_)
    obtain ⟨v, rfl, st, pe, L3, w1, hst, hS, hx⟩ := he
    have hf' : Fits N (markD w.heap.size :: ds) F { a with defers := [markD w.heap.size] ++ a.defers } := ⟨hf.size, by simp [hf.defers], hf.get⟩
    have hl := (hS.own _ List.mem_cons_self).2
    refine ⟨pe, _, run_endLoop hl hst, ?_⟩
    have hS' := hS.setObj (i := 0) (o' := .loop (recO fn a.tmps ps assign body w.heap.size .exhausted pe)) rfl rfl
    match pe, hx with
    | none, hx => exact hx.run _ _ hf' hS'
    | some .ret, hx => exact wpIn_ret (hx.run _ _ hf' hS')
    | some (.exit id), hx => exact wpIn_exit (hx.run _ _ hf' hS')
/-- a round is left by a break. -/
theorem XE.endExit {l i id : Nat} {r : Loop} {R : Ending → World → Prop} (hL : L[i]? = some (l, .loop r)) (hL' : setN L i (l, .loop { r with state := .done, pending := some (.exit id) }) = some L')
    (h : ∀ w, Sys B w0 L' w → R (.returned (.bool false)) w) : XE N B w0 ds (roundPost P l R) (.exit id) F L :=
  ⟨fun a w hf hs => by
    obtain ⟨e, _⟩ := setN_spec _ _ _ _ hL'
    exact ⟨_, _, run_endRound (some (.exit id)) (hs.own _ (List.mem_of_getElem? hL)).2, h _ (hs.setObj hL e)⟩⟩
/-- but for these blocks the same. -/
structure Marked (Ds : List Nat) (w w' : World) : Prop where
  os : w'.os = w.os
  tape : w'.tape = w.tape
  output : w'.output = w.output
  size : w'.heap.size = w.heap.size
  old : ∀ j, j ∉ Ds → w'.heap[j]? = w.heap[j]?
theorem leaves_marks {fn : Func} {tmps : Array Value} {R : Ending → World → Prop} : ∀ (Ds : List Nat) (w : World), (∀ D, D ∈ Ds → w.heap[D]? = some (.deferred (some []))) → Ds.Nodup →
    (∀ w', Marked Ds w w' → LeavesIn Fence.wide 0 P fn tmps R [] .returning w') → LeavesInM Fence.wide 0 P fn tmps R (Ds.map markD) .returning w
  | [], w, _, _, h => h w ⟨rfl, rfl, rfl, rfl, fun _ _ => rfl⟩
  | D :: Ds, w, hD, hn, h => by
    have hD0 := hD D (.head _)
    refine ⟨by simp, .inl ⟨D, w.putObj D (.deferred none), rfl, run_takeDeferred hD0, leaves_marks Ds _ (fun D' h' => ?_) (List.nodup_cons.1 hn).2 (fun w' hm => h w' ?_)⟩⟩
    · have hne : D' ≠ D := fun e => (List.nodup_cons.1 hn).1 (e ▸ h')
      rw [show (w.putObj D (.deferred none)).heap[D']? = w.heap[D']? by unfold World.putObj; simp [Array.getElem?_setIfInBounds, Ne.symm hne]]
      exact hD D' (.tail _ h')
    · refine ⟨hm.os, hm.tape, hm.output, by rw [hm.size]; simp [World.putObj], fun j hj => ?_⟩
      rw [hm.old j (fun h => hj (.tail _ h))]
      have hne : j ≠ D := fun e => hj (e ▸ .head _)
      unfold World.putObj
      simp [Array.getElem?_setIfInBounds, Ne.symm hne]
theorem XE.retMs (hT : TOK P T) {fn : Func} {R : Ending → World → Prop} {rs : List ResultVar} {vs : List Value} {c : Prop} {Ds : List Nat} (hds : ds = Ds.map markD) (h : fn.results = ⟨rs⟩) (hv : resO T F L rs = some (vs, c)) (hc : c)
    (hD : ∀ w, Sys B w0 L w → ∀ D, D ∈ Ds → w.heap[D]? = some (.deferred (some []))) (hn : Ds.Nodup) (hLD : ∀ e, e ∈ L → e.1 ∉ Ds)
    (hR : ∀ w w', Sys B w0 L w → Marked Ds w w' → R (.returned (tupV vs)) w') : XE N B w0 ds (bodyPostM Fence.wide 0 P fn R) .ret F L := by
  subst hds
  refine ⟨fun a w hf hw => ?_⟩
  show LeavesInM Fence.wide 0 P fn a.tmps R a.defers .returning w
  rw [hf.defers]
  refine leaves_marks Ds w (hD w hw) hn fun w' hm => ?_
  have hsys : Sys B w' L w' := Sys.start (by rw [hm.size]; exact Nat.le_trans hw.base hw.size) (fun e he => ⟨(hw.own e he).1, by rw [hm.old e.1 (hLD e he)]; exact (hw.own e he).2⟩) hw.nd
  have hf' : Fits N [] F { a with defers := [] } := ⟨hf.size, rfl, hf.get⟩
  have h1 := resO_run hT hf' hsys hv hc
  have h2 : (results fn a.tmps).run P w' = .ok (tupV vs) w' := by
    unfold results
    rw [h, Array.mapM_eq_mapM_toList]
    simp only [Sem.run_bind, Sem.run_map]
    refine (congrArg (fun r : Result (List Value) => (r.andThen fun a w' => Result.ok a.toArray w').andThen fun a w' => Sem.run P (pure (if h : a.size = 1 then a[0] else Value.tuple a)) w') h1).trans ?_
    simp only [Result.andThen_ok, Sem.run_pure]
    cases vs with
    | nil => rfl
    | cons v vs => cases vs with
      | nil => rfl
      | cons u vs => simp [tupV]
  show LeavesIn Fence.wide 0 P fn a.tmps R [] .returning w'
  exact ⟨_, h2, hR _ _ hw hm⟩
end
end Go.Proofs.Ytmpaiphakjogjaa.X
/-
  The walks of closure's small functions: out, where, the closures of Check, ContainsFunc over numbers.
-/
namespace Go.Proofs.Ytmpaiphakjogjaa.Bs
/-- the first index at which something is so, or -1. -/
def idxB (f : Nat → Bool) (n : Nat) : Int := match firstB f n with
  | some i => ((i : Nat) : Int)
  | none => -1
theorem idxB_any {f : Nat → Bool} {n : Nat} : decide (0 ≤ idxB f n) = (firstB f n).isSome := by
  unfold idxB
  cases firstB f n <;> simp
theorem idxB_neg {f : Nat → Bool} {n : Nat} : decide (idxB f n < 0) = (firstB f n).isNone := by
  unfold idxB
  cases firstB f n with
  | none => simp
  | some i => simp
end Go.Proofs.Ytmpaiphakjogjaa.Bs
namespace Go.Proofs.Ytmpaiphakjogjaa.X
open Go Go.RowKit Go.Proofs.Ytmpaiphakjogjaa.Bs
set_option linter.unusedVariables false
theorem cout_any (n lo hi : Int) (w : World) :
    Calls Try.prog 37 #[.int .i64 n, .int .i64 lo, .int .i64 hi] w fun e w' => e = .returned (.bool (outB n lo hi)) ∧ Below w.heap.size w w' := by
  refine enter Try.func37 rfl Try.ntmps37 rfl ?_; simp only [frame, Nat.zero_add, Nat.reduceAdd]
  repeat (any_goals (first | (refine M0 ?_; first | refine SL ?_ | refine SB fun _ _ => ?_ | (refine XL.split _ _ rfl (fun h => ?_) (fun h => ?_) <;> rw [h])) | (refine M1 ?_; first | refine SC ?_ | refine SD ?_ | refine XC.cond _ rfl (fun h => ?_) (fun h => ?_)) | (refine M2 ?_; refine SE ?_) | (refine M3 ?_; first | refine SG ?_ | refine SF ?_ | (refine Fw.split _ _ rfl (fun h => ?_) (fun h => ?_) <;> rw [h])) | (refine M4 ?_; refine SR ?_) | (refine M5 ?_; first | exact M7 | refine YM ?_ | refine YN ?_ ?_)))
  all_goals
    refine XE.ret1 Try.results37 rfl (fun w' S => ?_)
    exact ⟨by simp only [outB, h, Bool.true_or, Bool.false_or], S.toBelow⟩
theorem nev_any (w : World) : Calls Try.prog 55 #[] w fun e w' => e = .returned (.agg ⟨[.int .i64 (-1), .int .i64 (-1)]⟩) ∧ Below w.heap.size w w' := by
  refine enter Try.func55 rfl Try.ntmps55 rfl ?_; simp only [frame, Nat.zero_add, Nat.reduceAdd]
  repeat (first | (refine M0 ?_; first | refine SL ?_ | refine SB fun _ _ => ?_) | (refine M1 ?_; first | refine SC ?_ | refine SD ?_) | (refine M2 ?_; refine SE ?_) | (refine M3 ?_; first | refine SG ?_ | refine SF ?_) | (refine M4 ?_; refine SR ?_) | (refine M5 ?_; first | exact M7 | refine YM ?_ | refine YN ?_ ?_))
  first
    | refine XE.retc tok Try.results55 rfl rfl rfl rfl (fun w' S => ?_)
      exact ⟨rfl, S.toBelow⟩
    | refine XE.retg tok Try.results55 rfl (by simp only [and_self, and_true]) (fun w' S => ?_)
      exact ⟨rfl, S.toBelow⟩
theorem cchk1_any (n : Int) (w : World) :
    Calls Try.prog 38 #[.int .i64 n] w fun e w' => e = .returned (.bool (highB n)) ∧ Below w.heap.size w w' := by
  refine enter Try.func38 rfl Try.ntmps38 rfl ?_; simp only [frame, Nat.zero_add, Nat.reduceAdd]
  repeat (first | (refine M0 ?_; first | refine SL ?_ | refine SB fun _ _ => ?_ | refine Y4 (Ev.call (f := 37) (ck rfl) rfl (fun w S => cout_any _ _ _ w)) ?_) | (refine M1 ?_; first | refine SC ?_ | refine SD ?_) | (refine M2 ?_; refine SE ?_) | (refine M3 ?_; first | refine SG ?_ | refine SF ?_ | refine YF (Ev.call (f := 37) (ck rfl) rfl (fun w S => cout_any _ _ _ w)) ?_) | (refine M4 ?_; refine SR ?_) | (refine M5 ?_; first | exact M7 | refine YM ?_ | refine YN ?_ ?_))
  refine XE.retg tok Try.results38 rfl (by simp only [and_self, and_true]) (fun w' S => ?_)
  exact ⟨rfl, S.toBelow⟩
theorem cchk2_any (n : Int) (w : World) :
    Calls Try.prog 40 #[.int .i64 n] w fun e w' => e = .returned (.bool (outB n 0 10000000)) ∧ Below w.heap.size w w' := by
  refine enter Try.func40 rfl Try.ntmps40 rfl ?_; simp only [frame, Nat.zero_add, Nat.reduceAdd]
  repeat (first | (refine M0 ?_; first | refine SL ?_ | refine SB fun _ _ => ?_ | refine Y4 (Ev.call (f := 37) (ck rfl) rfl (fun w S => cout_any _ _ _ w)) ?_) | (refine M1 ?_; first | refine SC ?_ | refine SD ?_) | (refine M2 ?_; refine SE ?_) | (refine M3 ?_; first | refine SG ?_ | refine SF ?_ | refine YF (Ev.call (f := 37) (ck rfl) rfl (fun w S => cout_any _ _ _ w)) ?_) | (refine M4 ?_; refine SR ?_) | (refine M5 ?_; first | exact M7 | refine YM ?_ | refine YN ?_ ?_))
  refine XE.retg tok Try.results40 rfl (by simp only [and_self, and_true]) (fun w' S => ?_)
  exact ⟨rfl, S.toBelow⟩
theorem cchk3_any {gt i : Nat} {n : Int} {v : CTV} {t : CTk} {w : World} (hg : w.heap[gt]? = some (cel 29 (ctkC v t))) (hb : BasAt w w.heap.size v.p t.b) (hi : i < t.b.pols.length) :
    Calls Try.prog 42 #[.int .i64 (i : Nat), .int .i64 n, .pointer (some ⟨gt, 0, none⟩)] w fun e w' => e = .returned (.bool (outB n 0 (t.b.pol i).room)) ∧ Below w.heap.size w w' := by
  have hl := (Array.getElem?_eq_some_iff.1 hg).1
  have hn2 := hb.n2_eq
  obtain ⟨⟨A1, n1, c1, A2, n2, c2⟩, vf, vh, vr⟩ := v
  simp only at hn2
  subst hn2
  obtain ⟨ad, rfl, had⟩ := hb.pols.addr (by simp only; omega)
  have hc4 : w.cell? ⟨gt, 4, none⟩ = some (.slice (some ad) t.b.pols.length c2) := by simp [World.cell?, hg, ctkC]
  have hroom : w.cell? ((ad.add (i * 4)).add 3) = some (.int .i64 (t.b.pol i).room) := hb.pol hi 3 _ rfl
  refine enter Try.func42 rfl Try.ntmps42 rfl ?_; simp only [frame, Nat.zero_add, Nat.reduceAdd]
  repeat (first | (refine M0 ?_; first | refine SL ?_ | refine SB fun _ _ => ?_ | refine Y4 (Ev.load_old tok rfl rfl hl hc4) ?_ | refine Y4 (Ev.load_old tok rfl rfl (add_lt2 had) hroom) ?_ | refine Y4 (Ev.call (f := 37) (ck rfl) rfl (fun w S => cout_any _ _ _ w)) ?_) | (refine M1 ?_; first | refine SC ?_ | refine SD ?_) | (refine M2 ?_; refine SE ?_) | (refine M3 ?_; first | refine SG ?_ | refine SF ?_ | refine YF (Ev.load_old tok rfl rfl hl hc4) ?_ | refine YF (Ev.load_old tok rfl rfl (add_lt2 had) hroom) ?_ | refine YF (Ev.call (f := 37) (ck rfl) rfl (fun w S => cout_any _ _ _ w)) ?_) | (refine M4 ?_; refine SR ?_) | (refine M5 ?_; first | exact M7 | refine YM ?_ | refine YN ?_ ?_))
  refine XE.retg tok Try.results42 rfl (by simp only [and_self, and_true]) (fun w' S => ?_)
  exact ⟨rfl, S.toBelow⟩
set_option maxHeartbeats 4000000 in
theorem where_pure {f : FuncId} {cap : List Value} {P : Nat → Bool} {r : SV} {ms : List Int} {w : World} (hck : callOk Try.prog f = true) (hr : IntsAt w (Lt w.heap.size) r ms) (hn : ms.length ≤ 1000)
    (hc : ∀ k, k < ms.length → ∀ w', Below w.heap.size w w' → Calls Try.prog f ([] ++ [Value.int .i64 (k : Nat), Value.int .i64 (at0 ms k)] ++ cap).toArray w' fun e w'' => e = .returned (.bool (P k)) ∧ Below w'.heap.size w' w'') :
    Calls Try.prog 41 #[svV r, .func (.func f) #[] cap.toArray] w fun e w' => e = .returned (.int .i64 (idxB P ms.length)) ∧ Below w.heap.size w w' := by
  obtain ⟨A, n, c⟩ := r
  have hln := hr.len
  simp only at hln
  subst hln
  simp only [svV]
  refine enter Try.func41 rfl Try.ntmps41 rfl ?_; simp only [frame, Nat.zero_add, Nat.reduceAdd]
  repeat (first | (refine M0 ?_; first | refine SL ?_ | refine SB fun _ _ => ?_) | (refine M1 ?_; first | refine SC ?_ | refine SD ?_) | (refine M2 ?_; refine SE ?_) | (refine M3 ?_; first | refine SG ?_ | refine SF ?_) | (refine M4 ?_; refine SR ?_) | (refine M5 ?_; first | exact M7 | refine YM ?_ | refine YN ?_ ?_))
  refine XC.loopk [1, 7, 8] rfl (fun k : Nat => [(9, .int .i64 (k : Nat))]) (fun _ => []) (fun _ => w) (fun k => k ≤ ms.length ∧ ∀ j, j < k → P j = false) (fun k => ms.length - k) 0 ⟨Nat.zero_le _, fun j h => absurd h (by omega)⟩ ZZSUB (fun _ h => h) ?_
  rintro k ⟨hk, h0⟩
  dsimp only [List.cons_append, List.nil_append]
  repeat (first | (refine M0 ?_; first | refine SL ?_ | refine SB fun _ _ => ?_) | (refine M1 ?_; first | refine SC ?_ | refine SD ?_) | (refine M2 ?_; refine SE ?_) | (refine M3 ?_; first | refine SG ?_ | refine SF ?_) | (refine M4 ?_; refine SR ?_) | (refine M5 ?_; first | exact M7 | refine YM ?_ | refine YN ?_ ?_))
  refine XC.cond _ rfl (fun h3 => ?_) (fun h3 => ?_)
  · have hkn : k < ms.length := by simpa using h3
    obtain ⟨ad, rfl, hlt, hcells⟩ := hr.at_ (by omega)
    have hcell := hcells k hkn
    repeat (first | (refine M0 ?_; first | refine SL ?_ | refine SB fun _ _ => ?_ | refine Y4 (Ev.load_old tok rfl rfl (add_lt hlt) hcell) ?_ | refine Y4 (Ev.callv (f := f) (fst := []) (cap := cap) hck rfl rfl (fun w S => hc k hkn w S.toBelow)) ?_) | (refine M1 ?_; first | refine SC ?_ | refine SD ?_) | (refine M2 ?_; refine SE ?_) | (refine M3 ?_; first | refine SG ?_ | refine SF ?_ | refine YF (Ev.load_old tok rfl rfl (add_lt hlt) hcell) ?_ | refine YF (Ev.callv (f := f) (fst := []) (cap := cap) hck rfl rfl (fun w S => hc k hkn w S.toBelow)) ?_) | (refine M4 ?_; refine SR ?_) | (refine M5 ?_; first | exact M7 | refine YM ?_ | refine YN ?_ ?_))
    refine XC.cond _ rfl (fun h4 => ?_) (fun h4 => ?_)
    · repeat (first | (refine M0 ?_; first | refine SL ?_ | refine SB fun _ _ => ?_) | (refine M1 ?_; first | refine SC ?_ | refine SD ?_) | (refine M2 ?_; refine SE ?_) | (refine M3 ?_; first | refine SG ?_ | refine SF ?_) | (refine M4 ?_; refine SR ?_) | (refine M5 ?_; first | exact M7 | refine YM ?_ | refine YN ?_ ?_))
      refine XE.retg tok Try.results41 rfl (by simp only [and_self, and_true]) (fun w' S => ?_)
      unfold idxB
      rw [firstB_some.2 ⟨hkn, h4, h0⟩]
      exact ⟨rfl, S.toBelow⟩
    · repeat (first | (refine M0 ?_; first | refine SL ?_ | refine SB fun _ _ => ?_) | (refine M1 ?_; first | refine SC ?_ | refine SD ?_) | (refine M2 ?_; refine SE ?_) | (refine M3 ?_; first | refine SG ?_ | refine SF ?_) | (refine M4 ?_; refine SR ?_) | (refine M5 ?_; first | exact M7 | refine YM ?_ | refine YN ?_ ?_))
      refine XE.round (k + 1) ⟨hkn, fun j hj => ?_⟩ (by omega) ZZSUB (fun _ h => h)
      rcases Nat.lt_or_ge j k with h5 | h5
      · exact h0 j h5
      · have : j = k := by omega
        subst this
        exact h4
  · have hkn : ¬ k < ms.length := by simpa using h3
    repeat (first | (refine M0 ?_; first | refine SL ?_ | refine SB fun _ _ => ?_) | (refine M1 ?_; first | refine SC ?_ | refine SD ?_) | (refine M2 ?_; refine SE ?_) | (refine M3 ?_; first | refine SG ?_ | refine SF ?_) | (refine M4 ?_; refine SR ?_) | (refine M5 ?_; first | exact M7 | refine YM ?_ | refine YN ?_ ?_))
    refine XE.retg tok Try.results41 rfl (by simp only [and_self, and_true]) (fun w' S => ?_)
    unfold idxB
    rw [firstB_none.2 fun j hj => h0 j (by omega)]
    exact ⟨rfl, S.toBelow⟩
set_option maxHeartbeats 4000000 in
theorem idxC {f : FuncId} {cap : List Value} {P : Int → Bool} {r : SV} {ms : List Int} {w : World} (hck : callOk Try.prog f = true) (hr : IntsAt w (Lt w.heap.size) r ms) (hn : ms.length ≤ 1000)
    (hc : ∀ m, m ∈ ms → ∀ w', Below w.heap.size w w' → Calls Try.prog f ([] ++ [Value.int .i64 m] ++ cap).toArray w' fun e w'' => e = .returned (.bool (P m)) ∧ Below w'.heap.size w' w'') :
    Calls Try.prog 76 #[svV r, .func (.func f) #[] cap.toArray] w fun e w' => e = .returned (.int .i64 (idxL ms P)) ∧ Below w.heap.size w w' := by
  obtain ⟨A, n, c⟩ := r
  have hln := hr.len
  simp only at hln
  subst hln
  simp only [svV]
  refine enter Try.func76 rfl Try.ntmps76 rfl ?_; simp only [frame, Nat.zero_add, Nat.reduceAdd]
  repeat (first | (refine M0 ?_; first | refine SL ?_ | refine SB fun _ _ => ?_) | (refine M1 ?_; first | refine SC ?_ | refine SD ?_) | (refine M2 ?_; refine SE ?_) | (refine M3 ?_; first | refine SG ?_ | refine SF ?_) | (refine M4 ?_; refine SR ?_) | (refine M5 ?_; first | exact M7 | refine YM ?_ | refine YN ?_ ?_))
  refine XC.loopk [0, 1, 7] rfl (fun k : Nat => [(8, .int .i64 (k : Nat))]) (fun _ => []) (fun _ => w) (fun k => k ≤ ms.length ∧ ∀ j m, j < k → ms[j]? = some m → P m = false) (fun k => ms.length - k) 0 ⟨Nat.zero_le _, fun j m h => absurd h (by omega)⟩ ZZSUB (fun _ h => h) ?_
  rintro k ⟨hk, h0⟩
  dsimp only [List.cons_append, List.nil_append]
  repeat (first | (refine M0 ?_; first | refine SL ?_ | refine SB fun _ _ => ?_) | (refine M1 ?_; first | refine SC ?_ | refine SD ?_) | (refine M2 ?_; refine SE ?_) | (refine M3 ?_; first | refine SG ?_ | refine SF ?_) | (refine M4 ?_; refine SR ?_) | (refine M5 ?_; first | exact M7 | refine YM ?_ | refine YN ?_ ?_))
  refine XC.cond _ rfl (fun h3 => ?_) (fun h3 => ?_)
  · have hkn : k < ms.length := by simpa using h3
    obtain ⟨ad, rfl, hlt, hcells⟩ := hr.at_ (by omega)
    have hmk : ms[k]? = some ms[k] := List.getElem?_eq_getElem hkn
    have hcell := hcells k hkn
    rw [show at0 ms k = ms[k] by simp [at0, hkn]] at hcell
    repeat (first | (refine M0 ?_; first | refine SL ?_ | refine SB fun _ _ => ?_ | refine Y4 (Ev.load_old tok rfl rfl (add_lt hlt) hcell) ?_ | refine Y4 (Ev.callv (f := f) (fst := []) (cap := cap) hck rfl rfl (fun w S => hc _ (List.getElem_mem hkn) w S.toBelow)) ?_) | (refine M1 ?_; first | refine SC ?_ | refine SD ?_) | (refine M2 ?_; refine SE ?_) | (refine M3 ?_; first | refine SG ?_ | refine SF ?_ | refine YF (Ev.load_old tok rfl rfl (add_lt hlt) hcell) ?_ | refine YF (Ev.callv (f := f) (fst := []) (cap := cap) hck rfl rfl (fun w S => hc _ (List.getElem_mem hkn) w S.toBelow)) ?_) | (refine M4 ?_; refine SR ?_) | (refine M5 ?_; first | exact M7 | refine YM ?_ | refine YN ?_ ?_))
    refine XC.cond _ rfl (fun h4 => ?_) (fun h4 => ?_)
    · repeat (first | (refine M0 ?_; first | refine SL ?_ | refine SB fun _ _ => ?_) | (refine M1 ?_; first | refine SC ?_ | refine SD ?_) | (refine M2 ?_; refine SE ?_) | (refine M3 ?_; first | refine SG ?_ | refine SF ?_) | (refine M4 ?_; refine SR ?_) | (refine M5 ?_; first | exact M7 | refine YM ?_ | refine YN ?_ ?_))
      refine XE.retg tok Try.results76 rfl (by simp only [and_self, and_true]) (fun w' S => ?_)
      have : ms.findIdx? P = some k := by
        rw [List.findIdx?_eq_some_iff_getElem]
        exact ⟨hkn, h4, fun j hj => by simpa using h0 j _ hj (List.getElem?_eq_getElem (by omega))⟩
      unfold idxL
      rw [this]
      exact ⟨rfl, S.toBelow⟩
    · repeat (first | (refine M0 ?_; first | refine SL ?_ | refine SB fun _ _ => ?_) | (refine M1 ?_; first | refine SC ?_ | refine SD ?_) | (refine M2 ?_; refine SE ?_) | (refine M3 ?_; first | refine SG ?_ | refine SF ?_) | (refine M4 ?_; refine SR ?_) | (refine M5 ?_; first | exact M7 | refine YM ?_ | refine YN ?_ ?_))
      refine XE.round (k + 1) ⟨hkn, fun j m hj hm => ?_⟩ (by omega) ZZSUB (fun _ h => h)
      rcases Nat.lt_or_ge j k with h5 | h5
      · exact h0 j m h5 hm
      · have : j = k := by omega
        subst this
        rw [hmk] at hm
        cases hm
        exact h4
  · have hkn : ¬ k < ms.length := by simpa using h3
    repeat (first | (refine M0 ?_; first | refine SL ?_ | refine SB fun _ _ => ?_) | (refine M1 ?_; first | refine SC ?_ | refine SD ?_) | (refine M2 ?_; refine SE ?_) | (refine M3 ?_; first | refine SG ?_ | refine SF ?_) | (refine M4 ?_; refine SR ?_) | (refine M5 ?_; first | exact M7 | refine YM ?_ | refine YN ?_ ?_))
    refine XE.retg tok Try.results76 rfl (by simp only [and_self, and_true]) (fun w' S => ?_)
    have : ms.findIdx? P = none := by
      rw [List.findIdx?_eq_none_iff]
      intro m hm
      obtain ⟨j, hj, e⟩ := List.mem_iff_getElem.1 hm
      exact h0 j m (by omega) (by rw [List.getElem?_eq_getElem hj, e])
    unfold idxL
    rw [this]
    exact ⟨rfl, S.toBelow⟩
theorem contC {f : FuncId} {cap : List Value} {P : Int → Bool} {r : SV} {ms : List Int} {w : World} (hck : callOk Try.prog f = true) (hr : IntsAt w (Lt w.heap.size) r ms) (hn : ms.length ≤ 1000)
    (hc : ∀ m, m ∈ ms → ∀ w', Below w.heap.size w w' → Calls Try.prog f ([] ++ [Value.int .i64 m] ++ cap).toArray w' fun e w'' => e = .returned (.bool (P m)) ∧ Below w'.heap.size w' w'') :
    Calls Try.prog 39 #[svV r, .func (.func f) #[] cap.toArray] w fun e w' => e = .returned (.bool (ms.any P)) ∧ Below w.heap.size w w' := by
  obtain ⟨A, n, c⟩ := r
  simp only [svV]
  refine enter Try.func39 rfl Try.ntmps39 rfl ?_; simp only [frame, Nat.zero_add, Nat.reduceAdd]
  repeat (first | (refine M0 ?_; first | refine SL ?_ | refine SB fun _ _ => ?_ | refine Y4 (Ev.call (f := 76) (ck rfl) rfl (fun w5 S5 => (idxC (f := f) (cap := cap) (P := P) (r := ⟨A, n, c⟩) (ms := ms) hck (hr.arg S5) hn (fun m hm w' hb => hc m hm w' (S5.toBelow.trans (hb.mono S5.size))) :))) ?_) | (refine M1 ?_; first | refine SC ?_ | refine SD ?_) | (refine M2 ?_; refine SE ?_) | (refine M3 ?_; first | refine SG ?_ | refine SF ?_ | refine YF (Ev.call (f := 76) (ck rfl) rfl (fun w5 S5 => (idxC (f := f) (cap := cap) (P := P) (r := ⟨A, n, c⟩) (ms := ms) hck (hr.arg S5) hn (fun m hm w' hb => hc m hm w' (S5.toBelow.trans (hb.mono S5.size))) :))) ?_) | (refine M4 ?_; refine SR ?_) | (refine M5 ?_; first | exact M7 | refine YM ?_ | refine YN ?_ ?_))
  refine XE.retg tok Try.results39 rfl (by simp only [and_self, and_true]) (fun w' S => ?_)
  exact ⟨by rw [idxL_any]; rfl, S.toBelow⟩
end Go.Proofs.Ytmpaiphakjogjaa.X
/-
  The walk of closure.Check.
-/
namespace Go.Proofs.Ytmpaiphakjogjaa.Bs
open Go.Proofs.Ytmpaiphakjogjaa.X
structure PreA (t : CTk) : Prop where
  c : chkE t.b = 0
  m : outB t.m 1 8 = false
  n : outB t.n 1 60 = false
structure PreB (t : CTk) : Prop extends PreA t where
  h : ∀ j, j < t.m → hisErr t j = 0
section
variable {t : CTk}
theorem chkC_1 (h : chkE t.b ≠ 0) : chkC t = (1, 0, chkE t.b) := by unfold chkC; rw [if_pos h]
theorem chkC_2 (h : chkE t.b = 0) (h2 : (outB t.m 1 8 || outB t.n 1 60) = true) : chkC t = (2, 0, 3) := by unfold chkC; rw [if_neg (by simp [h]), if_pos h2]
theorem chkC_3 (p : PreA t) {i : Nat} (hi : i < t.m) (h0 : ∀ j, j < i → hisErr t j = 0) {e : Int} (h : hisErr t i = e) (he : e ≠ 0) : chkC t = (2, ((i : Nat) : Int), e) := by
  subst h
  unfold chkC
  rw [if_neg (by simp [p.c]), if_neg (by simp [p.m, p.n]), firstN_some hi h0 he]
variable (p : PreB t)
include p
theorem chkC_4 (h : t.river.length ≠ t.n) : chkC t = (3, 0, 2) := by
  unfold chkC
  rw [if_neg (by simp [p.c]), if_neg (by simp [p.m, p.n]), firstN_none p.h]
  simp only
  rw [if_pos h]
variable (h1 : t.river.length = t.n)
include h1
theorem chkC_5 (h : (t.river.any fun v => outB v 0 10000000) = true) : chkC t = (3, 0, 7) := by
  unfold chkC
  rw [if_neg (by simp [p.c]), if_neg (by simp [p.m, p.n]), firstN_none p.h]
  simp only
  rw [if_neg (by simp [h1]), if_pos h]
variable (h2 : (t.river.any fun v => outB v 0 10000000) = false)
include h2
theorem chkC_6 (h : t.fil.length ≠ t.b.pols.length) : chkC t = (4, 0, 2) := by
  unfold chkC
  rw [if_neg (by simp [p.c]), if_neg (by simp [p.m, p.n]), firstN_none p.h]
  simp only
  rw [if_neg (by simp [h1]), if_neg (by simp [h2]), if_pos h]
variable (h3 : t.fil.length = t.b.pols.length)
include h3
theorem chkC_7 (h : (outB t.out 0 10000000 || (outB t.limit (t.b.row 0).level 20000 || outB t.delay 0 30)) = true) : chkC t = (4, 0, 7) := by
  unfold chkC
  rw [if_neg (by simp [p.c]), if_neg (by simp [p.m, p.n]), firstN_none p.h]
  simp only
  rw [if_neg (by simp [h1]), if_neg (by simp [h2]), if_neg (by simp [h3]), if_pos h]
variable (h4 : (outB t.out 0 10000000 || (outB t.limit (t.b.row 0).level 20000 || outB t.delay 0 30)) = false)
include h4
theorem chkC_8 (h : filBad t = true) : chkC t = (4, 0, 7) := by
  unfold chkC
  rw [if_neg (by simp [p.c]), if_neg (by simp [p.m, p.n]), firstN_none p.h]
  simp only
  rw [if_neg (by simp [h1]), if_neg (by simp [h2]), if_neg (by simp [h3]), if_neg (by simp [h4]), if_pos h]
theorem chkC_9 (h : filBad t = false) : chkC t = (0, 0, 0) := by
  unfold chkC
  rw [if_neg (by simp [p.c]), if_neg (by simp [p.m, p.n]), firstN_none p.h]
  simp only
  rw [if_neg (by simp [h1]), if_neg (by simp [h2]), if_neg (by simp [h3]), if_neg (by simp [h4]), if_neg (by simp [h])]
end
theorem filBad_eq (t : CTk) : filBad t = (firstB (fun i => outB (at0 t.fil i) 0 (t.b.pol i).room) t.fil.length).isSome := by
  unfold filBad
  cases h : firstB (fun i => outB (at0 t.fil i) 0 (t.b.pol i).room) t.fil.length with
  | none =>
    have := firstB_none.1 h
    simp only [Option.isSome_none]
    rw [List.any_eq_false]
    intro i hi
    rw [this i (by simpa using hi)]; simp
  | some i =>
    obtain ⟨a1, a2, _⟩ := firstB_some.1 h
    simp only [Option.isSome_some]
    rw [List.any_eq_true]
    exact ⟨i, by simpa using a1, a2⟩
end Go.Proofs.Ytmpaiphakjogjaa.Bs
namespace Go.Proofs.Ytmpaiphakjogjaa.X
open Go Go.RowKit Go.Proofs.Ytmpaiphakjogjaa.Bs
set_option linter.unusedVariables false
noncomputable def chkCV (t : CTk) : Value := .tuple ⟨[.int .i64 (chkC t).1, .int .i64 (chkC t).2.1, .int .i64 (chkC t).2.2]⟩
theorem chkCV_of {t : CTk} {a b c : Int} (h : chkC t = (a, b, c)) : Ending.returned (.tuple ⟨[.int .i64 a, .int .i64 b, .int .i64 c]⟩) = .returned (chkCV t) := by unfold chkCV; rw [h]
set_option maxHeartbeats 16000000 in
theorem ctCheck_any {v : CTV} {t : CTk} {w : World} (h : CtAt w w.heap.size v t) :
    Calls Try.prog 11 #[ctkV v t] w fun e w' => e = .returned (chkCV t) ∧ Below w.heap.size w w' := by
  have hh := h
  have hm := h.hn
  have hmax := h.hmax
  have hrn := h.river.len
  have hfn := h.fil.len
  have hpn := h.bas.n2_eq
  have hrows := h.bas.n_eq
  have hbas := h.bas
  have hhis := fun k hk => h.hisAt (k := k) hk
  have hriv := h.river
  have hfil := h.fil
  obtain ⟨⟨A1, n1, c1, A2, n2, c2⟩, ⟨Af, nf, cf⟩, ⟨Ah, nh, ch⟩, ⟨Ar, nr, cr⟩⟩ := v
  simp only at hm hrn hfn hpn hrows hmax
  subst hm hrn hfn hpn hrows
  simp only [ctkV, ctkC]
  have hchk := fun (w5 : World) (hB : Below w.heap.size w w5) => check_any (p := ⟨A1, t.b.rows.length, c1, A2, t.b.pols.length, c2⟩) (b := t.b) w5 ((hbas.below hB).more hB.size)
  simp only [basV, basC] at hchk
  refine enter Try.func11 rfl Try.ntmps11 rfl ?_; simp only [frame, Nat.zero_add, Nat.reduceAdd]
  repeat (first | (refine M0 ?_; first | refine SL ?_ | refine SB fun _ _ => ?_ | refine Y4 (Ev.call (f := 36) (ck rfl) rfl (fun w5 S5 => hchk w5 S5.toBelow)) ?_) | (refine M1 ?_; refine SC ?_) | (refine M2 ?_; refine SE ?_))
  by_cases hc : chkE t.b = 0
  rotate_left
  · rw [show decide ((chk t.b).2.2 ≠ 0) = true from decide_eq_true hc]
    repeat (first | (refine M0 ?_; first | refine SL ?_ | refine SB fun _ _ => ?_) | (refine M1 ?_; refine SC ?_) | (refine M2 ?_; refine SE ?_))
    refine XE.retg tok Try.results11 rfl (by simp only [and_self, and_true]) (fun w' S => ?_)
    exact ⟨chkCV_of (chkC_1 hc), S.toBelow⟩
  rw [show decide ((chk t.b).2.2 ≠ 0) = false from decide_eq_false (fun h => h hc)]
  repeat (first | (refine M0 ?_; first | refine SL ?_ | refine SB fun _ _ => ?_ | refine Y4 (Ev.call (f := 37) (ck rfl) rfl (fun w S => cout_any _ _ _ w)) ?_) | (refine M1 ?_; refine SC ?_) | (refine M2 ?_; refine SE ?_))
  cases hm1 : outB (t.m : Int) 1 8
  rotate_left
  · repeat (first | (refine M0 ?_; first | refine SL ?_ | refine SB fun _ _ => ?_) | (refine M1 ?_; refine SC ?_) | (refine M2 ?_; refine SE ?_))
    refine XE.retg tok Try.results11 rfl (by simp only [and_self, and_true]) (fun w' S => ?_)
    exact ⟨chkCV_of (chkC_2 hc (by rw [hm1]; rfl)), S.toBelow⟩
  have hm2 := outB_f.1 hm1
  obtain ⟨ad, ⟨A0, n0, c0⟩, rfl, hlt, hcell0, hq0⟩ := hhis 0 (by omega)
  have hl0 := hq0.len
  have hn0 : n0 = t.n := hl0
  subst hn0
  have d01 : w.cell? ((ad.add (0 * 2)).add 1) = some (.slice A0 t.n c0) := hcell0 1 _ rfl
  repeat (first | (refine M0 ?_; first | refine SL ?_ | refine SB fun _ _ => ?_ | refine Y4 (Ev.load_old tok rfl rfl (add_lt2 hlt) d01) ?_ | refine Y4 (Ev.call (f := 37) (ck rfl) rfl (fun w S => cout_any _ _ _ w)) ?_) | (refine M1 ?_; refine SC ?_) | (refine M2 ?_; refine SE ?_))
  cases hn1 : outB (t.n : Int) 1 60
  rotate_left
  · repeat (first | (refine M0 ?_; first | refine SL ?_ | refine SB fun _ _ => ?_) | (refine M1 ?_; refine SC ?_) | (refine M2 ?_; refine SE ?_))
    refine XE.retg tok Try.results11 rfl (by simp only [and_self, and_true]) (fun w' S => ?_)
    exact ⟨chkCV_of (chkC_2 hc (by rw [hm1, hn1]; rfl)), S.toBelow⟩
  have hn2 := outB_f.1 hn1
  have pA : PreA t := ⟨hc, hm1, hn1⟩
  repeat (first | (refine M0 ?_; first | refine SL ?_ | refine SB fun _ _ => ?_ | refine Y4 (Ev.load_old_agg tok (hisC ⟨A0, t.n, c0⟩ (t.h 0)) rfl rfl rfl (add_lt hlt) hcell0) ?_) | (refine M1 ?_; refine SC ?_) | (refine M2 ?_; refine SE ?_))
  rename_i g1 hg1 g5 hg5
  refine XC.loopk [1, 5, 6, 7, 42, 43] rfl (fun k : Nat => [(44, .int .i64 (k : Nat))]) (fun _ => _) (fun _ => w) (fun k => k ≤ t.m ∧ ∀ j, j < k → hisErr t j = 0) (fun k => t.m - k) 0 ⟨Nat.zero_le _, fun j h => absurd h (by omega)⟩ ZZSUB (fun _ h => h) ?_
  rintro k ⟨hk, h0⟩
  dsimp only [List.cons_append, List.nil_append]
  repeat (first | (refine M0 ?_; first | refine SL ?_ | refine SB fun _ _ => ?_) | (refine M1 ?_; refine SC ?_) | (refine M2 ?_; refine SE ?_))
  refine XC.cond _ rfl (fun h3 => ?_) (fun h3 => ?_)
  · have hkn : k < t.m := by simpa using h3
    obtain ⟨ad', ⟨Ak, nk, ck1⟩, e, _, hck, hqk⟩ := hhis k hkn
    cases e
    have hlk := hqk.len
    simp only at hlk
    subst hlk
    repeat (first | (refine M0 ?_; first | refine SL ?_ | refine SB fun _ _ => ?_ | refine Y4 (Ev.load_old_agg tok (hisC ⟨Ak, (t.h k).vals.length, ck1⟩ (t.h k)) rfl rfl rfl (add_lt hlt) hck) ?_) | (refine M1 ?_; refine SC ?_) | (refine M2 ?_; refine SE ?_))
    rename_i g9 hg9
    by_cases hf : (t.h k).from_ = (t.h 0).from_
    rotate_left
    · rw [show decide ((t.h k).from_ ≠ (t.h 0).from_) = true from decide_eq_true hf]
      repeat (first | (refine M0 ?_; first | refine SL ?_ | refine SB fun _ _ => ?_) | (refine M1 ?_; refine SC ?_) | (refine M2 ?_; refine SE ?_))
      refine XE.retg tok Try.results11 rfl (by simp only [and_self, and_true]) (fun w' S => ?_)
      exact ⟨chkCV_of (chkC_3 pA hkn h0 (by unfold hisErr; rw [if_pos (.inl hf)]) (by decide)), S.toBelow⟩
    rw [show decide ((t.h k).from_ ≠ (t.h 0).from_) = false from decide_eq_false (fun h => h hf)]
    repeat (first | (refine M0 ?_; first | refine SL ?_ | refine SB fun _ _ => ?_) | (refine M1 ?_; refine SC ?_) | (refine M2 ?_; refine SE ?_))
    by_cases hl : (t.h k).vals.length = t.n
    rotate_left
    · rw [show decide (((t.h k).vals.length : Int) ≠ (t.n : Int)) = true from decide_eq_true (by omega)]
      repeat (first | (refine M0 ?_; first | refine SL ?_ | refine SB fun _ _ => ?_) | (refine M1 ?_; refine SC ?_) | (refine M2 ?_; refine SE ?_))
      refine XE.retg tok Try.results11 rfl (by simp only [and_self, and_true]) (fun w' S => ?_)
      exact ⟨chkCV_of (chkC_3 pA hkn h0 (by unfold hisErr; rw [if_pos (.inr hl)]) (by decide)), S.toBelow⟩
    rw [show decide (((t.h k).vals.length : Int) ≠ (t.n : Int)) = false from decide_eq_false (by omega)]
    repeat (first | (refine M0 ?_; first | refine SL ?_ | refine SB fun _ _ => ?_ | refine Y4 (Ev.call (f := 37) (ck rfl) rfl (fun w S => cout_any _ _ _ w)) ?_) | (refine M1 ?_; refine SC ?_) | (refine M2 ?_; refine SE ?_))
    have hneg : ¬ ((t.h k).from_ ≠ t.from_ ∨ (t.h k).vals.length ≠ t.n) := fun h => h.elim (fun h => h hf) (fun h => h hl)
    cases ho : outB (t.h k).from_ 0 (200000 - (t.n : Int) + 1)
    rotate_left
    · repeat (first | (refine M0 ?_; first | refine SL ?_ | refine SB fun _ _ => ?_) | (refine M1 ?_; refine SC ?_) | (refine M2 ?_; refine SE ?_))
      refine XE.retg tok Try.results11 rfl (by simp only [and_self, and_true]) (fun w' S => ?_)
      exact ⟨chkCV_of (chkC_3 pA hkn h0 (e := 7) (by unfold hisErr; rw [if_neg hneg, ho]; rfl) (by decide)), S.toBelow⟩
    repeat (first | (refine M0 ?_; first | refine SL ?_ | refine SB fun _ _ => ?_) | (refine M1 ?_; refine SC ?_) | (refine M2 ?_; refine SE ?_))
    refine XL.step _ (Ev.call (f := 39) (ck rfl) rfl (fun w5 S5 => (contC (f := 38) (cap := []) (P := highB) (r := ⟨Ak, (t.h k).vals.length, ck1⟩) (ms := (t.h k).vals) (ck rfl) (hqk.arg S5) (by omega) (fun m hm w' hb => cchk1_any m w') :))) rfl ?_
    cases ha : (t.h k).vals.any highB
    rotate_left
    · repeat (first | (refine M0 ?_; first | refine SL ?_ | refine SB fun _ _ => ?_) | (refine M1 ?_; refine SC ?_) | (refine M2 ?_; refine SE ?_))
      refine XE.retg tok Try.results11 rfl (by simp only [and_self, and_true]) (fun w' S => ?_)
      exact ⟨chkCV_of (chkC_3 pA hkn h0 (e := 7) (by unfold hisErr; rw [if_neg hneg, ho, ha]; rfl) (by decide)), S.toBelow⟩
    repeat (first | (refine M0 ?_; first | refine SL ?_ | refine SB fun _ _ => ?_) | (refine M1 ?_; refine SC ?_) | (refine M2 ?_; refine SE ?_))
    refine XE.round (k + 1) ⟨hkn, fun j hj => ?_⟩ (by omega) ZZSUB (fun _ h => h.pop (by assumption))
    rcases Nat.lt_or_ge j k with h5 | h5
    · exact h0 j h5
    · have : j = k := by omega
      subst this
      unfold hisErr; rw [if_neg hneg, ho, ha]; rfl
  have hkn : k = t.m := by have : ¬ k < t.m := by simpa using h3
                           omega
  subst hkn
  have pB : PreB t := ⟨pA, h0⟩
  repeat (first | (refine M0 ?_; first | refine SL ?_ | refine SB fun _ _ => ?_) | (refine M1 ?_; refine SC ?_) | (refine M2 ?_; refine SE ?_))
  by_cases hr : t.river.length = t.n
  rotate_left
  · rw [show decide ((t.river.length : Int) ≠ (t.n : Int)) = true from decide_eq_true (by omega)]
    repeat (first | (refine M0 ?_; first | refine SL ?_ | refine SB fun _ _ => ?_) | (refine M1 ?_; refine SC ?_) | (refine M2 ?_; refine SE ?_))
    refine XE.retg tok Try.results11 rfl (by simp only [and_self, and_true]) (fun w' S => ?_)
    exact ⟨chkCV_of (chkC_4 pB hr), S.toBelow⟩
  rw [show decide ((t.river.length : Int) ≠ (t.n : Int)) = false from decide_eq_false (by omega)]
  repeat (first | (refine M0 ?_; first | refine SL ?_ | refine SB fun _ _ => ?_) | (refine M1 ?_; refine SC ?_) | (refine M2 ?_; refine SE ?_))
  refine XL.step _ (Ev.call (f := 39) (ck rfl) rfl (fun w5 S5 => (contC (f := 40) (cap := []) (P := fun v => outB v 0 10000000) (r := ⟨Ar, t.river.length, cr⟩) (ms := t.river) (ck rfl) (hriv.arg S5) (by omega) (fun m hm w' hb => cchk2_any m w') :))) rfl ?_
  cases ha : t.river.any fun v => outB v 0 10000000
  rotate_left
  · repeat (first | (refine M0 ?_; first | refine SL ?_ | refine SB fun _ _ => ?_) | (refine M1 ?_; refine SC ?_) | (refine M2 ?_; refine SE ?_))
    refine XE.retg tok Try.results11 rfl (by simp only [and_self, and_true]) (fun w' S => ?_)
    exact ⟨chkCV_of (chkC_5 pB hr ha), S.toBelow⟩
  repeat (first | (refine M0 ?_; first | refine SL ?_ | refine SB fun _ _ => ?_) | (refine M1 ?_; refine SC ?_) | (refine M2 ?_; refine SE ?_))
  by_cases hfl : t.fil.length = t.b.pols.length
  rotate_left
  · rw [show decide ((t.fil.length : Int) ≠ (t.b.pols.length : Int)) = true from decide_eq_true (by omega)]
    repeat (first | (refine M0 ?_; first | refine SL ?_ | refine SB fun _ _ => ?_) | (refine M1 ?_; refine SC ?_) | (refine M2 ?_; refine SE ?_))
    refine XE.retg tok Try.results11 rfl (by simp only [and_self, and_true]) (fun w' S => ?_)
    exact ⟨chkCV_of (chkC_6 pB hr ha hfl), S.toBelow⟩
  rw [show decide ((t.fil.length : Int) ≠ (t.b.pols.length : Int)) = false from decide_eq_false (by omega)]
  repeat (first | (refine M0 ?_; first | refine SL ?_ | refine SB fun _ _ => ?_) | (refine M1 ?_; refine SC ?_) | (refine M2 ?_; refine SE ?_))
  have hOk := ok_of hc
  have hr2 := hOk.n2
  obtain ⟨ar, rfl, hltr⟩ := hbas.rows.addr (by simp only; omega)
  have dlev : w.cell? ((ar.add (0 * 2)).add 0) = some (.int .i64 (t.b.row 0).level) := hbas.rowLevel (by omega)
  obtain ⟨b1, hb1⟩ : ∃ b1, b1 = outB t.out 0 10000000 := ⟨_, rfl⟩
  obtain ⟨b2, hb2⟩ : ∃ b2, b2 = outB t.limit (t.b.row 0).level 20000 := ⟨_, rfl⟩
  obtain ⟨b3, hb3⟩ : ∃ b3, b3 = outB t.delay 0 30 := ⟨_, rfl⟩
  have f1 := fun w => cchk2_any t.out w
  rw [← hb1] at f1
  cases b1
  rotate_left
  · repeat (first | (refine M0 ?_; first | refine SL ?_ | refine SB fun _ _ => ?_) | (refine M1 ?_; refine SC ?_) | (refine M2 ?_; refine SE ?_))
    repeat (first | (refine M0 ?_; first | refine SL ?_ | refine SB fun _ _ => ?_ | refine Y4 (Ev.callv (f := 40) (fst := []) (cap := []) (vs := [.int .i64 t.out]) (ck rfl) rfl rfl (fun w S => f1 w)) ?_ | refine Y4 (Ev.call (f := 37) (ck rfl) rfl (fun w S => cout_any _ _ _ w)) ?_ | refine Y4 (Ev.load_old tok rfl rfl (add_lt2 hltr) dlev) ?_) | (refine M1 ?_; first | refine SC ?_ | refine SD ?_) | (refine M2 ?_; refine SE ?_) | (refine M3 ?_; first | refine SG ?_ | refine SF ?_ | refine YF (Ev.callv (f := 40) (fst := []) (cap := []) (vs := [.int .i64 t.out]) (ck rfl) rfl rfl (fun w S => f1 w)) ?_ | refine YF (Ev.call (f := 37) (ck rfl) rfl (fun w S => cout_any _ _ _ w)) ?_ | refine YF (Ev.load_old tok rfl rfl (add_lt2 hltr) dlev) ?_) | (refine M4 ?_; refine SR ?_) | (refine M5 ?_; first | exact M7 | refine YM ?_ | refine YN ?_ ?_))
    repeat (first | (refine M0 ?_; first | refine SL ?_ | refine SB fun _ _ => ?_) | (refine M1 ?_; refine SC ?_) | (refine M2 ?_; refine SE ?_))
    refine XE.retg tok Try.results11 rfl (by simp only [and_self, and_true]) (fun w' S => ?_)
    exact ⟨chkCV_of (chkC_7 pB hr ha hfl (by rw [← hb1]; rfl)), S.toBelow⟩
  cases b2
  rotate_left
  · repeat (first | (refine M0 ?_; first | refine SL ?_ | refine SB fun _ _ => ?_) | (refine M1 ?_; refine SC ?_) | (refine M2 ?_; refine SE ?_))
    repeat (first | (refine M0 ?_; first | refine SL ?_ | refine SB fun _ _ => ?_ | refine Y4 (Ev.callv (f := 40) (fst := []) (cap := []) (vs := [.int .i64 t.out]) (ck rfl) rfl rfl (fun w S => f1 w)) ?_ | refine Y4 (Ev.call (f := 37) (ck rfl) rfl (fun w S => cout_any _ _ _ w)) ?_ | refine Y4 (Ev.load_old tok rfl rfl (add_lt2 hltr) dlev) ?_) | (refine M1 ?_; first | refine SC ?_ | refine SD ?_) | (refine M2 ?_; refine SE ?_) | (refine M3 ?_; first | refine SG ?_ | refine SF ?_ | refine YF (Ev.callv (f := 40) (fst := []) (cap := []) (vs := [.int .i64 t.out]) (ck rfl) rfl rfl (fun w S => f1 w)) ?_ | refine YF (Ev.call (f := 37) (ck rfl) rfl (fun w S => cout_any _ _ _ w)) ?_ | refine YF (Ev.load_old tok rfl rfl (add_lt2 hltr) dlev) ?_) | (refine M4 ?_; refine SR ?_) | (refine M5 ?_; first | exact M7 | refine YM ?_ | refine YN ?_ ?_))
    rw [← hb2]
    repeat (first | (refine M0 ?_; first | refine SL ?_ | refine SB fun _ _ => ?_ | refine Y4 (Ev.callv (f := 40) (fst := []) (cap := []) (vs := [.int .i64 t.out]) (ck rfl) rfl rfl (fun w S => f1 w)) ?_ | refine Y4 (Ev.call (f := 37) (ck rfl) rfl (fun w S => cout_any _ _ _ w)) ?_ | refine Y4 (Ev.load_old tok rfl rfl (add_lt2 hltr) dlev) ?_) | (refine M1 ?_; first | refine SC ?_ | refine SD ?_) | (refine M2 ?_; refine SE ?_) | (refine M3 ?_; first | refine SG ?_ | refine SF ?_ | refine YF (Ev.callv (f := 40) (fst := []) (cap := []) (vs := [.int .i64 t.out]) (ck rfl) rfl rfl (fun w S => f1 w)) ?_ | refine YF (Ev.call (f := 37) (ck rfl) rfl (fun w S => cout_any _ _ _ w)) ?_ | refine YF (Ev.load_old tok rfl rfl (add_lt2 hltr) dlev) ?_) | (refine M4 ?_; refine SR ?_) | (refine M5 ?_; first | exact M7 | refine YM ?_ | refine YN ?_ ?_))
    repeat (first | (refine M0 ?_; first | refine SL ?_ | refine SB fun _ _ => ?_) | (refine M1 ?_; refine SC ?_) | (refine M2 ?_; refine SE ?_))
    refine XE.retg tok Try.results11 rfl (by simp only [and_self, and_true]) (fun w' S => ?_)
    exact ⟨chkCV_of (chkC_7 pB hr ha hfl (by rw [← hb1, ← hb2]; rfl)), S.toBelow⟩
  cases b3
  rotate_left
  · repeat (first | (refine M0 ?_; first | refine SL ?_ | refine SB fun _ _ => ?_) | (refine M1 ?_; refine SC ?_) | (refine M2 ?_; refine SE ?_))
    repeat (first | (refine M0 ?_; first | refine SL ?_ | refine SB fun _ _ => ?_ | refine Y4 (Ev.callv (f := 40) (fst := []) (cap := []) (vs := [.int .i64 t.out]) (ck rfl) rfl rfl (fun w S => f1 w)) ?_ | refine Y4 (Ev.call (f := 37) (ck rfl) rfl (fun w S => cout_any _ _ _ w)) ?_ | refine Y4 (Ev.load_old tok rfl rfl (add_lt2 hltr) dlev) ?_) | (refine M1 ?_; first | refine SC ?_ | refine SD ?_) | (refine M2 ?_; refine SE ?_) | (refine M3 ?_; first | refine SG ?_ | refine SF ?_ | refine YF (Ev.callv (f := 40) (fst := []) (cap := []) (vs := [.int .i64 t.out]) (ck rfl) rfl rfl (fun w S => f1 w)) ?_ | refine YF (Ev.call (f := 37) (ck rfl) rfl (fun w S => cout_any _ _ _ w)) ?_ | refine YF (Ev.load_old tok rfl rfl (add_lt2 hltr) dlev) ?_) | (refine M4 ?_; refine SR ?_) | (refine M5 ?_; first | exact M7 | refine YM ?_ | refine YN ?_ ?_))
    rw [← hb2]
    repeat (first | (refine M0 ?_; first | refine SL ?_ | refine SB fun _ _ => ?_ | refine Y4 (Ev.callv (f := 40) (fst := []) (cap := []) (vs := [.int .i64 t.out]) (ck rfl) rfl rfl (fun w S => f1 w)) ?_ | refine Y4 (Ev.call (f := 37) (ck rfl) rfl (fun w S => cout_any _ _ _ w)) ?_ | refine Y4 (Ev.load_old tok rfl rfl (add_lt2 hltr) dlev) ?_) | (refine M1 ?_; first | refine SC ?_ | refine SD ?_) | (refine M2 ?_; refine SE ?_) | (refine M3 ?_; first | refine SG ?_ | refine SF ?_ | refine YF (Ev.callv (f := 40) (fst := []) (cap := []) (vs := [.int .i64 t.out]) (ck rfl) rfl rfl (fun w S => f1 w)) ?_ | refine YF (Ev.call (f := 37) (ck rfl) rfl (fun w S => cout_any _ _ _ w)) ?_ | refine YF (Ev.load_old tok rfl rfl (add_lt2 hltr) dlev) ?_) | (refine M4 ?_; refine SR ?_) | (refine M5 ?_; first | exact M7 | refine YM ?_ | refine YN ?_ ?_))
    rw [← hb3]
    repeat (first | (refine M0 ?_; first | refine SL ?_ | refine SB fun _ _ => ?_) | (refine M1 ?_; refine SC ?_) | (refine M2 ?_; refine SE ?_))
    refine XE.retg tok Try.results11 rfl (by simp only [and_self, and_true]) (fun w' S => ?_)
    exact ⟨chkCV_of (chkC_7 pB hr ha hfl (by rw [← hb1, ← hb2, ← hb3]; rfl)), S.toBelow⟩
  have h7 : (outB t.out 0 10000000 || (outB t.limit (t.b.row 0).level 20000 || outB t.delay 0 30)) = false := by rw [← hb1, ← hb2, ← hb3]; rfl
  repeat (first | (refine M0 ?_; first | refine SL ?_ | refine SB fun _ _ => ?_) | (refine M1 ?_; refine SC ?_) | (refine M2 ?_; refine SE ?_))
  repeat (first | (refine M0 ?_; first | refine SL ?_ | refine SB fun _ _ => ?_ | refine Y4 (Ev.callv (f := 40) (fst := []) (cap := []) (vs := [.int .i64 t.out]) (ck rfl) rfl rfl (fun w S => f1 w)) ?_ | refine Y4 (Ev.call (f := 37) (ck rfl) rfl (fun w S => cout_any _ _ _ w)) ?_ | refine Y4 (Ev.load_old tok rfl rfl (add_lt2 hltr) dlev) ?_) | (refine M1 ?_; first | refine SC ?_ | refine SD ?_) | (refine M2 ?_; refine SE ?_) | (refine M3 ?_; first | refine SG ?_ | refine SF ?_ | refine YF (Ev.callv (f := 40) (fst := []) (cap := []) (vs := [.int .i64 t.out]) (ck rfl) rfl rfl (fun w S => f1 w)) ?_ | refine YF (Ev.call (f := 37) (ck rfl) rfl (fun w S => cout_any _ _ _ w)) ?_ | refine YF (Ev.load_old tok rfl rfl (add_lt2 hltr) dlev) ?_) | (refine M4 ?_; refine SR ?_) | (refine M5 ?_; first | exact M7 | refine YM ?_ | refine YN ?_ ?_))
  rw [← hb2]
  repeat (first | (refine M0 ?_; first | refine SL ?_ | refine SB fun _ _ => ?_ | refine Y4 (Ev.callv (f := 40) (fst := []) (cap := []) (vs := [.int .i64 t.out]) (ck rfl) rfl rfl (fun w S => f1 w)) ?_ | refine Y4 (Ev.call (f := 37) (ck rfl) rfl (fun w S => cout_any _ _ _ w)) ?_ | refine Y4 (Ev.load_old tok rfl rfl (add_lt2 hltr) dlev) ?_) | (refine M1 ?_; first | refine SC ?_ | refine SD ?_) | (refine M2 ?_; refine SE ?_) | (refine M3 ?_; first | refine SG ?_ | refine SF ?_ | refine YF (Ev.callv (f := 40) (fst := []) (cap := []) (vs := [.int .i64 t.out]) (ck rfl) rfl rfl (fun w S => f1 w)) ?_ | refine YF (Ev.call (f := 37) (ck rfl) rfl (fun w S => cout_any _ _ _ w)) ?_ | refine YF (Ev.load_old tok rfl rfl (add_lt2 hltr) dlev) ?_) | (refine M4 ?_; refine SR ?_) | (refine M5 ?_; first | exact M7 | refine YM ?_ | refine YN ?_ ?_))
  rw [← hb3]
  repeat (first | (refine M0 ?_; first | refine SL ?_ | refine SB fun _ _ => ?_) | (refine M1 ?_; refine SC ?_) | (refine M2 ?_; refine SE ?_))
  refine XL.step _ (Ev.makeFunc rfl rfl) rfl ?_
  have hwh := fun {L : Lo} (w5 : World) (S5 : Sys w.heap.size w L w5) (hg : (g1, cel 29 (ctkC ⟨⟨some ar, t.b.rows.length, c1, A2, t.b.pols.length, c2⟩, ⟨Af, t.fil.length, cf⟩, ⟨some ad, t.m, ch⟩, ⟨Ar, t.river.length, cr⟩⟩ t)) ∈ L) => where_pure (f := 42) (cap := [.pointer (some ⟨g1, 0, none⟩)]) (P := fun i => outB (at0 t.fil i) 0 (t.b.pol i).room) (r := ⟨Af, t.fil.length, cf⟩) (ms := t.fil) (w := w5) (ck rfl) (hfil.arg S5) (by have := hOk.m6; omega) (fun k hk w' hb => cchk3_any ((hb.block g1 (S5.lt hg)).trans (S5.own _ hg).2) ((hbas.below (S5.toBelow.trans (hb.mono (Nat.le_trans S5.base S5.size)))).more (Nat.le_trans (Nat.le_trans S5.base S5.size) hb.size)) (by omega))
  refine XL.step _ (Ev.call (f := 41) (ck rfl) rfl (fun w5 S5 => (hwh w5 S5 (.tail _ (.head _)) :))) rfl ?_
  repeat (first | (refine M0 ?_; first | refine SL ?_ | refine SB fun _ _ => ?_) | (refine M1 ?_; refine SC ?_) | (refine M2 ?_; refine SE ?_))
  rw [idxB_any, ← filBad_eq]
  cases hfb : filBad t
  · repeat (first | (refine M0 ?_; first | refine SL ?_ | refine SB fun _ _ => ?_) | (refine M1 ?_; refine SC ?_) | (refine M2 ?_; refine SE ?_))
    refine XE.retg tok Try.results11 rfl (by simp only [and_self, and_true]) (fun w' S => ?_)
    exact ⟨chkCV_of (chkC_9 pB hr ha hfl h7 hfb), S.toBelow⟩
  · repeat (first | (refine M0 ?_; first | refine SL ?_ | refine SB fun _ _ => ?_) | (refine M1 ?_; refine SC ?_) | (refine M2 ?_; refine SE ?_))
    refine XE.retg tok Try.results11 rfl (by simp only [and_self, and_true]) (fun w' S => ?_)
    exact ⟨chkCV_of (chkC_8 pB hr ha hfl h7 hfb), S.toBelow⟩
end Go.Proofs.Ytmpaiphakjogjaa.X
/-
  Pairs of numbers compared: plans, peaks, witnesses, spans (closure).
-/
namespace Go.Proofs.Ytmpaiphakjogjaa.X
open Go Go.RowKit Go.Proofs.Ytmpaiphakjogjaa.Bs
set_option linter.unusedVariables false
section
variable {N : Nat} {B : Nat} {w0 : World} {ds : List Deferred} {F : Fr} {L : Lo} {pu : Prop} {dst : Option Tmp} {ty : TypeId} {p : String} {af : Array Edge} {gd : Option (Nat × Bool)}
theorem part_int5 (w : World) (cs : List Value) (o : Nat) (v : Value) (hv : cs[o]? = some v) : (part 3 ⟨cs⟩ o).run Try.prog w = .ok v w := by
  obtain ⟨h1, h2⟩ := isAgg_of_one (tab_ok tok.one (show lkG TB.one 3 = some () by rfl)) w
  simp [part, h2, hv]
theorem pln_eq (w : World) (a c b d : Int) : (Op.equalIn 10000 36 (.agg ⟨[.int .i64 a, .int .i64 c]⟩) (.agg ⟨[.int .i64 b, .int .i64 d]⟩)).run Try.prog w = .ok (decide (a = b) && decide (c = d)) w := by
  have hu := Try.underlying36
  have hf : Try.prog.underlying 36 = some (.struct (Try.prog.fieldsOf 36)) := by simp [Program.fieldsOf, hu]
  rw [run_equalIn_struct w 9999 36 _ _ hf (by kernel_rfl)]
  simp only [Program.fieldsOf, hu]
  simp only [Op.eqFields]
  have h1 := part_int5 w [.int .i64 a, .int .i64 c] 0 (.int .i64 a) rfl
  have h2 := part_int5 w [.int .i64 b, .int .i64 d] 0 (.int .i64 b) rfl
  have h3 := part_int5 w [.int .i64 a, .int .i64 c] 1 (.int .i64 c) rfl
  have h4 := part_int5 w [.int .i64 b, .int .i64 d] 1 (.int .i64 d) rfl
  have h5 := run_equalIn_int (P := Try.prog) w 9998 3 .i64 .i64 a b Try.underlying3
  have h6 := run_equalIn_int (P := Try.prog) w 9998 3 .i64 .i64 c d Try.underlying3
  simp [Sem.run_bind, h1, h2, h3, h4, h5, h6]
  by_cases e1 : a = b <;> by_cases e2 : c = d <;> simp [e1, e2, h3, h4, h6]
theorem Ev.plnNeq {x y : Operand} {u : TypeId} {a b c d : Int} (hx : evo F x = some (.agg ⟨[.int .i64 a, .int .i64 c]⟩)) (hy : evo F y = some (.agg ⟨[.int .i64 b, .int .i64 d]⟩)) :
    Ev Try.prog N B w0 ds pu F L ⟨dst, .binOp .neq 36 x y u, ty, p, af, gd⟩ (.bool (!(decide (a = b) && decide (c = d)))) := .of_run fun a' w hf hw => by
  have e1 := hf.eval hx
  have e2 := hf.eval hy
  have h1 := run_eqGuard_agg (P := Try.prog) w .neq 36 x y ⟨[.int .i64 a, .int .i64 c]⟩ ⟨[.int .i64 b, .int .i64 d]⟩ (by kernel_rfl)
  have h2 := run_neq_struct (P := Try.prog) w 36 ⟨[.int .i64 a, .int .i64 c]⟩ ⟨[.int .i64 b, .int .i64 d]⟩
  rw [pln_eq] at h2
  simp only [Result.andThen_ok] at h2
  simp [execOp, e1, e2, Sem.run_bind, h1, h2]
theorem Ev.plnEql {x y : Operand} {u : TypeId} {a b c d : Int} (hx : evo F x = some (.agg ⟨[.int .i64 a, .int .i64 c]⟩)) (hy : evo F y = some (.agg ⟨[.int .i64 b, .int .i64 d]⟩)) :
    Ev Try.prog N B w0 ds pu F L ⟨dst, .binOp .eql 36 x y u, ty, p, af, gd⟩ (.bool (decide (a = b) && decide (c = d))) := .of_run fun a' w hf hw => by
  have e1 := hf.eval hx
  have e2 := hf.eval hy
  have h1 := run_eqGuard_agg (P := Try.prog) w .eql 36 x y ⟨[.int .i64 a, .int .i64 c]⟩ ⟨[.int .i64 b, .int .i64 d]⟩ (by kernel_rfl)
  have h2 := run_eql_struct (P := Try.prog) w 36 ⟨[.int .i64 a, .int .i64 c]⟩ ⟨[.int .i64 b, .int .i64 d]⟩
  rw [pln_eq] at h2
  simp only [Result.andThen_ok] at h2
  simp [execOp, e1, e2, Sem.run_bind, h1, h2]
theorem pek_eq (w : World) (a c b d : Int) : (Op.equalIn 10000 76 (.agg ⟨[.int .i64 a, .int .i64 c]⟩) (.agg ⟨[.int .i64 b, .int .i64 d]⟩)).run Try.prog w = .ok (decide (a = b) && decide (c = d)) w := by
  have hu := Try.underlying76
  have hf : Try.prog.underlying 76 = some (.struct (Try.prog.fieldsOf 76)) := by simp [Program.fieldsOf, hu]
  rw [run_equalIn_struct w 9999 76 _ _ hf (by kernel_rfl)]
  simp only [Program.fieldsOf, hu]
  simp only [Op.eqFields]
  have h1 := part_int5 w [.int .i64 a, .int .i64 c] 0 (.int .i64 a) rfl
  have h2 := part_int5 w [.int .i64 b, .int .i64 d] 0 (.int .i64 b) rfl
  have h3 := part_int5 w [.int .i64 a, .int .i64 c] 1 (.int .i64 c) rfl
  have h4 := part_int5 w [.int .i64 b, .int .i64 d] 1 (.int .i64 d) rfl
  have h5 := run_equalIn_int (P := Try.prog) w 9998 3 .i64 .i64 a b Try.underlying3
  have h6 := run_equalIn_int (P := Try.prog) w 9998 3 .i64 .i64 c d Try.underlying3
  simp [Sem.run_bind, h1, h2, h3, h4, h5, h6]
  by_cases e1 : a = b <;> by_cases e2 : c = d <;> simp [e1, e2, h3, h4, h6]
theorem Ev.pekNeq {x y : Operand} {u : TypeId} {a b c d : Int} (hx : evo F x = some (.agg ⟨[.int .i64 a, .int .i64 c]⟩)) (hy : evo F y = some (.agg ⟨[.int .i64 b, .int .i64 d]⟩)) :
    Ev Try.prog N B w0 ds pu F L ⟨dst, .binOp .neq 76 x y u, ty, p, af, gd⟩ (.bool (!(decide (a = b) && decide (c = d)))) := .of_run fun a' w hf hw => by
  have e1 := hf.eval hx
  have e2 := hf.eval hy
  have h1 := run_eqGuard_agg (P := Try.prog) w .neq 76 x y ⟨[.int .i64 a, .int .i64 c]⟩ ⟨[.int .i64 b, .int .i64 d]⟩ (by kernel_rfl)
  have h2 := run_neq_struct (P := Try.prog) w 76 ⟨[.int .i64 a, .int .i64 c]⟩ ⟨[.int .i64 b, .int .i64 d]⟩
  rw [pek_eq] at h2
  simp only [Result.andThen_ok] at h2
  simp [execOp, e1, e2, Sem.run_bind, h1, h2]
theorem Ev.pekEql {x y : Operand} {u : TypeId} {a b c d : Int} (hx : evo F x = some (.agg ⟨[.int .i64 a, .int .i64 c]⟩)) (hy : evo F y = some (.agg ⟨[.int .i64 b, .int .i64 d]⟩)) :
    Ev Try.prog N B w0 ds pu F L ⟨dst, .binOp .eql 76 x y u, ty, p, af, gd⟩ (.bool (decide (a = b) && decide (c = d))) := .of_run fun a' w hf hw => by
  have e1 := hf.eval hx
  have e2 := hf.eval hy
  have h1 := run_eqGuard_agg (P := Try.prog) w .eql 76 x y ⟨[.int .i64 a, .int .i64 c]⟩ ⟨[.int .i64 b, .int .i64 d]⟩ (by kernel_rfl)
  have h2 := run_eql_struct (P := Try.prog) w 76 ⟨[.int .i64 a, .int .i64 c]⟩ ⟨[.int .i64 b, .int .i64 d]⟩
  rw [pek_eq] at h2
  simp only [Result.andThen_ok] at h2
  simp [execOp, e1, e2, Sem.run_bind, h1, h2]
theorem wtn_eq (w : World) (a c b d : Int) : (Op.equalIn 10000 88 (.agg ⟨[.int .i64 a, .int .i64 c]⟩) (.agg ⟨[.int .i64 b, .int .i64 d]⟩)).run Try.prog w = .ok (decide (a = b) && decide (c = d)) w := by
  have hu := Try.underlying88
  have hf : Try.prog.underlying 88 = some (.struct (Try.prog.fieldsOf 88)) := by simp [Program.fieldsOf, hu]
  rw [run_equalIn_struct w 9999 88 _ _ hf (by kernel_rfl)]
  simp only [Program.fieldsOf, hu]
  simp only [Op.eqFields]
  have h1 := part_int5 w [.int .i64 a, .int .i64 c] 0 (.int .i64 a) rfl
  have h2 := part_int5 w [.int .i64 b, .int .i64 d] 0 (.int .i64 b) rfl
  have h3 := part_int5 w [.int .i64 a, .int .i64 c] 1 (.int .i64 c) rfl
  have h4 := part_int5 w [.int .i64 b, .int .i64 d] 1 (.int .i64 d) rfl
  have h5 := run_equalIn_int (P := Try.prog) w 9998 3 .i64 .i64 a b Try.underlying3
  have h6 := run_equalIn_int (P := Try.prog) w 9998 3 .i64 .i64 c d Try.underlying3
  simp [Sem.run_bind, h1, h2, h3, h4, h5, h6]
  by_cases e1 : a = b <;> by_cases e2 : c = d <;> simp [e1, e2, h3, h4, h6]
theorem Ev.wtnNeq {x y : Operand} {u : TypeId} {a b c d : Int} (hx : evo F x = some (.agg ⟨[.int .i64 a, .int .i64 c]⟩)) (hy : evo F y = some (.agg ⟨[.int .i64 b, .int .i64 d]⟩)) :
    Ev Try.prog N B w0 ds pu F L ⟨dst, .binOp .neq 88 x y u, ty, p, af, gd⟩ (.bool (!(decide (a = b) && decide (c = d)))) := .of_run fun a' w hf hw => by
  have e1 := hf.eval hx
  have e2 := hf.eval hy
  have h1 := run_eqGuard_agg (P := Try.prog) w .neq 88 x y ⟨[.int .i64 a, .int .i64 c]⟩ ⟨[.int .i64 b, .int .i64 d]⟩ (by kernel_rfl)
  have h2 := run_neq_struct (P := Try.prog) w 88 ⟨[.int .i64 a, .int .i64 c]⟩ ⟨[.int .i64 b, .int .i64 d]⟩
  rw [wtn_eq] at h2
  simp only [Result.andThen_ok] at h2
  simp [execOp, e1, e2, Sem.run_bind, h1, h2]
end
end Go.Proofs.Ytmpaiphakjogjaa.X
/-
  The walks of a game's small functions: last, plan, stranger.
-/
namespace Go.Proofs.Ytmpaiphakjogjaa.X
open Go Go.RowKit Go.Proofs.Ytmpaiphakjogjaa.Bs
set_option linter.unusedVariables false
/-- what was there stands: the own blocks that were there, too. -/
theorem Sys.toBelowG {B : Nat} {w0 w : World} {L : Lo} (h : Sys B w0 L w) (hL : ∀ e, e ∈ L → e.1 < w0.heap.size → w0.heap[e.1]? = some e.2) : Below w0.heap.size w0 w :=
  ⟨h.os, h.tape, h.output, h.size, fun k hk => by
    by_cases he : ∃ e, e ∈ L ∧ e.1 = k
    · obtain ⟨e, he, rfl⟩ := he
      rw [(h.own e he).2]
      exact (hL e he hk).symm
    · exact h.old k hk fun e h1 h2 => he ⟨e, h1, h2⟩⟩
/-- one block that was there, and new ones. -/
theorem own1 {w0 : World} {g : Nat} {o : Obj} {L : Lo} (hg : w0.heap[g]? = some o) (hL : ∀ e, e ∈ L → e = (g, o) ∨ w0.heap.size ≤ e.1) : ∀ e, e ∈ L → e.1 < w0.heap.size → w0.heap[e.1]? = some e.2 := fun e he hlt => by
  rcases hL e he with rfl | h
  · exact hg
  · omega
theorem ZZO1 {p : Prop} (h : p := by (intro e he; repeat (first | (cases he; done) | (rcases List.mem_cons.1 he with rfl | he; · first | (left; rfl) | (right; assumption)))) <;> fail) : p := h
section
variable {v : CTV} {t : CTk} {g gm : Nat} {w : World}
theorem last_any (hg : w.heap[g]? = some (gamO v t gm)) (ho : CtOk t) :
    Calls Try.prog 49 #[.pointer (some ⟨g, 0, none⟩)] w fun e w' => e = .returned (.int .i64 t.last) ∧ Below w.heap.size w w' := by
  have h1 := ho.n60
  have h2 := ho.dly
  have S0 := Sys.start1 (B := 0) (Nat.zero_le g) hg
  simp only [gamO, gamC] at S0
  refine enterL Try.func49 rfl Try.ntmps49 rfl (S0) ?_; simp only [frame, Nat.zero_add, Nat.reduceAdd]
  refine XC.hint 0 0 ?_
  repeat (first | (refine M0 ?_; first | refine SL ?_ | refine SB fun _ _ => ?_) | (refine M1 ?_; first | refine SC ?_ | refine SD ?_) | (refine M2 ?_; refine SE ?_) | (refine M3 ?_; first | refine SG ?_ | refine SF ?_) | (refine M4 ?_; refine SR ?_) | (refine M5 ?_; first | exact M7 | refine YM ?_ | refine YN ?_ ?_))
  refine XE.retg tok Try.results49 rfl (by simp only [and_self, and_true]) (fun w' S => ?_)
  exact ⟨rfl, S.toBelowG (own1 hg ZZO1)⟩
theorem plan_any {i : Int} (hg : w.heap[g]? = some (gamO v t gm)) (ho : CtOk t) (hi : 0 ≤ i ∧ i ≤ 1000) :
    Calls Try.prog 50 #[.pointer (some ⟨g, 0, none⟩), .int .i64 i] w fun e w' => e = .returned (.agg ⟨[.int .i64 (t.plan i).close, .int .i64 (t.plan i).open_]⟩) ∧ Below w.heap.size w w' := by
  have h1 := ho.n60
  have h2 := ho.dly
  have h3 := ho.frm
  have h4 : t.q ≤ t.n := (qTo_spec t t.n).1
  have S0 := Sys.start1 (B := 0) (Nat.zero_le g) hg
  simp only [gamO, gamC] at S0
  refine enterL Try.func50 rfl Try.ntmps50 rfl (S0) ?_; simp only [frame, Nat.zero_add, Nat.reduceAdd]
  refine XC.hint 0 0 ?_
  repeat (first | (refine M0 ?_; first | refine SL ?_ | refine SB fun _ _ => ?_) | (refine M1 ?_; first | refine SC ?_ | refine SD ?_) | (refine M2 ?_; refine SE ?_) | (refine M3 ?_; first | refine SG ?_ | refine SF ?_) | (refine M4 ?_; refine SR ?_) | (refine M5 ?_; first | exact M7 | refine YM ?_ | refine YN ?_ ?_))
  refine XE.retg tok Try.results50 rfl (by simp only [and_self, and_true]) (fun w' S => ?_)
  exact ⟨rfl, S.toBelowG (own1 hg ZZO1)⟩
def plnV (p : CPl) : Value := .agg ⟨[.int .i64 p.close, .int .i64 p.open_]⟩
theorem plan_n {p : CPl} : decide (p ≠ nev) = (!(decide (p.close = -1) && decide (p.open_ = -1))) := by
  obtain ⟨c, o⟩ := p
  by_cases h1 : c = -1 <;> by_cases h2 : o = -1 <;> simp [nev, h1, h2]
set_option maxHeartbeats 4000000 in
theorem stranger_any {p : CPl} (hg : w.heap[g]? = some (gamO v t gm)) (ho : CtOk t) :
    Calls Try.prog 61 #[.pointer (some ⟨g, 0, none⟩), plnV p] w fun e w' => e = .returned (.bool (t.strange p)) ∧ Below w.heap.size w w' := by
  have h1 := ho.n60
  have h2 := ho.dly
  have h3 := ho.frm
  obtain ⟨c, o⟩ := p
  have S0 := Sys.start1 (B := 0) (Nat.zero_le g) hg
  have hla := fun {L : Lo} (w5 : World) (S5 : Sys 0 w L w5) (hm : (g, gamO v t gm) ∈ L) => last_any (v := v) (t := t) (gm := gm) (S5.own _ hm).2 ho
  have hl1 : -31 ≤ t.last ∧ t.last ≤ 60 := by unfold CTk.last; omega
  simp only [gamO, gamC] at S0
  simp only [plnV]
  unfold CTk.strange
  rw [plan_n]
  refine enterL Try.func61 rfl Try.ntmps61 rfl (S0) ?_; simp only [frame, Nat.zero_add, Nat.reduceAdd]
  refine XC.hint 0 0 ?_
  repeat (first | (refine M0 ?_; first | refine SL ?_ | refine SB fun _ _ => ?_ | refine Y4 (Ev.call (f := 55) (ck rfl) rfl (fun w S => nev_any w)) ?_ | refine Y4 (Ev.plnNeq rfl rfl) ?_) | (refine M1 ?_; first | refine SC ?_ | refine SD ?_) | (refine M2 ?_; refine SE ?_) | (refine M3 ?_; first | refine SG ?_ | refine SF ?_ | refine YF (Ev.call (f := 55) (ck rfl) rfl (fun w S => nev_any w)) ?_ | refine YF (Ev.plnNeq rfl rfl) ?_) | (refine M4 ?_; refine SR ?_) | (refine M5 ?_; first | exact M7 | refine YM ?_ | refine YN ?_ ?_))
  cases hb : !(decide (c = -1) && decide (o = -1))
  · repeat (first | (refine M0 ?_; first | refine SL ?_ | refine SB fun _ _ => ?_) | (refine M1 ?_; first | refine SC ?_ | refine SD ?_) | (refine M2 ?_; refine SE ?_) | (refine M3 ?_; first | refine SG ?_ | refine SF ?_) | (refine M4 ?_; refine SR ?_) | (refine M5 ?_; first | exact M7 | refine YM ?_ | refine YN ?_ ?_))
    refine XE.retg tok Try.results61 rfl (by simp only [and_self, and_true]) (fun w' S => ?_)
    exact ⟨rfl, S.toBelowG (own1 hg ZZO1)⟩
  repeat (first | (refine M0 ?_; first | refine SL ?_ | refine SB fun _ _ => ?_ | refine Y4 (Ev.call (f := 37) (ck rfl) rfl (fun w S => cout_any _ _ _ w)) ?_ | refine Y4 (Ev.call (f := 49) (ck rfl) rfl (fun w5 S5 => hla w5 S5 (.tail _ (.head _)))) ?_) | (refine M1 ?_; first | refine SC ?_ | refine SD ?_) | (refine M2 ?_; refine SE ?_) | (refine M3 ?_; first | refine SG ?_ | refine SF ?_ | refine YF (Ev.call (f := 37) (ck rfl) rfl (fun w S => cout_any _ _ _ w)) ?_ | refine YF (Ev.call (f := 49) (ck rfl) rfl (fun w5 S5 => hla w5 S5 (.tail _ (.head _)))) ?_) | (refine M4 ?_; refine SR ?_) | (refine M5 ?_; first | exact M7 | refine YM ?_ | refine YN ?_ ?_))
  cases hb2 : outB c t.from_ (t.from_ + t.last)
  rotate_left
  · repeat (first | (refine M0 ?_; first | refine SL ?_ | refine SB fun _ _ => ?_) | (refine M1 ?_; first | refine SC ?_ | refine SD ?_) | (refine M2 ?_; refine SE ?_) | (refine M3 ?_; first | refine SG ?_ | refine SF ?_) | (refine M4 ?_; refine SR ?_) | (refine M5 ?_; first | exact M7 | refine YM ?_ | refine YN ?_ ?_))
    refine XE.retg tok Try.results61 rfl (by simp only [and_self, and_true]) (fun w' S => ?_)
    exact ⟨rfl, S.toBelowG (own1 hg ZZO1)⟩
  have hc := outB_f.1 hb2
  repeat (first | (refine M0 ?_; first | refine SL ?_ | refine SB fun _ _ => ?_ | refine Y4 (Ev.call (f := 37) (ck rfl) rfl (fun w S => cout_any _ _ _ w)) ?_) | (refine M1 ?_; first | refine SC ?_ | refine SD ?_) | (refine M2 ?_; refine SE ?_) | (refine M3 ?_; first | refine SG ?_ | refine SF ?_ | refine YF (Ev.call (f := 37) (ck rfl) rfl (fun w S => cout_any _ _ _ w)) ?_) | (refine M4 ?_; refine SR ?_) | (refine M5 ?_; first | exact M7 | refine YM ?_ | refine YN ?_ ?_))
  refine XE.retg tok Try.results61 rfl (by simp only [and_self, and_true]) (fun w' S => ?_)
  exact ⟨rfl, S.toBelowG (own1 hg ZZO1)⟩
end
end Go.Proofs.Ytmpaiphakjogjaa.X
/-
  The walk of run: the volumes behind the tick at which the gates shut (closure).
-/
namespace Go.Proofs.Ytmpaiphakjogjaa.X
open Go Go.RowKit Go.Proofs.Ytmpaiphakjogjaa.Bs
set_option linter.unusedVariables false
def StepCV5 (b : Bas) (s : Sta) (t : Tick) (v : Value) (new : List Held) : Prop := ∃ q r : SV, v = .tuple ⟨[staV q (outS b s t), floV r (outF b s t), .int .i64 (stepE b s t)]⟩ ∧ new = [hInts q (outS b s t).fil, hInts r (outF b s t).taken]
theorem Step_made5 {p : BV} {b : Bas} {q : SV} {s : Sta} {t : Tick} {w : World} (hb : BasAt w w.heap.size p b) (hq : IntsAt w (Lt w.heap.size) q s.fil) (hc : chkE b = 0) (hs : StaOk b s) :
    Calls Try.prog 99 #[basV p b, staV q s, tickV t] w (Made w (StepCV5 b s t)) :=
  (Step_any (t := t) hb hq).mono fun e w' ⟨v, h1, ⟨q2, r2, h2, h3, h4, h5⟩⟩ => by
    obtain ⟨f1, f2, f3⟩ := full_0 (t := t) (staErr_ok hc hs)
    rw [f1, f2, f3] at h2
    rw [f2] at h3
    rw [f3] at h4
    exact ⟨v, _, h1, ⟨q2, r2, h2, rfl⟩, fun x hx => by
      rcases List.mem_cons.1 hx with rfl | hx
      · exact h3
      · rw [List.mem_singleton.1 hx]; exact h4, h5⟩
def RunR5 (t : CTk) (k s : Nat) (x : Value) (new : List Held) : Prop := ∃ q : SV, x = svV q ∧ new = [hInts q (t.vols k s (t.n - s))]
theorem RunE.later {t : CTk} {w w' : World} {b0 g gm : Nat} {ks : List Nat} {e : Value × Value} (hg : g ∈ gm :: ks) (hO : ∀ j, b0 ≤ j → j < w.heap.size → j ∉ [gm, g] → w'.heap[j]? = w.heap[j]?) (hsz : w.heap.size ≤ w'.heap.size) (h : RunE t w (Free w b0 (gm :: ks) []) e) : RunE t w' (Free w' b0 (gm :: ks) []) e := by
  obtain ⟨k, s, q, e1, e2, e3, e4, e5⟩ := h
  refine ⟨k, s, q, e1, e2, e3, e4, (e5.keep fun j hj => hO j hj.1 hj.2.1 fun hm => hj.2.2.1 ?_).mono fun j hj => ⟨hj.1, Nat.lt_of_lt_of_le hj.2.1 hsz, hj.2.2⟩⟩
  simp only [List.mem_cons, List.not_mem_nil, or_false] at hm
  rcases hm with rfl | rfl
  · exact .head _
  · exact hg
theorem GamR.of {t : CTk} {w w' : World} {b0 g gm k s : Nat} {ks : List Nat} {kvs kvs' : List (Value × Value)} {q : SV} (hg : g ∈ gm :: ks) (hB : Below b0 w w') (hO : (hOld2 b0 w [gm, g]).p w' fun _ => True) (hgg : w'.heap[g]? = w.heap[g]?)
    (hgm : w'.heap[gm]? = some (mapO kvs')) (hk : KeysOk Try.prog 156 kvs') (h3 : ∀ e, e ∈ kvs → RunE t w (Free w b0 (gm :: ks) []) e) (hE : ∀ e, e ∈ kvs' → e ∈ kvs ∨ RunE t w' (Free w' b0 (gm :: ks) []) e)
    (hq : IntsAt w' (Free w' b0 (gm :: ks) []) q (t.vols k s (t.n - s))) : GamR t b0 gm ks (RunR5 t k s) w (.returned (svV q)) w' := by
  refine ⟨_, _, rfl, ⟨q, rfl, rfl⟩, Since.of hB hO hgg, ⟨kvs', hgm, hk, fun e he => ?_⟩, fun y hy => by rw [List.mem_singleton.1 hy]; exact hq⟩
  rcases hE e he with h | h
  · exact (h3 e h).later hg (fun j h1 h2 h3 => (hO j h1 h2 h3).2) hB.size
  · exact h
theorem below_cell5 {B : Nat} {w w' : World} (h : Below B w w') {ad : Addr} (hb : ad.block < B) : w'.cell? ad = w.cell? ad := by unfold World.cell?; rw [h.block _ hb]
set_option maxHeartbeats 16000000 in
theorem crun_any {t : CTk} {v : CTV} {b0 g gm k s : Nat} {ks : List Nat} {w : World} (hG : Gam t v b0 g gm ks [] [] w) (ho : CtOk t) (hk : k < t.m) (hs : s < t.n) :
    Calls Try.prog 93 #[.pointer (some ⟨g, 0, none⟩), keyV k s] w (GamR t b0 gm ks (RunR5 t k s) w) := by
  obtain ⟨kvs, hm1, hm2, hm3⟩ := hG.memo
  have hne := hG.ne
  have hb0 := hG.fam.base
  have hgl := hG.lt g (List.mem_cons_of_mem _ hG.gin)
  have hml := hG.lt gm (.head _)
  have hggk : g ∈ gm :: ks := List.mem_cons_of_mem _ hG.gin
  have hmmk : gm ∈ gm :: ks := .head _
  have hT := hG.task
  have hkn : t.n ≤ 60 := ho.n60
  have hkey : ∃ l, keyOf Try.prog 156 (keyV k s) = some l := run_key (by have := ho.m8; omega) (by omega)
  have hgm : w.heap[g]? = some (gamO v t gm) := hG.game
  have S0 := Sys.start2 hG.bm hG.bg hm1 hgm (Ne.symm hne)
  obtain ⟨vp, vf, vh, vr⟩ := v
  simp only [gamO, gamC] at S0
  simp only [keyV, keyC]
  refine enterL Try.func93 rfl Try.ntmps93 rfl (S0) ?_; simp only [frame, Nat.zero_add, Nat.reduceAdd]
  refine XC.hint 0 0 ?_
  repeat (first | (refine M0 ?_; first | refine SL ?_ | refine SB fun _ _ => ?_) | (refine M1 ?_; refine SC ?_) | (refine M2 ?_; refine SE ?_))
  rename_i g3 hg3
  refine Or.elim (Classical.em (∃ vv, (keyV k s, vv) ∈ kvs)) (fun hfound => ?_) (fun hnone => ?_)
  · obtain ⟨vv, hv⟩ := hfound
    obtain ⟨k2, s2, q, e1, e2, _, _, hq⟩ := hm3 _ hv
    obtain ⟨rfl, rfl⟩ := keyV_inj e1
    simp only at e2
    subst e2
    simp only [svV] at hv
    repeat (first | (refine M0 ?_; first | refine SL ?_ | refine SB fun _ _ => ?_ | refine Y4 (Ev.lookupYes 1 (k := keyV k s) kvs run_law rfl rfl rfl Try.underlying105 hm2 hkey hv) ?_) | (refine M1 ?_; first | refine SC ?_ | refine SD ?_) | (refine M2 ?_; refine SE ?_) | (refine M3 ?_; first | refine SG ?_ | refine SF ?_ | refine YF (Ev.lookupYes 1 (k := keyV k s) kvs run_law rfl rfl rfl Try.underlying105 hm2 hkey hv) ?_) | (refine M4 ?_; refine SR ?_) | (refine M5 ?_; first | exact M7 | refine YM ?_ | refine YN ?_ ?_))
    refine XE.retg tok Try.results93 rfl (by simp only [and_self, and_true]) (fun w' S => ?_)
    have hF := (Fam.old2 (gs := [gm, g]) hb0).sys S ZZHL
    refine GamR.of hggk S.toBelow ((hOld2 b0 w [gm, g]).mono (hF.held _ (.head _)) fun _ _ => trivial) (((S.own (g, _) (.tail _ (.tail _ (.head _)))).2).trans hgm.symm) (S.own (gm, _) (.tail _ (.head _))).2 hm2 hm3 (fun e he => .inl he) ?_
    refine (hq.keep fun j hj => (hF.held _ (.head _) j hj.1 hj.2.1 fun hm => hj.2.2.1 ?_).2).mono fun j hj => ⟨hj.1, Nat.lt_of_lt_of_le hj.2.1 S.size, hj.2.2⟩
    simp only [List.mem_cons, List.not_mem_nil, or_false] at hm
    rcases hm with rfl | rfl
    · exact .head _
    · exact hggk
  have hnv : ∀ e, e ∈ kvs → e.1 ≠ keyV k s := fun e he h => hnone ⟨e.2, by rw [← h]; exact he⟩
  have hhn := hT.hn
  obtain ⟨ah, ⟨Ak, nk, ck1⟩, e1, hlth, hck, hqk⟩ := hT.hisAt hk
  have hlk := hqk.len
  simp only at hlk e1 hhn
  have hlen : (t.h k).vals.length = t.n := ho.len k hk
  rw [hlen] at hlk
  subst hlk
  obtain ⟨ak, rfl, hltk, hvk⟩ := hqk.at_ (by omega)
  have dh1 : w.cell? ((ah.add (k * 2)).add 1) = some (.slice (some ak) t.n ck1) := hck 1 _ rfl
  have dV : ∀ i, i < t.n → w.cell? (ak.add (i * 1)) = some (.int .i64 (t.v k i)) := fun i hi => hvk i (by rw [hlen]; exact hi)
  have hbas := hT.bas
  have hrows := hbas.n_eq
  obtain ⟨A1, n1, c1, A2, n2, c2⟩ := vp
  simp only at hrows hbas
  subst hrows
  have hr2 := ho.ok.n2
  obtain ⟨ab, rfl, hltb⟩ := hbas.rows.addr (by simp only; omega)
  have dlev : w.cell? ((ab.add (0 * 2)).add 0) = some (.int .i64 (t.b.row 0).level) := hbas.rowLevel (by omega)
  have hriv := hT.river
  have hrn := hriv.len
  obtain ⟨Ar, nr, cr⟩ := vr
  simp only at hrn hriv
  have hrl : t.river.length = t.n := ho.river
  rw [hrl] at hrn
  subst hrn
  obtain ⟨ar, rfl, hltr, hrv⟩ := hriv.at_ (by omega)
  have dR : ∀ i, i < t.n → w.cell? (ar.add (i * 1)) = some (.int .i64 (at0 t.river i)) := fun i hi => hrv i (by omega)
  obtain ⟨Ah, nh, ch⟩ := vh
  simp only at e1 hhn
  subst e1 hhn
  obtain ⟨Af, nf, cf⟩ := vf
  have hfil := hT.fil
  simp only at hfil
  have hvol := fun {L : Lo} {W : World} (w5 : World) (hBW : Below b0 w W) (S5 : Sys b0 W L w5) => Volume_any (p := ⟨some ab, t.b.rows.length, c1, A2, n2, c2⟩) (b := t.b) (l := max (t.v k s) (t.b.row 0).level) (w := w5) ((hbas.below (hBW.trans S5.toBelow)).more (Nat.le_trans S5.base S5.size))
  have hv0 : volN t.b (max (t.v k s) (t.b.row 0).level) = t.vol0 k s := (vol_0 ho.chk (outB_f.2 (by have := ho.val k s hk hs; have := ho.lim; omega))).2
  rw [hv0] at hvol
  simp only [basV, basC] at hvol
  simp only [svV]
  repeat (first | (refine M0 ?_; first | refine SL ?_ | refine SB fun _ _ => ?_ | refine Y4 (Ev.lookupNo tok 1 (k := keyV k s) kvs run_law rfl rfl rfl Try.underlying105 rfl hm2 hkey hnv) ?_ | refine Y4 (Ev.load_old tok rfl rfl (add_lt2 hlth) dh1) ?_ | refine Y4 (Ev.load_old tok rfl rfl (add_lt hltk) (dV s hs)) ?_ | refine Y4 (Ev.load_old tok rfl rfl (add_lt2 hltb) dlev) ?_ | refine Y4 (Ev.call (f := 98) (ck rfl) rfl (fun w5 S5 => hvol w5 (Below.refl _ _) S5)) ?_) | (refine M1 ?_; first | refine SC ?_ | refine SD ?_) | (refine M2 ?_; refine SE ?_) | (refine M3 ?_; first | refine SG ?_ | refine SF ?_ | refine YF (Ev.lookupNo tok 1 (k := keyV k s) kvs run_law rfl rfl rfl Try.underlying105 rfl hm2 hkey hnv) ?_ | refine YF (Ev.load_old tok rfl rfl (add_lt2 hlth) dh1) ?_ | refine YF (Ev.load_old tok rfl rfl (add_lt hltk) (dV s hs)) ?_ | refine YF (Ev.load_old tok rfl rfl (add_lt2 hltb) dlev) ?_ | refine YF (Ev.call (f := 98) (ck rfl) rfl (fun w5 S5 => hvol w5 (Below.refl _ _) S5)) ?_) | (refine M4 ?_; refine SR ?_) | (refine M5 ?_; first | exact M7 | refine YM ?_ | refine YN ?_ ?_))
  have hF0 := Fam.old2 (w := w) (gs := [gm, g]) hb0
  have hk0 : ∀ x, x ∈ [gm, g] → x < w.heap.size := fun x hx => by
    simp only [List.mem_cons, List.not_mem_nil, or_false] at hx
    rcases hx with rfl | rfl <;> assumption
  refine XL.newRow tok (K := intK5) (l := [t.vol0 k s]) (rs := []) (hs := [hOld2 b0 w [gm, g]]) (wE := w) rfl rfl rfl rfl rfl rfl rfl rfl rfl ⟨rfl, rfl⟩ rfl rfl hF0 hk0 (Below.refl _ _) hb0 (fun a _ x hx => by cases hx) (fun w1 gr hF1 hB1 hk1 => ?_) ZZHL
  repeat (first | (refine M0 ?_; first | refine SL ?_ | refine SB fun _ _ => ?_) | (refine M2 ?_; refine SE ?_) | (refine M3 ?_; first | refine SG ?_ | refine SF ?_) | (refine M4 ?_; refine SR ?_) | (refine M5 ?_; first | exact M7 | refine YM ?_ | refine YN ?_ ?_))
  rename_i g10 hg10
  refine XC.seq (XC.seq (XC.region ?_))
  repeat (first | (refine M0 ?_; first | refine SL ?_ | refine SB fun _ _ => ?_) | (refine M2 ?_; refine SE ?_) | (refine M3 ?_; first | refine SG ?_ | refine SF ?_) | (refine M4 ?_; refine SR ?_) | (refine M5 ?_; first | exact M7 | refine YM ?_ | refine YN ?_ ?_))
  refine XC.cutn [0, 3] rfl (fun z : World × SV => [(11, svV z.2)]) (fun z => [(g3, cel 156 (keyC k s)), (gm, mapO kvs), (g, cel 107 (gamC ⟨⟨some ab, t.b.rows.length, c1, A2, n2, c2⟩, ⟨Af, nf, cf⟩, ⟨some ah, t.m, ch⟩, ⟨some ar, t.n, cr⟩⟩ t gm))]) (fun z => z.1) (fun z => Below b0 w z.1 ∧ Fam z.1 b0 [g3, gm, g] [⟨Int, intK5, svV z.2, t.vols k s (t.n - s)⟩] [hOld2 b0 w [gm, g]] ∧ ∀ x, x ∈ [g3, gm, g] → x < z.1.heap.size) ?_ ?_
  · repeat (first | (refine M0 ?_; first | refine SL ?_ | refine SB fun _ _ => ?_) | (refine M1 ?_; refine SC ?_) | (refine M2 ?_; refine SE ?_))
    refine XC.rebase (List.Sublist.refl _) (fun W0 S0' => ?_)
    have hF2 : Fam W0 b0 [g10, g3, gm, g] [⟨Int, intK5, svV ⟨some ⟨gr, 0, none⟩, 1, 1⟩, t.vols k s (s - s + 1)⟩] [hOld2 b0 w [gm, g], hIntsO w b0 ⟨Af, nf, cf⟩ t.fil] := by
      have e1 : t.vols k s (s - s + 1) = [t.vol0 k s] := by rw [Nat.sub_self]; simp [CTk.vols, CTk.rs, List.range_succ]
      rw [e1]
      have h1 := (hF1.add (ks' := [g10, g3, gm, g]) (fun x hx => by
        rcases List.mem_cons.1 hx with rfl | hx
        · exact .inr hg10
        · left
          simp only [List.mem_cons, List.not_mem_nil, or_false] at hx
          simp only [List.map_cons, List.map_nil, List.mem_append, List.mem_cons, List.not_mem_nil, or_false]
          omega)).hold (x := hIntsO w b0 ⟨Af, nf, cf⟩ t.fil) (ok := fun _ => False) (.inl hfil) (fun j hj => hj.elim)
      exact Fam.forget (h1.sys S0' ZZHL) (fun x hx => by simp only [List.mem_cons, List.not_mem_nil, or_false] at hx ⊢; rcases hx with rfl | rfl <;> simp)
    refine XC.loopk [0, 3, 7, 10] rfl (fun z : Nat × World × SV × Sta × SV => [(11, svV z.2.2.1), (12, .int .i64 (z.1 : Nat))]) (fun z => [(g10, cel 162 (staC z.2.2.2.2 z.2.2.2.1)), (g3, cel 156 (keyC k s)), (gm, mapO kvs), (g, cel 107 (gamC ⟨⟨some ab, t.b.rows.length, c1, A2, n2, c2⟩, ⟨Af, nf, cf⟩, ⟨some ah, t.m, ch⟩, ⟨some ar, t.n, cr⟩⟩ t gm))]) (fun z => z.2.1)
      (fun z => s ≤ z.1 ∧ z.1 < t.n ∧ t.rs k s (z.1 - s) = some z.2.2.2.1 ∧ Below b0 w z.2.1 ∧ Fam z.2.1 b0 [g10, g3, gm, g] [⟨Int, intK5, svV z.2.2.1, t.vols k s (z.1 - s + 1)⟩] [hOld2 b0 w [gm, g], hIntsO w b0 z.2.2.2.2 z.2.2.2.1.fil] ∧ ∀ x, x ∈ [g10, g3, gm, g] → x < z.2.1.heap.size)
      (fun z => t.n - z.1) (s, W0, ⟨some ⟨gr, 0, none⟩, 1, 1⟩, ⟨t.vol0 k s, t.fil⟩, ⟨Af, nf, cf⟩) ⟨Nat.le_refl _, hs, by rw [Nat.sub_self]; rfl, hB1.trans S0'.toBelow, hF2, fun x hx => S0'.keyLt x hx⟩ ZZSUB (fun _ h => h) ?_
    rintro ⟨i, W, ⟨rA, rn, rc⟩, st, ⟨qA, qn, qc⟩⟩ ⟨h1, h2, h3, h4, h5, h6⟩
    simp only at h1 h2 h3 h4 h5 h6
    simp only [svV, staC, keyC, gamC]
    dsimp only [List.cons_append, List.nil_append]
    repeat (first | (refine M0 ?_; first | refine SL ?_ | refine SB fun _ _ => ?_) | (refine M1 ?_; refine SC ?_) | (refine M2 ?_; refine SE ?_))
    have hcell {j : Nat} (hj : j < t.n) := (below_cell5 h4 (ad := ak.add (j * 1)) (add_lt hltk)).trans (dV j hj)
    have hcellR {j : Nat} (hj : j < t.n) := (below_cell5 h4 (ad := ar.add (j * 1)) (add_lt hltr)).trans (dR j hj)
    refine XC.cond _ rfl (fun h7 => ?_) (fun h7 => ?_)
    rotate_left
    · have h8 : i + 1 = t.n := by have := of_decide_eq_false h7; omega
      repeat (first | (refine M0 ?_; first | refine SL ?_ | refine SB fun _ _ => ?_) | (refine M1 ?_; refine SC ?_) | (refine M2 ?_; refine SE ?_))
      refine XE.leafW (fun w9 S9 => ⟨(w9, ⟨rA, rn, rc⟩), ⟨h4.trans S9.toBelow, ?_, fun x hx => S9.keyLt x (List.mem_cons_of_mem _ hx)⟩, ZZSUB, S9.rebase ZZSM⟩)
      rw [show t.n - s = i - s + 1 by omega]
      exact Fam.forget ((h5.sys S9 ZZHL).add (fun x hx => .inl (List.mem_cons_of_mem _ hx))) (fun x hx => by rw [List.mem_singleton.1 hx]; exact .head _)
    have h8 : i + 1 < t.n := by have := of_decide_eq_true h7; omega
    have hst := rs_ok ho hk hs h3
    have hstep := fun (w5 : World) (hB : Below b0 w w5) (hw : b0 ≤ w5.heap.size) (hq : IntsAt w5 (Lt w5.heap.size) ⟨qA, qn, qc⟩ st.fil) => Step_made5 (t := t.tick k i) (p := ⟨some ab, t.b.rows.length, c1, A2, n2, c2⟩) (w := w5) ((hbas.below hB).more hw) hq ho.chk hst
    simp only [basV, basC, staV, staC, tickV, tickC, CTk.tick] at hstep
    repeat (first | (refine M0 ?_; first | refine SL ?_ | refine SB fun _ _ => ?_) | (refine M1 ?_; refine SC ?_) | (refine M2 ?_; refine SE ?_))
    refine XC.cutn [0, 3, 7, 10, 11, 12] rfl (fun z : World × Nat × SV => [(13, .pointer (some ⟨z.2.1, 0, none⟩)), (15, .int .i64 (stepE t.b st (t.tick k i)))]) (fun z => [(z.2.1, cel 162 (staC z.2.2 (outS t.b st (t.tick k i)))), (g10, cel 162 (staC ⟨qA, qn, qc⟩ st)), (g3, cel 156 (keyC k s)), (gm, mapO kvs), (g, cel 107 (gamC ⟨⟨some ab, t.b.rows.length, c1, A2, n2, c2⟩, ⟨Af, nf, cf⟩, ⟨some ah, t.m, ch⟩, ⟨some ar, t.n, cr⟩⟩ t gm))]) (fun z => z.1)
      (fun z => Below b0 w z.1 ∧ Fam z.1 b0 [z.2.1, g10, g3, gm, g] [⟨Int, intK5, svV ⟨rA, rn, rc⟩, t.vols k s (i - s + 1)⟩] [hInts z.2.2 (outS t.b st (t.tick k i)).fil, hOld2 b0 w [gm, g]] ∧ ∀ x, x ∈ [z.2.1, g10, g3, gm, g] → x < z.1.heap.size) ?_ ?_
    · refine XC.drawR _ [0, 1, 2, 3, 4, 5, 6, 7, 8, 9, 10, 11, 12, 13, 14, 15, 16, 17, 18, 19, 20, 21, 22, 23] [24, 25, 26, 27, 28, 29, 30, 31, 32, 33] mixed (fun _ h => h) rfl (by kernel_rfl) ?_
      repeat (any_goals (first | (refine M0 ?_; first | refine SL ?_ | refine SB fun _ _ => ?_ | refine Y4 (Ev.load_old tok rfl rfl (add_lt hltk) (hcell h2)) ?_ | refine Y4 (Ev.load_old tok rfl rfl (add_lt hltr) (hcellR h2)) ?_ | (refine XL.at_call 99 ?_; refine XL.callFW (wE := w) (StepCV5 t.b st (t.tick k i)) (ck rfl) rfl rfl h5 h6 h4 (fun w5 S5 hF5 hB5 => hstep w5 hB5 (Nat.le_trans S5.base S5.size) (hIntsO.at_ (hF5.held (hIntsO w b0 ⟨qA, qn, qc⟩ st.fil) (.tail _ (.head _))) hB5 (Nat.le_trans S5.base S5.size) (fun j hj => hj.2.1))) (fun w2 x new hR hF2 hB2 hk2 S2 => ?_); obtain ⟨q2, r2, rfl, rfl⟩ := hR; simp only [staV, staC, floV, floC]; have hz2 := S2.size; try have S3 := S2.pop (by assumption); try have S4 := S3.pop (by assumption))) | (refine M1 ?_; refine SC ?_) | (refine M2 ?_; first | refine SE ?_ | refine z5 ?_ | refine z6 ?_) | (refine M3 ?_; first | refine SG ?_ | refine SF ?_ | refine YF (Ev.load_old tok rfl rfl (add_lt hltk) (hcell h2)) ?_ | refine YF (Ev.load_old tok rfl rfl (add_lt hltr) (hcellR h2)) ?_) | (refine M4 ?_; refine SR ?_) | (refine M5 ?_; first | exact M7 | refine YM ?_ | refine YN ?_ ?_)))
      any_goals (repeat (first | exact AnyR.nil | refine AnyR.skip rfl ?_))
      all_goals
        refine XE.leafW (fun w9 S9 => ?_)
        apply Exists.intro (w9, _, q2)
        refine ⟨?pre, ?sub, ?sys⟩
        case sub => repeat (first | exact Sub.nil | refine Sub.cons rfl ?_)
        case sys => exact S9.rebase ZZSM
        case pre => exact ⟨Below.trans (by assumption) S9.toBelow, Fam.forget (Fam.add (Fam.atEnd (by assumption) S9 ZZHL) (fun k hk => by left; simp only [List.mem_cons, List.not_mem_nil, or_false] at hk; simp only [List.map_cons, List.map_nil, List.mem_append, List.mem_cons, List.not_mem_nil, or_false]; omega)) (fun x hx => by simp only [List.mem_cons, List.not_mem_nil, or_false] at hx; rcases hx with rfl | rfl <;> simp), fun k hk => S9.keyLt k (by simp only [List.map_cons, List.map_nil, List.mem_cons, List.not_mem_nil, or_false] at hk ⊢; omega)⟩
    rintro ⟨W2, g13, ⟨q2A, q2n, q2c⟩⟩ ⟨hB2, hF2, hk2⟩
    simp only at hB2 hF2 hk2
    simp only [svV, staC, keyC, gamC]
    dsimp only [List.cons_append, List.nil_append]
    refine XC.hint 13 4 (XC.hint 10 3 (XC.hint 3 2 (XC.hint 0 0 ?_)))
    have hne1 : i - s + 1 = i + 1 - s := by omega
    have hrs1 : t.rs k s (i + 1 - s) = if stepE t.b st (t.tick k i) = 0 then some (outS t.b st (t.tick k i)) else none := by
      rw [← hne1]
      simp only [CTk.rs, h3]
      rw [show s + (i - s) = i by omega]
    obtain ⟨E, hE⟩ : ∃ E, E = stepE t.b st (t.tick k i) := ⟨_, rfl⟩
    rw [← hE]
    by_cases hE0 : E = 0
    rotate_left
    · repeat (first | (refine M0 ?_; first | refine SL ?_ | refine SB fun _ _ => ?_) | (refine M1 ?_; refine SC ?_) | (refine M2 ?_; refine SE ?_))
      rw [show decide (E ≠ 0) = true from decide_eq_true hE0]
      repeat (first | (refine M0 ?_; first | refine SL ?_ | refine SB fun _ _ => ?_) | (refine M1 ?_; refine SC ?_) | (refine M2 ?_; refine SE ?_))
      refine XE.leafW (fun w9 S9 => ⟨(w9, ⟨rA, rn, rc⟩), ⟨hB2.trans S9.toBelow, ?_, fun x hx => S9.keyLt x (List.mem_cons_of_mem _ (List.mem_cons_of_mem _ hx))⟩, ZZSUB, S9.rebase ZZSM⟩)
      rw [if_neg (by rw [← hE]; exact hE0), ← hne1] at hrs1
      rw [vols_stop hrs1 (by omega)]
      exact Fam.forget ((hF2.sys S9 ZZHL).add (fun x hx => .inl (List.mem_cons_of_mem _ (List.mem_cons_of_mem _ hx)))) (fun x hx => by rw [List.mem_singleton.1 hx]; exact .tail _ (.head _))
    have hE1 : stepE t.b st (t.tick k i) = 0 := by rw [← hE]; exact hE0
    rw [if_pos hE1] at hrs1
    obtain ⟨so, hso⟩ : ∃ so, so = outS t.b st (t.tick k i) := ⟨_, rfl⟩
    rw [← hso] at hF2 hrs1 ⊢
    have hlr : (t.vols k s (i - s + 1)).length ≤ 100 := by have := @vols_le t k s (i - s + 1); omega
    have hvs : t.vols k s (i - s + 1) ++ [so.vol] = t.vols k s (i + 1 - s + 1) := by
      rw [vols_succ t k s (i + 1 - s), hrs1, hne1]; rfl
    obtain ⟨lv, hlv⟩ : ∃ lv, lv = t.vols k s (i - s + 1) := ⟨_, rfl⟩
    rw [← hlv] at hF2 hlr hvs
    obtain ⟨sv, hsv⟩ : ∃ sv, sv = so.vol := ⟨_, rfl⟩
    rw [← hsv] at hvs ⊢
    repeat (first | (refine M0 ?_; first | refine SL ?_ | refine SB fun _ _ => ?_) | (refine M1 ?_; refine SC ?_) | (refine M2 ?_; refine SE ?_))
    rw [show decide (E ≠ 0) = false from decide_eq_false (fun h => h hE0)]
    repeat (first | (refine M0 ?_; first | refine SL ?_ | refine SB fun _ _ => ?_) | (refine M1 ?_; refine SC ?_) | (refine M2 ?_; refine SE ?_))
    refine XC.drawRS (trunc w b0) [(g13, cel 162 [.int .i64 sv, .slice q2A q2n q2c])] [0, 1, 2, 3] [4, 5, 6, 7] mixed (fun _ h => Sys.anchorT hB2 h (fun e he => by rw [List.mem_singleton.1 he]; exact .head _) (by simp) hb0) rfl (by kernel_rfl) ?_
    repeat (any_goals (first | (refine M0 ?_; first | refine SL ?_ | refine SB fun _ _ => ?_ | refine XL.buildSlice tok rfl rfl rfl rfl rfl rfl rfl rfl rfl (fun _ _ => ?_)) | (refine M1 ?_; refine SC ?_) | (refine M2 ?_; first | refine SE ?_ | refine z5 ?_ | refine z7 ?_) | (refine M3 ?_; first | refine SG ?_ | refine SF ?_) | (refine M4 ?_; refine SR ?_) | (refine M5 ?_; first | exact M7 | refine YM ?_ | refine YN ?_ ?_)))
    · refine XL.push (K := intK5) (a := sv) (wE := w) 0 int5_el (by decide) rfl rfl rfl hF2 rfl hk2 hB2 (Nat.le_refl _) rfl (by omega) (by decide) (fun x hx => by cases hx) (fun W3 u3 hF3 hB3 hk3 => ?_)
      obtain ⟨⟨r3A, r3n, r3c⟩, rfl, hr3⟩ := Fam.sv (K := intK5) (l := lv ++ [sv]) (v := u3) hF3 (List.mem_singleton.2 rfl)
      simp only [svV]
      refine XL.done ?_
      refine z7 ?_
      repeat (first | (refine M0 ?_; refine SL ?_) | (refine M2 ?_; first | refine SE ?_ | refine z7 ?_) | (refine M3 ?_; first | refine SG ?_ | refine SF ?_) | (refine M4 ?_; refine SR ?_) | (refine M5 ?_; first | exact M7 | refine YM ?_ | refine YN ?_ ?_))
      · repeat (first | (refine M0 ?_; first | refine SL ?_ | refine SB fun _ _ => ?_) | (refine M1 ?_; refine SC ?_) | (refine M2 ?_; refine SE ?_))
        have hF4 := hF3
        simp only [List.set_cons_zero] at hF4
        refine XE.roundW (s := (i, W, ⟨rA, rn, rc⟩, st, ⟨qA, qn, qc⟩)) (fun w9 S9 => ⟨(i + 1, w9, ⟨r3A, r3n, r3c⟩, so, ⟨q2A, q2n, q2c⟩), ⟨by simp only; omega, h8, hrs1, hB3.trans S9.toBelow, ?_, fun x hx => S9.keyLt x (by simp only [List.mem_cons, List.not_mem_nil, or_false] at hx; simp only [List.map_cons, List.map_nil, List.mem_cons, List.not_mem_nil, or_false]; omega)⟩, by simp only; omega, ZZSUB, by rw [hsv] at S9; exact S9.rebase ZZSM⟩)
        rw [hvs] at hF4
        have h9 := hF4.sys S9 ZZHL
        have h10 := (h9.hold (x := hIntsO w b0 ⟨q2A, q2n, q2c⟩ so.fil) (ok := Free w9 b0 _ _) (.inr (h9.held (hInts ⟨q2A, q2n, q2c⟩ so.fil) (.head _))) (fun j hj => hj)).add (ks' := [g10, g3, gm, g]) (fun x hx => by left; simp only [List.mem_cons, List.not_mem_nil, or_false] at hx; simp only [List.map_cons, List.map_nil, List.mem_append, List.mem_cons, List.not_mem_nil, or_false]; omega)
        exact Fam.forget h10 (fun x hx => by simp only [List.mem_cons, List.not_mem_nil, or_false] at hx; rcases hx with rfl | rfl <;> simp)
      · any_goals (repeat (first | exact AnyR.nil | refine AnyR.skip rfl ?_))
  rintro ⟨W, ⟨rA, rn, rc⟩⟩ ⟨hB, hF, hkl⟩
  simp only at hB hF hkl
  simp only [svV, keyC, gamC]
  dsimp only [List.cons_append, List.nil_append]
  refine XC.hint 3 2 (XC.hint 0 0 ?_)
  refine XC.seq ?_
  refine XC.drawT mixed rfl rfl (by kernel_rfl) ?_
  repeat (first | (refine M0 ?_; first | refine SL ?_ | refine SB fun _ _ => ?_) | (refine M2 ?_; refine SE ?_) | (refine M3 ?_; first | refine SG ?_ | refine SF ?_) | (refine M4 ?_; refine SR ?_) | (refine M5 ?_; first | exact M7 | refine YM ?_ | refine YN ?_ ?_))
  refine XL.updateK 1 (k := keyV k s) (v := svV ⟨rA, rn, rc⟩) kvs run_law rfl rfl rfl rfl Try.underlying105 hm2 hkey hnv rfl ?_
  repeat (first | (refine M0 ?_; first | refine SL ?_ | refine SB fun _ _ => ?_) | (refine M1 ?_; refine SC ?_) | (refine M2 ?_; refine SE ?_))
  refine XE.retg tok Try.results93 rfl (by simp only [and_self, and_true]) (fun w' S => ?_)
  have hF9 := hF.sys S ZZHL
  have hfr := fun kk hkk => Fam.fresh2 hF9 (gs := [gm, g]) (.head _) (fun x hx => List.mem_cons_of_mem _ hx) (r := ⟨Int, intK5, svV ⟨rA, rn, rc⟩, t.vols k s (t.n - s)⟩) (.head _) (k := kk) hkk
  have hrow := owns_raise (hF9.row _ (.head _)) hfr
  simp only [ints_flat5] at hrow
  have hq : IntsAt w' (Free w' b0 (gm :: ks) []) ⟨rA, rn, rc⟩ (t.vols k s (t.n - s)) := (IntsAt.own hrow).mono fun j hj => ⟨Nat.le_trans hb0 hj.1, hj.2, fun hm => by have := hG.lt j hm; have := hj.1; omega, fun r hr => by cases hr⟩
  refine GamR.of hggk (hB.trans S.toBelow) ((hOld2 b0 w [gm, g]).mono (hF9.held _ (.head _)) fun _ _ => trivial) (((S.own (g, _) (.tail _ (.tail _ (.head _)))).2).trans hgm.symm) (S.own (gm, _) (.tail _ (.head _))).2 (hm2.push hkey hnv) hm3 (fun e he => ?_) hq
  rcases List.mem_append.1 he with h | h
  · exact .inl h
  · rw [List.mem_singleton.1 h]
    exact .inr ⟨k, s, ⟨rA, rn, rc⟩, rfl, rfl, hk, hs, hq⟩
end Go.Proofs.Ytmpaiphakjogjaa.X
/-
  The walks of inside, above and fails (closure).
-/
namespace Go.Proofs.Ytmpaiphakjogjaa.X
open Go Go.RowKit Go.Proofs.Ytmpaiphakjogjaa.Bs
set_option linter.unusedVariables false
theorem ZZO2 {p : Prop} (h : p := by (intro e he; repeat (first | (cases he; done) | (rcases List.mem_cons.1 he with rfl | he; · first | (left; assumption) | (right; simp only; omega)))) <;> fail) : p := h
section
variable {t : CTk} {v : CTV} {b0 g gm : Nat} {kk ks : List Nat} {hs : List Held} {w W w' : World} {L : Lo} {R : Value → List Held → Prop} {x : Value}
theorem Since.end_ (hG : Gam t v b0 g gm (kk ++ ks) [] hs W) (hm : gm < w.heap.size) (hS : Since w gm W) (S : Sys b0 W L w') (hg : (g, gamO v t gm) ∈ L) (hL : ∀ e, e ∈ L → e.1 ∈ [g] ∨ w.heap.size ≤ e.1) : Since w gm w' :=
  hS.sys S fun e he => by
    rcases hL e he with h1 | h1
    · rw [List.mem_singleton] at h1
      have h2 : e = (g, gamO v t gm) := by
        have a1 := (S.own e he).2
        have a2 := (S.own _ hg).2
        rw [h1] at a1
        simp only at a2
        rw [a1] at a2
        exact Prod.ext h1 (Option.some.inj a2)
      rw [h2]
      exact ⟨fun _ => hG.game, hG.ne⟩
    · exact ⟨fun h => by omega, fun h => by omega⟩
/-- at the end of a call that may have done runs. -/
theorem GamR.end_ (hG : Gam t v b0 g gm (kk ++ ks) [] hs W) (hm : gm < w.heap.size) (hS : Since w gm W) (S : Sys b0 W L w') (hg : (g, gamO v t gm) ∈ L) (hR : R x []) (hL : ∀ e, e ∈ L → e.1 ∈ kk ++ ks ∨ W.heap.size ≤ e.1) (hLE : ∀ e, e ∈ L → e.1 ∈ [g] ∨ w.heap.size ≤ e.1) : GamR t b0 gm ks R w (.returned x) w' := by
  have h1 := hG.sys S hg hL
  refine ⟨x, [], rfl, hR, Since.end_ hG hm hS S hg hLE, h1.memo.mono fun j hj => ⟨hj.1, hj.2.1, fun h => hj.2.2.1 ?_, hj.2.2.2⟩, fun y hy => by cases hy⟩
  rcases List.mem_cons.1 h with rfl | h
  · exact .head _
  · exact List.mem_cons_of_mem _ (List.mem_append_right _ h)
end
noncomputable def spn5 (t : CTk) (x : Option Lv) : Value := match x with
  | none => .tuple ⟨[.agg ⟨[.int .i64 0, .int .i64 0]⟩, .bool false]⟩
  | some x => .tuple ⟨[.agg ⟨[.int .i64 (t.lo x), .int .i64 (t.hi x)]⟩, .bool true]⟩
def InsR (t : CTk) (k : Nat) (p : CPl) (i : Nat) (x : Value) (new : List Held) : Prop := x = spn5 t (t.ins k p i) ∧ new = []
theorem nev_b {p : CPl} : decide (p = nev) = (decide (p.close = -1) && decide (p.open_ = -1)) := by
  obtain ⟨c, o⟩ := p
  by_cases h1 : c = -1 <;> by_cases h2 : o = -1 <;> simp [nev, h1, h2]
/-- a plan's numbers. -/
theorem plan_bd {t : CTk} (ho : CtOk t) {p : CPl} (hp : t.strange p = false) : (-1 ≤ p.close ∧ p.close ≤ 300000) ∧ (-1 ≤ p.open_ ∧ p.open_ ≤ 300000) ∧ (p ≠ nev → 0 ≤ t.shutI p) := by
  have h1 := ho.frm
  have h2 := ho.dly
  have h3 := ho.n60
  by_cases hn : p = nev
  · subst hn
    exact ⟨⟨by decide, by decide⟩, ⟨by decide, by decide⟩, fun h => absurd rfl h⟩
  · unfold CTk.strange at hp
    rw [decide_eq_true hn, Bool.true_and, Bool.or_eq_false_iff] at hp
    have a1 := outB_f.1 hp.1
    have a2 := outB_f.1 hp.2
    unfold CTk.last at a1
    exact ⟨by omega, by omega, fun _ => by unfold CTk.shutI; omega⟩
set_option maxHeartbeats 16000000 in
theorem inside_any {t : CTk} {v : CTV} {b0 g gm k i : Nat} {p : CPl} {ks : List Nat} {w : World} (hG : Gam t v b0 g gm ks [] [] w) (ho : CtOk t) (hk : k < t.m) (hi : i < t.n) (hp : t.strange p = false) :
    Calls Try.prog 72 #[.pointer (some ⟨g, 0, none⟩), .int .i64 (k : Nat), plnV p, .int .i64 (i : Nat)] w (GamR t b0 gm ks (InsR t k p i) w) := by
  have hgs := hG.gin
  have hgg : g ∈ [g] := .head _
  have hml := hG.lt gm (.head _)
  have hn60 := ho.n60
  have hdl := ho.dly
  have hfr := ho.frm
  obtain ⟨hb1, hb2, hb3⟩ := plan_bd ho hp
  have hT := hG.task
  have hgm : w.heap[g]? = some (gamO v t gm) := hG.game
  have S0 := Sys.start1 hG.bg hgm
  have hhn := hT.hn
  obtain ⟨ah, ⟨Ak, nk, ck1⟩, e1, hlth, hck, hqk⟩ := hT.hisAt hk
  have hlk := hqk.len
  simp only at hlk e1 hhn
  have hlen : (t.h k).vals.length = t.n := ho.len k hk
  rw [hlen] at hlk
  subst hlk
  obtain ⟨ak, rfl, hltk, hvk⟩ := hqk.at_ (by omega)
  have dh1 : w.cell? ((ah.add (k * 2)).add 1) = some (.slice (some ak) t.n ck1) := hck 1 _ rfl
  have dV : w.cell? (ak.add (i * 1)) = some (.int .i64 (t.v k i)) := hvk i (by rw [hlen]; exact hi)
  have hgen := fun {L : Lo} {w' : World} (S : Sys b0 w L w') (hg : (g, gamO v t gm) ∈ L) (hL : ∀ e, e ∈ L → e.1 ∈ ks ∨ w.heap.size ≤ e.1) (hLE : ∀ e, e ∈ L → e.1 ∈ [g] ∨ w.heap.size ≤ e.1) {x : Value} (hR : InsR t k p i x []) => GamR.end_ (kk := []) (ks := ks) (R := InsR t k p i) hG hml (Since.refl (gm := gm)) S hg hR hL hLE
  have hgen2 := fun {L : Lo} {kk : List Nat} {hs : List Held} {W w' : World} (hG1 : Gam t v b0 g gm (kk ++ ks) [] hs W) (hS : Since w gm W) (S : Sys b0 W L w') (hg : (g, gamO v t gm) ∈ L) (hL : ∀ e, e ∈ L → e.1 ∈ kk ++ ks ∨ W.heap.size ≤ e.1) (hLE : ∀ e, e ∈ L → e.1 ∈ [g] ∨ w.heap.size ≤ e.1) {x : Value} (hR : InsR t k p i x []) => GamR.end_ (R := InsR t k p i) hG1 hml hS S hg hR hL hLE
  have hrun := fun (s : Nat) (hs : s < t.n) (w5 : World) (ks2 : List Nat) (hG5 : Gam t v b0 g gm ks2 [] [] w5) => crun_any hG5 ho hk hs
  have hins : t.ins k p i = if (decide (p.close = -1) && decide (p.open_ = -1) || (decide ((i : Int) ≤ t.shutI p) || decide (p.open_ - t.from_ ≤ (i : Int)))) = true then some ⟨false, t.v k i⟩ else (t.rs k (t.shutI p).toNat (i - (t.shutI p).toNat)).map fun st => ⟨true, st.vol⟩ := by
    unfold CTk.ins CTk.isOpen
    rw [nev_b]
  have hbas := hT.bas
  obtain ⟨⟨A1, n1, c1, A2, n2, c2⟩, ⟨Af, nf, cf⟩, ⟨Ah, nh, ch⟩, ⟨Ar, nr, cr⟩⟩ := v
  simp only at hbas hhn e1
  subst hhn e1
  have hlev := fun {L : Lo} {W : World} (x : Int) (hBW : Below b0 w W) (w5 : World) (S5 : Sys b0 W L w5) => Level_any (p := ⟨A1, n1, c1, A2, n2, c2⟩) (b := t.b) (v := x) (w := w5) ((hbas.below (hBW.trans S5.toBelow)).more (Nat.le_trans S5.base S5.size))
  simp only [basV, basC, spanV] at hlev
  obtain ⟨c, o⟩ := p
  simp only at hb1 hb2 hins
  have hsI : t.shutI ⟨c, o⟩ = c - t.from_ + t.delay := rfl
  rw [hsI] at hins
  simp only [gamO, gamC] at S0
  simp only [plnV]
  refine enterL Try.func72 rfl Try.ntmps72 rfl (S0) ?_; simp only [frame, Nat.zero_add, Nat.reduceAdd]
  refine XC.hint 0 0 ?_
  repeat (first | (refine M0 ?_; first | refine SL ?_ | refine SB fun _ _ => ?_ | refine Y4 (Ev.call (f := 55) (ck rfl) rfl (fun w S => nev_any w)) ?_ | refine Y4 (Ev.plnEql rfl rfl) ?_) | (refine M1 ?_; first | refine SC ?_ | refine SD ?_) | (refine M2 ?_; refine SE ?_) | (refine M3 ?_; first | refine SG ?_ | refine SF ?_ | refine YF (Ev.call (f := 55) (ck rfl) rfl (fun w S => nev_any w)) ?_ | refine YF (Ev.plnEql rfl rfl) ?_) | (refine M4 ?_; refine SR ?_) | (refine M5 ?_; first | exact M7 | refine YM ?_ | refine YN ?_ ?_))
  cases h1 : (decide (c = -1) && decide (o = -1)) <;> rw [h1] at hins
  rotate_left
  · repeat (first | (refine M0 ?_; first | refine SL ?_ | refine SB fun _ _ => ?_ | refine Y4 (Ev.load_old tok rfl rfl (add_lt2 hlth) dh1) ?_ | refine Y4 (Ev.load_old tok rfl rfl (add_lt hltk) dV) ?_) | (refine M1 ?_; first | refine SC ?_ | refine SD ?_) | (refine M2 ?_; refine SE ?_) | (refine M3 ?_; first | refine SG ?_ | refine SF ?_ | refine YF (Ev.load_old tok rfl rfl (add_lt2 hlth) dh1) ?_ | refine YF (Ev.load_old tok rfl rfl (add_lt hltk) dV) ?_) | (refine M4 ?_; refine SR ?_) | (refine M5 ?_; first | exact M7 | refine YM ?_ | refine YN ?_ ?_))
    refine XE.retg tok Try.results72 rfl (by simp only [and_self, and_true]) (fun w' S => ?_)
    exact hgen S (.tail _ (.tail _ (.head _))) ZZHM ZZHM ⟨by rw [hins]; simp only [Bool.true_or, Bool.false_or, Bool.or_true, if_true]; rfl, rfl⟩
  repeat (first | (refine M0 ?_; first | refine SL ?_ | refine SB fun _ _ => ?_) | (refine M1 ?_; first | refine SC ?_ | refine SD ?_) | (refine M2 ?_; refine SE ?_) | (refine M3 ?_; first | refine SG ?_ | refine SF ?_) | (refine M4 ?_; refine SR ?_) | (refine M5 ?_; first | exact M7 | refine YM ?_ | refine YN ?_ ?_))
  cases h2 : decide ((i : Int) ≤ c - t.from_ + t.delay) <;> rw [h2] at hins
  rotate_left
  · repeat (first | (refine M0 ?_; first | refine SL ?_ | refine SB fun _ _ => ?_ | refine Y4 (Ev.load_old tok rfl rfl (add_lt2 hlth) dh1) ?_ | refine Y4 (Ev.load_old tok rfl rfl (add_lt hltk) dV) ?_) | (refine M1 ?_; first | refine SC ?_ | refine SD ?_) | (refine M2 ?_; refine SE ?_) | (refine M3 ?_; first | refine SG ?_ | refine SF ?_ | refine YF (Ev.load_old tok rfl rfl (add_lt2 hlth) dh1) ?_ | refine YF (Ev.load_old tok rfl rfl (add_lt hltk) dV) ?_) | (refine M4 ?_; refine SR ?_) | (refine M5 ?_; first | exact M7 | refine YM ?_ | refine YN ?_ ?_))
    refine XE.retg tok Try.results72 rfl (by simp only [and_self, and_true]) (fun w' S => ?_)
    exact hgen S (.tail _ (.tail _ (.head _))) ZZHM ZZHM ⟨by rw [hins]; simp only [Bool.true_or, Bool.false_or, Bool.or_true, if_true]; rfl, rfl⟩
  repeat (first | (refine M0 ?_; first | refine SL ?_ | refine SB fun _ _ => ?_) | (refine M1 ?_; first | refine SC ?_ | refine SD ?_) | (refine M2 ?_; refine SE ?_) | (refine M3 ?_; first | refine SG ?_ | refine SF ?_) | (refine M4 ?_; refine SR ?_) | (refine M5 ?_; first | exact M7 | refine YM ?_ | refine YN ?_ ?_))
  cases h3 : decide (o - t.from_ ≤ (i : Int)) <;> rw [h3] at hins
  rotate_left
  · repeat (first | (refine M0 ?_; first | refine SL ?_ | refine SB fun _ _ => ?_ | refine Y4 (Ev.load_old tok rfl rfl (add_lt2 hlth) dh1) ?_ | refine Y4 (Ev.load_old tok rfl rfl (add_lt hltk) dV) ?_) | (refine M1 ?_; first | refine SC ?_ | refine SD ?_) | (refine M2 ?_; refine SE ?_) | (refine M3 ?_; first | refine SG ?_ | refine SF ?_ | refine YF (Ev.load_old tok rfl rfl (add_lt2 hlth) dh1) ?_ | refine YF (Ev.load_old tok rfl rfl (add_lt hltk) dV) ?_) | (refine M4 ?_; refine SR ?_) | (refine M5 ?_; first | exact M7 | refine YM ?_ | refine YN ?_ ?_))
    refine XE.retg tok Try.results72 rfl (by simp only [and_self, and_true]) (fun w' S => ?_)
    exact hgen S (.tail _ (.tail _ (.head _))) ZZHM ZZHM ⟨by rw [hins]; simp only [Bool.true_or, Bool.false_or, Bool.or_true, if_true]; rfl, rfl⟩
  have hne : (⟨c, o⟩ : CPl) ≠ nev := fun e => by
    simp only [nev, CPl.mk.injEq] at e
    rw [decide_eq_true e.1, decide_eq_true e.2] at h1; cases h1
  have hs0 := hb3 hne
  rw [hsI] at hs0
  obtain ⟨s, hs⟩ : ∃ s : Nat, c - t.from_ + t.delay = (s : Int) := ⟨(c - t.from_ + t.delay).toNat, by omega⟩
  rw [hs] at hins ⊢
  have hsi : s < i := by have := of_decide_eq_false h2; omega
  simp only [Bool.or_self, Bool.false_eq_true, if_false, Int.toNat_natCast] at hins
  repeat (first | (refine M0 ?_; first | refine SL ?_ | refine SB fun _ _ => ?_) | (refine M1 ?_; first | refine SC ?_ | refine SD ?_) | (refine M2 ?_; refine SE ?_) | (refine M3 ?_; first | refine SG ?_ | refine SF ?_) | (refine M4 ?_; refine SR ?_) | (refine M5 ?_; first | exact M7 | refine YM ?_ | refine YN ?_ ?_))
  refine XL.callG (wE := w) (RunR5 t k s) (ck rfl) rfl rfl hG Since.refl (.tail _ (.tail _ (.head _))) (fun w5 ks2 hG5 => hrun s (by omega) w5 ks2 hG5) (fun w1 x new hR hG1 hS1 => ?_) ZZHM ZZHM
  obtain ⟨⟨qA, qn, qc⟩, rfl, rfl⟩ := hR
  have hq := hG1.fam.held (hInts ⟨qA, qn, qc⟩ (t.vols k s (t.n - s))) (.head _)
  have hql : qn = (t.vols k s (t.n - s)).length := IntsAt.len hq
  simp only [svV]
  have hz := hS1.size
  repeat (first | (refine M0 ?_; first | refine SL ?_ | refine SB fun _ _ => ?_) | (refine M1 ?_; refine SC ?_) | (refine M2 ?_; refine SE ?_))
  cases hrs : t.rs k s (i - s) with
  | none =>
    rw [hrs] at hins
    have hle : qn ≤ i - s := by
      have := vols_at (t := t) (k := k) (s := s) (m := t.n - s) (j := i - s) (by omega)
      rw [hrs] at this
      rw [hql]
      simpa using this
    rw [show decide ((qn : Int) ≤ (i : Int) - (s : Int)) = true from decide_eq_true (by omega)]
    repeat (first | (refine M0 ?_; first | refine SL ?_ | refine SB fun _ _ => ?_) | (refine M1 ?_; refine SC ?_) | (refine M2 ?_; refine SE ?_))
    refine XE.retg tok Try.results72 rfl (by simp only [and_self, and_true]) (fun w' S => ?_)
    exact hgen2 hG1 hS1 S (.tail _ (.tail _ (.head _))) ZZHL ZZO2 ⟨by rw [hins]; rfl, rfl⟩
  | some st =>
  rw [hrs] at hins
  have hat := vols_at (t := t) (k := k) (s := s) (m := t.n - s) (j := i - s) (by omega)
  rw [hrs] at hat
  have hlt : i - s < (t.vols k s (t.n - s)).length := (List.getElem?_eq_some_iff.1 hat).1
  rw [show decide ((qn : Int) ≤ (i : Int) - (s : Int)) = false from decide_eq_false (by omega)]
  obtain ⟨aq, rfl, hfq, hcq⟩ := IntsAt.at_ hq (by omega)
  have dq : w1.cell? (aq.add (((i : Int) - (s : Int)).toNat * 1)) = some (.int .i64 st.vol) := by
    have := hcq (i - s) hlt
    rw [show at0 (t.vols k s (t.n - s)) (i - s) = st.vol by unfold at0; rw [hat]; rfl] at this
    rw [show ((i : Int) - (s : Int)).toNat = i - s by omega]
    exact this
  have hlv := fun {L : Lo} (w5 : World) (S5 : Sys b0 w1 L w5) => hlev st.vol (hS1.below hG.bm hG.fam.base) w5 S5
  repeat (first | (refine M0 ?_; first | refine SL ?_ | refine SB fun _ _ => ?_) | (refine M1 ?_; refine SC ?_) | (refine M2 ?_; refine SE ?_))
  refine XC.cutln [6, 8, 9] rfl (fun g13 : Nat => [(13, .pointer (some ⟨g13, 0, none⟩))]) (fun g13 => [(g13, cel 85 [.int .i64 (lvlLo t.b st.vol), .int .i64 (lvlHi t.b st.vol)])]) (fun g13 => w1.heap.size ≤ g13) ?_ (fun g13 hg13 => ?_)
  · refine XC.drawR _ [0, 1, 2, 3, 4, 5, 6, 7, 8, 9, 10] [11, 12, 13, 14, 15, 16, 17] mixed (fun _ h => h) rfl (by kernel_rfl) ?_
    repeat (any_goals (first | (refine M0 ?_; first | refine SL ?_ | refine SB fun _ _ => ?_ | refine Y4 (Ev.load_far tok rfl rfl (by rw [add_block]; exact hfq.2.1) (Free.far hfq ZZHL) dq) ?_ | refine Y4 (Ev.call (f := 94) (ck rfl) rfl (fun w5 S5 => hlv w5 S5)) ?_) | (refine M1 ?_; refine SC ?_) | (refine M2 ?_; refine SE ?_) | (refine M3 ?_; first | refine SG ?_ | refine SF ?_ | refine YF (Ev.load_far tok rfl rfl (by rw [add_block]; exact hfq.2.1) (Free.far hfq ZZHL) dq) ?_ | refine YF (Ev.call (f := 94) (ck rfl) rfl (fun w5 S5 => hlv w5 S5)) ?_) | (refine M4 ?_; refine SR ?_) | (refine M5 ?_; first | exact M7 | refine YM ?_ | refine YN ?_ ?_)))
    any_goals (repeat (first | exact AnyR.nil | refine AnyR.skip rfl ?_))
    all_goals exact XE.leaf _ ZZSUB (fun _ S' => by first | exact S' | exact S'.perm (by repeat (first | exact List.Perm.refl _ | refine perm1 ?_ | refine List.Perm.cons _ ?_ | refine perm2 ?_)) | exact (S'.pop (by assumption)) | exact (S'.pop2 (by assumption))) (by assumption)
  dsimp only [List.cons_append, List.nil_append]
  refine XC.hint 13 3 ?_
  repeat (first | (refine M0 ?_; first | refine SL ?_ | refine SB fun _ _ => ?_) | (refine M1 ?_; refine SC ?_) | (refine M2 ?_; refine SE ?_))
  refine XE.retg tok Try.results72 rfl (by simp only [and_self, and_true]) (fun w' S => ?_)
  exact hgen2 hG1 hS1 S (.tail _ (.tail _ (.tail _ (.head _)))) ZZHL ZZO2 ⟨by rw [hins]; rfl, rfl⟩
end Go.Proofs.Ytmpaiphakjogjaa.X
