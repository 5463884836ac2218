/-
  How a basin, a state, ticks and flows lie in memory.
-/
import Derived.Test.YtoiepgcjinccpaaDoorEng6
import Derived.Test.YtoiepgcjinccpaaDoorBsDefs
namespace Go.Proofs.YtoiepgcjinccpaaDoor.X
open Go Go.RowKit Go.Proofs.YtoiepgcjinccpaaDoor.Bs
set_option linter.unusedVariables false

structure BV where
  A : Option Addr
  n : Nat
  c : Nat
  A2 : Option Addr
  n2 : Nat
  c2 : Nat
def basC (p : BV) (b : Bas) : List Value := [.slice p.A p.n p.c, .int .i64 b.leak, .int .i64 b.crest, .int .i64 b.over, .slice p.A2 p.n2 p.c2]
def basV (p : BV) (b : Bas) : Value := .agg ⟨basC p b⟩
def rowC (r : Row) : List Value := [.int .i64 r.level, .int .i64 r.vol]
def polC (q : Pol) : List Value := [.string q.name, .int .i64 q.sill, .int .i64 q.take, .int .i64 q.room]
theorem rowC_len (r : Row) : (rowC r).length = 2 := rfl
theorem polC_len (q : Pol) : (polC q).length = 4 := rfl
structure BasAt (w : World) (B : Nat) (p : BV) (b : Bas) : Prop where
  rows : Reads w B 2 p.A p.n (b.rows.flatMap rowC)
  pols : Reads w B 4 p.A2 p.n2 (b.pols.flatMap polC)
  cap : p.n ≤ p.c
  len : p.n ≤ 9223372036854775807
  len2 : p.n2 ≤ 9223372036854775807
  names : ∀ q, q ∈ b.pols → q.name.size ≤ 9223372036854775807
section
variable {w w' w0 : World} {B B' : Nat} {p : BV} {b : Bas} {L : Lo}
theorem BasAt.below (h : BasAt w B p b) (hb : Below B w w') : BasAt w' B p b := ⟨h.rows.below hb, h.pols.below hb, h.cap, h.len, h.len2, h.names⟩
theorem BasAt.more (h : BasAt w B p b) (hB : B ≤ B') : BasAt w B' p b := ⟨h.rows.more hB, h.pols.more hB, h.cap, h.len, h.len2, h.names⟩
/-- where a walk stands: the basin as it was at the base world. -/
theorem BasAt.sys (h : BasAt w0 B p b) (S : Sys B w0 L w) : BasAt w w.heap.size p b := (h.below S.toBelow).more (Nat.le_trans S.base S.size)
theorem BasAt.n_eq (h : BasAt w B p b) : p.n = b.rows.length := (Reads.len rowC_len (by decide) h.rows).symm
theorem BasAt.n2_eq (h : BasAt w B p b) : p.n2 = b.pols.length := (Reads.len polC_len (by decide) h.pols).symm
theorem row_some {i : Nat} (h : i < b.rows.length) : b.rows[i]? = some (b.row i) := by
  unfold Bas.row
  rw [List.getElem?_eq_getElem h]; rfl
theorem pol_some {i : Nat} (h : i < b.pols.length) : b.pols[i]? = some (b.pol i) := by
  unfold Bas.pol
  rw [List.getElem?_eq_getElem h]; rfl
theorem BasAt.row {ad : Addr} {n c : Nat} {A2 : Option Addr} {n2 c2 : Nat} (h : BasAt w B ⟨some ad, n, c, A2, n2, c2⟩ b) {i : Nat} (hi : i < b.rows.length) :
    ∀ j v, (rowC (b.row i))[j]? = some v → w.cell? ((ad.add (i * 2)).add j) = some v :=
  fun j v hj => Reads.fld rowC_len h.rows (row_some hi) hj
theorem BasAt.rowLevel {ad : Addr} {n c : Nat} {A2 : Option Addr} {n2 c2 : Nat} (h : BasAt w B ⟨some ad, n, c, A2, n2, c2⟩ b) {i : Nat} (hi : i < b.rows.length) :
    w.cell? ((ad.add (i * 2)).add 0) = some (.int .i64 (b.row i).level) := h.row hi 0 _ rfl
theorem BasAt.rowVol {ad : Addr} {n c : Nat} {A2 : Option Addr} {n2 c2 : Nat} (h : BasAt w B ⟨some ad, n, c, A2, n2, c2⟩ b) {i : Nat} (hi : i < b.rows.length) :
    w.cell? ((ad.add (i * 2)).add 1) = some (.int .i64 (b.row i).vol) := h.row hi 1 _ rfl
theorem BasAt.pol {ad : Addr} {A : Option Addr} {n c n2 c2 : Nat} (h : BasAt w B ⟨A, n, c, some ad, n2, c2⟩ b) {i : Nat} (hi : i < b.pols.length) :
    ∀ j v, (polC (b.pol i))[j]? = some v → w.cell? ((ad.add (i * 4)).add j) = some v :=
  fun j v hj => Reads.fld polC_len h.pols (pol_some hi) hj
theorem BasAt.name (h : BasAt w B p b) {i : Nat} (hi : i < b.pols.length) : (b.pol i).name.size ≤ 9223372036854775807 := h.names _ (List.mem_of_getElem? (pol_some hi))
end
/-- the names of the first k polders, as the entries of a map. -/
def nameKV (b : Bas) : Nat → List (ByteArray × Value)
  | 0 => []
  | k + 1 => nameKV b k ++ [((b.pol k).name, .bool true)]
theorem findS_push (kvs : List (ByteArray × Value)) (k s : ByteArray) (v : Value) : findS (kvs ++ [(k, v)]) s = match findS kvs s with
    | some u => some u
    | none => if s = k then some v else none := by
  unfold findS
  rw [List.find?_append]
  cases h : kvs.find? fun e => decide (s = e.1) with
  | some u => simp
  | none => by_cases hs : s = k <;> simp [hs]
theorem findS_none {b : Bas} {s : ByteArray} : ∀ {k : Nat}, (∀ j, j < k → (b.pol j).name ≠ s) → findS (nameKV b k) s = none := by
  intro k
  induction k with
  | zero => intro _; rfl
  | succ k ih =>
    intro h
    rw [nameKV, findS_push, ih fun j hj => h j (by omega)]
    simp only
    rw [if_neg fun e => h k (by omega) e.symm]
theorem findS_some {b : Bas} {s : ByteArray} : ∀ {k : Nat}, (∃ j, j < k ∧ (b.pol j).name = s) → findS (nameKV b k) s = some (.bool true) := by
  intro k
  induction k with
  | zero => rintro ⟨j, hj, _⟩; omega
  | succ k ih =>
    rintro ⟨j, hj, e⟩
    rw [nameKV, findS_push]
    by_cases h : ∃ j, j < k ∧ (b.pol j).name = s
    · rw [ih h]
    · rw [findS_none fun i hi e2 => h ⟨i, hi, e2⟩]
      have : j = k := by
        rcases Nat.lt_or_ge j k with h1 | h1
        · exact absurd ⟨j, h1, e⟩ h
        · omega
      subst this
      simp [e]
def seenB (b : Bas) (k : Nat) (s : ByteArray) : Bool := (b.pols.take k).any fun q => decide (q.name = s)
open Classical in
theorem seen_iff {b : Bas} {k : Nat} {s : ByteArray} (hk : k ≤ b.pols.length) : seenB b k s = true ↔ ∃ j, j < k ∧ (b.pol j).name = s := by
  unfold seenB
  rw [List.any_eq_true]
  constructor
  · rintro ⟨q, hq, e⟩
    obtain ⟨j, hj, rfl⟩ := List.mem_iff_getElem.1 hq
    have hj' : j < k := by simp at hj; omega
    refine ⟨j, hj', ?_⟩
    have hl : j < b.pols.length := by omega
    rw [List.getElem_take] at e
    unfold Bas.pol
    rw [List.getElem?_eq_getElem hl]
    simpa using e
  · rintro ⟨j, hj, e⟩
    have hl : j < b.pols.length := by omega
    refine ⟨b.pol j, List.mem_iff_getElem.2 ⟨j, by simp; omega, ?_⟩, by simpa using e⟩
    rw [List.getElem_take]
    unfold Bas.pol
    rw [List.getElem?_eq_getElem hl]; rfl
theorem seen_look {b : Bas} {k : Nat} {s : ByteArray} (hk : k ≤ b.pols.length) : (findS (nameKV b k) s).getD (.bool false) = .bool (seenB b k s) := by
  by_cases h : ∃ j, j < k ∧ (b.pol j).name = s
  · rw [findS_some h, (seen_iff hk).2 h]; rfl
  · rw [findS_none fun j hj e => h ⟨j, hj, e⟩, Bool.eq_false_iff.2 fun e => h ((seen_iff hk).1 e)]; rfl
theorem BasAt.row1 {w : World} {B : Nat} {b : Bas} {ad : Addr} {n c : Nat} {A2 : Option Addr} {n2 c2 : Nat} (h : BasAt w B ⟨some ad, n, c, A2, n2, c2⟩ b) {i : Nat} (hi : i + 1 < b.rows.length) :
    ∀ j v, (rowC (b.row (i + 1)))[j]? = some v → w.cell? (((ad.add (1 * 2)).add (i * 2)).add j) = some v := fun j v hj => by
  have := h.row hi j v hj
  rwa [add_add ad, show 1 * 2 + i * 2 = (i + 1) * 2 from by omega]
theorem mul_in {x y X Y : Int} (hx : -X ≤ x ∧ x ≤ X) (hy : -Y ≤ y ∧ y ≤ Y) (h : X * Y ≤ 9223372036854775807) : i64in (x * y) := by
  have h1 : x.natAbs * y.natAbs ≤ X.toNat * Y.toNat := Nat.mul_le_mul (by omega) (by omega)
  rw [← Int.natAbs_mul] at h1
  have h2 : ((X.toNat * Y.toNat : Nat) : Int) = X * Y := by rw [Int.natCast_mul, Int.toNat_of_nonneg (by omega), Int.toNat_of_nonneg (by omega)]
  unfold i64in
  omega
theorem great_in {b : Bas} (h : 0 ≤ b.leak ∧ b.leak ≤ 10000) : ∀ k, (∀ j, j < k → 0 ≤ (b.pol j).take ∧ (b.pol j).take ≤ 10000) → 0 ≤ great b k ∧ great b k ≤ 10000 := by
  intro k
  induction k with
  | zero => intro _; exact h
  | succ k ih =>
    intro hk
    have h1 := ih fun j hj => hk j (by omega)
    have h2 := hk k (by omega)
    simp only [great]
    omega
end Go.Proofs.YtoiepgcjinccpaaDoor.X
