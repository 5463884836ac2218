/-
  How a state, ticks and flows lie in memory: slices whose blocks meet a condition; and the plain words of a state.
-/
import Derived.Test.YtoiepgcjinccpaaDoorEngA
import Derived.Test.YtoiepgcjinccpaaDoorBsMem
import Derived.Test.YtoiepgcjinccpaaDoorBsDef3
namespace Go.Proofs.YtoiepgcjinccpaaDoor.X
open Go Go.RowKit Go.Proofs.YtoiepgcjinccpaaDoor.Bs
set_option linter.unusedVariables false

/-- the slice value '.slice A n c' holds the cells xs, 'size' of them an element; its block is one of ok. -/
structure ReadsP (w : World) (ok : Nat → Prop) (size : Nat) (A : Option Addr) (n : Nat) (xs : List Value) : Prop where
  len : xs.length = n * size
  at_ : 0 < n → ∃ ad, A = some ad ∧ ok ad.block ∧ ∀ j u, xs[j]? = some u → w.cell? (ad.add j) = some u
/-- these blocks stand as they stood at the base world. -/
def Keep (ok : Nat → Prop) (w0 : World) (L : Lo) : Prop := ∀ k, ok k → k < w0.heap.size ∧ ∀ e, e ∈ L → e.1 ≠ k
/-- the blocks below B. -/
def Lt (B : Nat) : Nat → Prop := fun k => k < B
/-- the blocks from a on, below b. -/
def Btw (a b : Nat) : Nat → Prop := fun k => a ≤ k ∧ k < b
section
variable {w w' w0 : World} {ok ok' : Nat → Prop} {B size n : Nat} {A : Option Addr} {xs : List Value} {L : Lo}
theorem ReadsP.of (h : Reads w B size A n xs) : ReadsP w (Lt B) size A n xs := ⟨h.1, h.2⟩
theorem ReadsP.to (h : ReadsP w (Lt B) size A n xs) : Reads w B size A n xs := ⟨h.1, h.2⟩
theorem ReadsP.nil : ReadsP w ok size A 0 [] := ⟨by simp, fun h => absurd h (by omega)⟩
theorem ReadsP.keep (h : ReadsP w ok size A n xs) (hk : ∀ k, ok k → w'.heap[k]? = w.heap[k]?) : ReadsP w' ok size A n xs :=
  ⟨h.1, fun hn => by
    obtain ⟨ad, e, hb, hc⟩ := h.2 hn
    exact ⟨ad, e, hb, fun j u hu => (World.cell?_of_block (hk _ (by rw [add_block]; exact hb))).trans (hc j u hu)⟩⟩
theorem ReadsP.mono (h : ReadsP w ok size A n xs) (hk : ∀ k, ok k → ok' k) : ReadsP w ok' size A n xs :=
  ⟨h.1, fun hn => by
    obtain ⟨ad, e, hb, hc⟩ := h.2 hn
    exact ⟨ad, e, hk _ hb, hc⟩⟩
theorem Keep.sys (hk : Keep ok w0 L) (S : Sys B w0 L w) : ∀ k, ok k → w.heap[k]? = w0.heap[k]? := fun k h => S.old k (hk k h).1 (hk k h).2
theorem Keep.lt (hk : Keep ok w0 L) (S : Sys B w0 L w) : ∀ k, ok k → Lt w.heap.size k := fun k h => Nat.lt_of_lt_of_le (hk k h).1 S.size
/-- where a walk stands. -/
theorem ReadsP.sys (h : ReadsP w0 ok size A n xs) (S : Sys B w0 L w) (hk : Keep ok w0 L) : ReadsP w (Lt w.heap.size) size A n xs := (h.keep (hk.sys S)).mono (hk.lt S)
theorem Keep.arg (S : Sys B w0 L w) : Keep (Lt B) w0 L := fun k h => ⟨Nat.lt_of_lt_of_le h S.base, fun e he e1 => by have := (S.own e he).1; have : k < B := h; omega⟩
theorem ReadsP.arg (h : ReadsP w0 (Lt B) size A n xs) (S : Sys B w0 L w) : ReadsP w (Lt w.heap.size) size A n xs := h.sys S (Keep.arg S)
theorem Keep.nil (h : ∀ k, ok k → k < w0.heap.size) : Keep ok w0 [] := fun k hk => ⟨h k hk, fun e he => by cases he⟩
theorem Keep.cons {g : Nat} {o : Obj} (h : Keep ok w0 L) (hg : ∀ k, ok k → g ≠ k) : Keep ok w0 ((g, o) :: L) := fun k hk => ⟨(h k hk).1, fun e he => by
  rcases List.mem_cons.1 he with rfl | he
  · exact hg k hk
  · exact (h k hk).2 e he⟩
/-- a new block is none of these. -/
theorem Keep.new {g : Nat} {o : Obj} (h : Keep ok w0 L) (hg : w0.heap.size ≤ g) : Keep ok w0 ((g, o) :: L) := h.cons fun k hk e => by have := (h k hk).1; omega
/-- another content. -/
theorem Keep.turn {L' : Lo} (h : Keep ok w0 L) (e : L'.map (·.1) = L.map (·.1)) : Keep ok w0 L' := fun k hk => ⟨(h k hk).1, fun x hx e1 => by
  have : x.1 ∈ L'.map (·.1) := List.mem_map.2 ⟨x, hx, rfl⟩
  rw [e] at this
  obtain ⟨y, hy, e2⟩ := List.mem_map.1 this
  exact (h k hk).2 y hy (e2.trans e1)⟩
/-- at the world behind a call: what was made in it. -/
theorem Keep.made (S : Sys B w0 L w) {hi : Nat} (hh : hi ≤ w'.heap.size) : Keep (Btw w.heap.size hi) w' L := fun k hk => ⟨Nat.lt_of_lt_of_le hk.2 hh, fun e he e1 => by have := S.lt he; have := hk.1; omega⟩
/-- what stood stands. -/
theorem Keep.later (hk : Keep ok w0 L) (S : Sys B w0 L w) (h : w.heap.size ≤ w'.heap.size) : Keep ok w' L := fun k h1 => ⟨Nat.lt_of_lt_of_le (hk k h1).1 (Nat.le_trans S.size h), (hk k h1).2⟩
end

/-- a slice of numbers. -/
structure SV where
  A : Option Addr
  n : Nat
  c : Nat
def svV (q : SV) : Value := .slice q.A q.n q.c
structure IntsAt (w : World) (ok : Nat → Prop) (q : SV) (l : List Int) : Prop where
  rd : ReadsP w ok 1 q.A q.n (ints l)
  max : q.n ≤ 9223372036854775807
def at0 (l : List Int) (i : Nat) : Int := l[i]?.getD 0
section
variable {w w' w0 : World} {ok ok' : Nat → Prop} {B : Nat} {q : SV} {l : List Int} {L : Lo}
theorem IntsAt.len (h : IntsAt w ok q l) : q.n = l.length := by have := h.rd.len; rw [ints_len] at this; omega
theorem IntsAt.keep (h : IntsAt w ok q l) (hk : ∀ k, ok k → w'.heap[k]? = w.heap[k]?) : IntsAt w' ok q l := ⟨h.rd.keep hk, h.max⟩
theorem IntsAt.mono (h : IntsAt w ok q l) (hk : ∀ k, ok k → ok' k) : IntsAt w ok' q l := ⟨h.rd.mono hk, h.max⟩
theorem IntsAt.sys (h : IntsAt w0 ok q l) (S : Sys B w0 L w) (hk : Keep ok w0 L) : IntsAt w (Lt w.heap.size) q l := ⟨h.rd.sys S hk, h.max⟩
theorem IntsAt.arg (h : IntsAt w0 (Lt B) q l) (S : Sys B w0 L w) : IntsAt w (Lt w.heap.size) q l := ⟨h.rd.arg S, h.max⟩
theorem IntsAt.below (h : IntsAt w (Lt B) q l) (hb : Below B w w') : IntsAt w' (Lt B) q l := h.keep fun k hk => hb.block k hk
theorem IntsAt.at_ {A : Option Addr} {n c : Nat} (h : IntsAt w ok ⟨A, n, c⟩ l) (hn : 0 < l.length) : ∃ ad, A = some ad ∧ ok ad.block ∧ ∀ i, i < l.length → w.cell? (ad.add (i * 1)) = some (.int .i64 (at0 l i)) := by
  have e := h.len
  simp only at e
  obtain ⟨ad, e1, h1, h2⟩ := h.rd.at_ (by simp only; omega)
  refine ⟨ad, e1, h1, fun i hi => ?_⟩
  rw [Nat.mul_one]
  refine h2 i _ ?_
  simp [ints, at0, hi]
end
def staC (q : SV) (s : Sta) : List Value := [.int .i64 s.vol, .slice q.A q.n q.c]
def staV (q : SV) (s : Sta) : Value := .agg ⟨staC q s⟩
def tickC (t : Tick) : List Value := [.int .i64 t.outer, .int .i64 t.river, .int .i64 t.out]
def tickV (t : Tick) : Value := .agg ⟨tickC t⟩
def floC (q : SV) (f : Flo) : List Value := [.int .i64 f.river, .int .i64 f.over, .int .i64 f.leak, .int .i64 f.out, .slice q.A q.n q.c]
def floV (q : SV) (f : Flo) : Value := .agg ⟨floC q f⟩
end Go.Proofs.YtoiepgcjinccpaaDoor.X
namespace Go.Proofs.YtoiepgcjinccpaaDoor.Bs
def Sta.f (s : Sta) (i : Nat) : Int := s.fil[i]?.getD 0
/-- a state that is none of the basin's, though it has as many polders. -/
def staBad (b : Bas) (s : Sta) : Prop := outB s.vol (b.row 0).vol 1000000000 = true ∨ ∃ i, i < b.pols.length ∧ outB (s.f i) 0 (b.pol i).room = true
open Classical in
noncomputable def staErr (b : Bas) (s : Sta) : Int := if chkE b ≠ 0 then chkE b else if s.fil.length ≠ b.pols.length then 2 else if staBad b s then 7 else 0
structure StaOk (b : Bas) (s : Sta) : Prop where
  len : s.fil.length = b.pols.length
  vol : (b.row 0).vol ≤ s.vol ∧ s.vol ≤ 1000000000
  fil : ∀ i, i < b.pols.length → 0 ≤ s.f i ∧ s.f i ≤ (b.pol i).room
theorem staErr_c {b : Bas} {s : Sta} (h : chkE b ≠ 0) : staErr b s = chkE b := by unfold staErr; rw [if_pos h]
theorem staErr_2 {b : Bas} {s : Sta} (h : chkE b = 0) (h1 : s.fil.length ≠ b.pols.length) : staErr b s = 2 := by unfold staErr; rw [if_neg (by simp [h]), if_pos h1]
theorem staErr_7 {b : Bas} {s : Sta} (h : chkE b = 0) (h1 : s.fil.length = b.pols.length) (h2 : staBad b s) : staErr b s = 7 := by unfold staErr; rw [if_neg (by simp [h]), if_neg (by simp [h1]), if_pos h2]
theorem staErr_0 {b : Bas} {s : Sta} (h : chkE b = 0) (h1 : s.fil.length = b.pols.length) (h2 : ¬ staBad b s) : staErr b s = 0 := by unfold staErr; rw [if_neg (by simp [h]), if_neg (by simp [h1]), if_neg h2]
theorem staOk_of {b : Bas} {s : Sta} (h : staErr b s = 0) : Ok b ∧ StaOk b s := by
  unfold staErr at h
  split at h
  · rename_i h1; exact absurd h h1
  · rename_i h1
    split at h
    · cases h
    · rename_i h2
      split at h
      · cases h
      · rename_i h3
        refine ⟨ok_of (by simpa using h1), by simpa using h2, ?_, fun i hi => ?_⟩
        · exact outB_f.1 (by cases hx : outB s.vol (b.row 0).vol 1000000000 with | false => rfl | true => exact absurd (.inl hx) h3)
        · exact outB_f.1 (by cases hx : outB (s.f i) 0 (b.pol i).room with | false => rfl | true => exact absurd (.inr ⟨i, hi, hx⟩) h3)
theorem staErr_ok {b : Bas} {s : Sta} (hc : chkE b = 0) (h : StaOk b s) : staErr b s = 0 := staErr_0 hc h.len fun hb => by
  rcases hb with hb | ⟨i, hi, hb⟩
  · have := outB_t.1 hb; have := h.vol; omega
  · have := outB_t.1 hb; have := h.fil i hi; omega
end Go.Proofs.YtoiepgcjinccpaaDoor.Bs
