/-
  The walks of passed and of Stay.
-/
import Derived.Test.YtoiepgcjinccpaaDoorPart3
import Derived.KernelRfl
import Derived.Test.YtoiepgcjinccpaaDoorPart1
import Derived.Test.YtoiepgcjinccpaaDoorPart2
import Derived.Laws.MakeOwn
set_option linter.unusedVariables false
set_option linter.unusedSimpArgs false
namespace Go.Proofs.YtoiepgcjinccpaaDoor.X
open Go Go.RowKit Go.Proofs.YtoiepgcjinccpaaDoor.Bs
set_option linter.unusedVariables false
/-- the level of volume v is above lim. -/
def overB (b : Bas) (lim v : Int) : Bool := decide (lim * den b v < num b v)
theorem lim_in {b : Bas} (ho : Ok b) {lim : Int} (hl : -20000 ≤ lim ∧ lim ≤ 20000) (v : Int) : i64in (lim * den b v) := by
  have hd := den_pos ho.rowsOk v
  unfold i64in
  have h1 : -(20000 * den b v) ≤ lim * den b v := by
    have := Int.mul_le_mul_of_nonneg_right hl.1 (show 0 ≤ den b v by omega)
    omega
  have h2 : lim * den b v ≤ 20000 * den b v := Int.mul_le_mul_of_nonneg_right hl.2 (show 0 ≤ den b v by omega)
  omega
section
variable {p : BV} {b : Bas} {lim : Int} {w : World} {gb gl : Nat}
set_option maxHeartbeats 4000000 in
theorem passed1_any {m : Mom} (h1 : w.heap[gb]? = some (cel 25 (basC p b))) (h2 : w.heap[gl]? = some (cel 3 [.int .i64 lim])) (hb : BasAt w w.heap.size p b) (ho : Ok b) (hv : (b.row 0).vol ≤ m.s.vol ∧ m.s.vol ≤ 1000000000) (hl : -20000 ≤ lim ∧ lim ≤ 20000) :
    Calls Tryd.prog 93 #[.agg ⟨m.c⟩, .pointer (some ⟨gb, 0, none⟩), .pointer (some ⟨gl, 0, none⟩)] w fun e w' => e = .returned (.bool (overB b lim m.s.vol)) ∧ Below w.heap.size w w' := by
  have hl1 := (Array.getElem?_eq_some_iff.1 h1).1
  have hl2 := (Array.getElem?_eq_some_iff.1 h2).1
  have hk := lim_in ho hl m.s.vol
  simp only [basC] at h1
  have hc1 : ∀ j u, (basC p b)[j]? = some u → w.cell? ((⟨gb, 0, none⟩ : Addr).add j) = some u := fun j u hj => by
    rw [add_off]; simpa [World.cell?, h1, basC] using hj
  have hc2 : w.cell? ⟨gl, 0, none⟩ = some (.int .i64 lim) := by simp [World.cell?, h2]
  simp only [Mom.c, momC, staC, floC, List.cons_append, List.nil_append]
  refine enter Tryd.func93 rfl Tryd.ntmps93 rfl ?_; simp only [frame, Nat.zero_add, Nat.reduceAdd]
  repeat (first | (refine M0 ?_; first | refine O0 ?_ | refine z1 tok rfl ?_ | refine O1 rfl ?_ rfl | refine O2 rfl ?_ | refine O3 rfl ?_ rfl | refine U0 _ (Ev.load_old_agg tok (basC p b) rfl rfl rfl hl1 hc1) rfl ?_ | refine U0 _ (Ev.load_old tok rfl rfl hl2 hc2) rfl ?_ | refine U0 _ (Ev.call (f := 67) (ck rfl) rfl (fun w S => (exact_any (hb.sys S) ho.rowsOk hv :))) rfl ?_ | refine U0 _ (Ev.call (f := 94) (ck rfl) rfl (fun w S => (above_any (n := num b m.s.vol) (d := den b m.s.vol) hk w :))) rfl ?_ | refine O4 rfl rfl rfl (fun _ _ => ?_) | refine O5 tok rfl rfl rfl (fun _ _ => ?_) | refine U0 _ (U2 rfl) rfl ?_ | refine U0 _ (U3 tok rfl rfl rfl rfl rfl) rfl ?_ | refine z3 tok rfl ?_ | refine U0 _ (U4 rfl rfl) rfl ?_ | refine U0 _ (U5 rfl rfl) rfl ?_) | (refine M1 ?_; first | refine J0 ?_ | refine J1 ?_ | refine J2 mixed rfl (by kernel_rfl) ?_ | refine J3 mixed rfl rfl (by kernel_rfl) ?_ | refine J4 ?_ | refine J5 ?_ | refine J6 ?_ | refine J7 ?_ | refine J8 rfl ?_ | refine J9 rfl ?_) | (refine M2 ?_; first | refine I0 ?_ | refine I1 ?_ | refine I2 ?_ | refine I3 ?_ | refine I4 ?_ | refine I5 ?_ | refine I6 rfl ?_ | refine I7 ?_ | refine I8 ?_ | refine z4 ?_) | (refine M3 ?_; first | refine O6 ?_ | refine z2 tok rfl ?_ | refine O8 rfl ?_ | refine O7 rfl ?_ rfl | refine O9 rfl ?_ rfl | refine U1 _ (Ev.load_old_agg tok (basC p b) rfl rfl rfl hl1 hc1) rfl ?_ | refine U1 _ (Ev.load_old tok rfl rfl hl2 hc2) rfl ?_ | refine U1 _ (Ev.call (f := 67) (ck rfl) rfl (fun w S => (exact_any (hb.sys S) ho.rowsOk hv :))) rfl ?_ | refine U1 _ (Ev.call (f := 94) (ck rfl) rfl (fun w S => (above_any (n := num b m.s.vol) (d := den b m.s.vol) hk w :))) rfl ?_ | refine U1 _ (U4 rfl rfl) rfl ?_ | refine U1 _ (U5 rfl rfl) rfl ?_ | refine U1 _ (U2 rfl) rfl ?_ | refine U1 _ (U3 tok rfl rfl rfl rfl rfl) rfl ?_) | (refine M4 ?_; first | refine M6 ?_ | refine U6 rfl (by kernel_rfl) ?_ | refine U7 (by kernel_rfl) ?_) | (refine M5 ?_; first | exact M7 | refine U8 rfl ?_ | refine U9 rfl rfl ?_ ?_))
  refine XE.retg tok Tryd.results93 rfl (by simp only [and_self, and_true]) (fun w' S => ?_)
  exact ⟨rfl, S.toBelow⟩
theorem MomRow.len {ok : Nat → Prop} {r : SV} {ms : List Mom} (h : MomRow w ok r ms) : r.n = ms.length := by
  have := h.rd.len
  rw [flat_len Mom.c 7 Mom.c_len] at this
  omega
theorem MomRow.mom {ok : Nat → Prop} {ad : Addr} {n c : Nat} {ms : List Mom} (h : MomRow w ok ⟨some ad, n, c⟩ ms) {k : Nat} {m : Mom} (hk : ms[k]? = some m) : ∀ j u, m.c[j]? = some u → w.cell? ((ad.add (k * 7)).add j) = some u := fun j u hj => by
  have hn := h.len
  have hkl := (List.getElem?_eq_some_iff.1 hk).1
  obtain ⟨ad', e, _, h1⟩ := h.rd.at_ (by simp only at hn ⊢; omega)
  cases e
  have hj3 : j < 7 := (List.getElem?_eq_some_iff.1 hj).1
  have e2 := flat_at Mom.c 7 Mom.c_len ms k j m hk hj3
  have := h1 (k * 7 + j) u (e2.trans hj)
  rw [add_add]
  exact this
set_option maxHeartbeats 4000000 in
theorem index_any {r : SV} {ms : List Mom} (hr : MomRow w (Lt w.heap.size) r ms) (h1 : w.heap[gb]? = some (cel 25 (basC p b))) (h2 : w.heap[gl]? = some (cel 3 [.int .i64 lim])) (hb : BasAt w w.heap.size p b) (ho : Ok b)
    (hv : ∀ m, m ∈ ms → (b.row 0).vol ≤ m.s.vol ∧ m.s.vol ≤ 1000000000) (hl : -20000 ≤ lim ∧ lim ≤ 20000) :
    Calls Tryd.prog 60 #[svV r, .func (.func 93) #[] #[.pointer (some ⟨gb, 0, none⟩), .pointer (some ⟨gl, 0, none⟩)]] w fun e w' => e = .returned (.int .i64 (match ms.findIdx? fun m => overB b lim m.s.vol with | some i => ((i : Nat) : Int) | none => -1)) ∧ Below w.heap.size w w' := by
  obtain ⟨A, n, c⟩ := r
  have hn := hr.len
  simp only at hn
  subst hn
  have hmax := hr.max
  simp only at hmax
  simp only [svV]
  refine enter Tryd.func60 rfl Tryd.ntmps60 rfl ?_; simp only [frame, Nat.zero_add, Nat.reduceAdd]
  repeat (first | (refine M0 ?_; first | refine O0 ?_ | refine z1 tok rfl ?_ | refine O1 rfl ?_ rfl | refine O2 rfl ?_ | refine O3 rfl ?_ rfl | refine O4 rfl rfl rfl (fun _ _ => ?_) | refine O5 tok rfl rfl rfl (fun _ _ => ?_) | refine U0 _ (U2 rfl) rfl ?_ | refine U0 _ (U3 tok rfl rfl rfl rfl rfl) rfl ?_ | refine z3 tok rfl ?_ | refine U0 _ (U4 rfl rfl) rfl ?_ | refine U0 _ (U5 rfl rfl) rfl ?_) | (refine M1 ?_; first | refine J0 ?_ | refine J1 ?_ | refine J2 mixed rfl (by kernel_rfl) ?_ | refine J3 mixed rfl rfl (by kernel_rfl) ?_ | refine J4 ?_ | refine J5 ?_ | refine J6 ?_ | refine J7 ?_ | refine J8 rfl ?_ | refine J9 rfl ?_) | (refine M2 ?_; first | refine I0 ?_ | refine I1 ?_ | refine I2 ?_ | refine I3 ?_ | refine I4 ?_ | refine I5 ?_ | refine I6 rfl ?_ | refine I7 ?_ | refine I8 ?_ | refine z4 ?_) | (refine M3 ?_; first | refine O6 ?_ | refine z2 tok rfl ?_ | refine O8 rfl ?_ | refine O7 rfl ?_ rfl | refine O9 rfl ?_ rfl | refine U1 _ (U4 rfl rfl) rfl ?_ | refine U1 _ (U5 rfl rfl) rfl ?_ | refine U1 _ (U2 rfl) rfl ?_ | refine U1 _ (U3 tok rfl rfl rfl rfl rfl) rfl ?_) | (refine M4 ?_; first | refine M6 ?_ | refine U6 rfl (by kernel_rfl) ?_ | refine U7 (by kernel_rfl) ?_) | (refine M5 ?_; first | exact M7 | refine U8 rfl ?_ | refine U9 rfl rfl ?_ ?_))
  refine XC.loopk [0, 1, 7] rfl (fun k : Nat => [(8, .int .i64 (k : Nat))]) (fun _ => []) (fun _ => w) (fun k => k ≤ ms.length ∧ ∀ j m, j < k → ms[j]? = some m → overB b lim m.s.vol = false) (fun k => ms.length - k) 0 ⟨Nat.zero_le _, fun j m h => absurd h (by omega)⟩ (by repeat (first | exact Sub.nil | refine Sub.cons rfl ?_)) (fun _ h => h) ?_
  rintro k ⟨hk, h0⟩
  dsimp only [List.cons_append, List.nil_append]
  repeat (first | (refine M0 ?_; first | refine O0 ?_ | refine z1 tok rfl ?_ | refine O1 rfl ?_ rfl | refine O2 rfl ?_ | refine O3 rfl ?_ rfl | refine O4 rfl rfl rfl (fun _ _ => ?_) | refine O5 tok rfl rfl rfl (fun _ _ => ?_) | refine U0 _ (U2 rfl) rfl ?_ | refine U0 _ (U3 tok rfl rfl rfl rfl rfl) rfl ?_ | refine z3 tok rfl ?_ | refine U0 _ (U4 rfl rfl) rfl ?_ | refine U0 _ (U5 rfl rfl) rfl ?_) | (refine M1 ?_; first | refine J0 ?_ | refine J1 ?_ | refine J2 mixed rfl (by kernel_rfl) ?_ | refine J3 mixed rfl rfl (by kernel_rfl) ?_ | refine J4 ?_ | refine J5 ?_ | refine J6 ?_ | refine J7 ?_ | refine J8 rfl ?_ | refine J9 rfl ?_) | (refine M2 ?_; first | refine I0 ?_ | refine I1 ?_ | refine I2 ?_ | refine I3 ?_ | refine I4 ?_ | refine I5 ?_ | refine I6 rfl ?_ | refine I7 ?_ | refine I8 ?_ | refine z4 ?_) | (refine M3 ?_; first | refine O6 ?_ | refine z2 tok rfl ?_ | refine O8 rfl ?_ | refine O7 rfl ?_ rfl | refine O9 rfl ?_ rfl | refine U1 _ (U4 rfl rfl) rfl ?_ | refine U1 _ (U5 rfl rfl) rfl ?_ | refine U1 _ (U2 rfl) rfl ?_ | refine U1 _ (U3 tok rfl rfl rfl rfl rfl) rfl ?_) | (refine M4 ?_; first | refine M6 ?_ | refine U6 rfl (by kernel_rfl) ?_ | refine U7 (by kernel_rfl) ?_) | (refine M5 ?_; first | exact M7 | refine U8 rfl ?_ | refine U9 rfl rfl ?_ ?_))
  refine XC.cond _ rfl (fun h3 => ?_) (fun h3 => ?_)
  · have hkn : k < ms.length := by simpa using h3
    obtain ⟨ad, rfl, hlt, _⟩ := hr.rd.at_ (by simp only; omega)
    have hmk : ms[k]? = some ms[k] := List.getElem?_eq_getElem hkn
    have hcell := hr.mom hmk
    have hvk := hv ms[k] (List.getElem_mem hkn)
    repeat (first | (refine M0 ?_; first | refine O0 ?_ | refine z1 tok rfl ?_ | refine O1 rfl ?_ rfl | refine O2 rfl ?_ | refine O3 rfl ?_ rfl | refine U0 _ (Ev.load_old_agg tok ms[k].c rfl rfl rfl (add_lt hlt) hcell) rfl ?_ | refine U0 _ (Ev.callv (f := 93) (fst := []) (cap := [.pointer (some ⟨gb, 0, none⟩), .pointer (some ⟨gl, 0, none⟩)]) (ck rfl) rfl rfl (fun w S => (passed1_any (p := p) (b := b) (lim := lim) (m := ms[k]) ((S.toBelow.block gb (Array.getElem?_eq_some_iff.1 h1).1).trans h1) ((S.toBelow.block gl (Array.getElem?_eq_some_iff.1 h2).1).trans h2) (hb.sys S) ho hvk hl :))) rfl ?_ | refine O4 rfl rfl rfl (fun _ _ => ?_) | refine O5 tok rfl rfl rfl (fun _ _ => ?_) | refine U0 _ (U2 rfl) rfl ?_ | refine U0 _ (U3 tok rfl rfl rfl rfl rfl) rfl ?_ | refine z3 tok rfl ?_ | refine U0 _ (U4 rfl rfl) rfl ?_ | refine U0 _ (U5 rfl rfl) rfl ?_) | (refine M1 ?_; first | refine J0 ?_ | refine J1 ?_ | refine J2 mixed rfl (by kernel_rfl) ?_ | refine J3 mixed rfl rfl (by kernel_rfl) ?_ | refine J4 ?_ | refine J5 ?_ | refine J6 ?_ | refine J7 ?_ | refine J8 rfl ?_ | refine J9 rfl ?_) | (refine M2 ?_; first | refine I0 ?_ | refine I1 ?_ | refine I2 ?_ | refine I3 ?_ | refine I4 ?_ | refine I5 ?_ | refine I6 rfl ?_ | refine I7 ?_ | refine I8 ?_ | refine z4 ?_) | (refine M3 ?_; first | refine O6 ?_ | refine z2 tok rfl ?_ | refine O8 rfl ?_ | refine O7 rfl ?_ rfl | refine O9 rfl ?_ rfl | refine U1 _ (Ev.load_old_agg tok ms[k].c rfl rfl rfl (add_lt hlt) hcell) rfl ?_ | refine U1 _ (Ev.callv (f := 93) (fst := []) (cap := [.pointer (some ⟨gb, 0, none⟩), .pointer (some ⟨gl, 0, none⟩)]) (ck rfl) rfl rfl (fun w S => (passed1_any (p := p) (b := b) (lim := lim) (m := ms[k]) ((S.toBelow.block gb (Array.getElem?_eq_some_iff.1 h1).1).trans h1) ((S.toBelow.block gl (Array.getElem?_eq_some_iff.1 h2).1).trans h2) (hb.sys S) ho hvk hl :))) rfl ?_ | refine U1 _ (U4 rfl rfl) rfl ?_ | refine U1 _ (U5 rfl rfl) rfl ?_ | refine U1 _ (U2 rfl) rfl ?_ | refine U1 _ (U3 tok rfl rfl rfl rfl rfl) rfl ?_) | (refine M4 ?_; first | refine M6 ?_ | refine U6 rfl (by kernel_rfl) ?_ | refine U7 (by kernel_rfl) ?_) | (refine M5 ?_; first | exact M7 | refine U8 rfl ?_ | refine U9 rfl rfl ?_ ?_))
    refine XC.cond _ rfl (fun h4 => ?_) (fun h4 => ?_)
    · repeat (first | (refine M0 ?_; first | refine O0 ?_ | refine z1 tok rfl ?_ | refine O1 rfl ?_ rfl | refine O2 rfl ?_ | refine O3 rfl ?_ rfl | refine O4 rfl rfl rfl (fun _ _ => ?_) | refine O5 tok rfl rfl rfl (fun _ _ => ?_) | refine U0 _ (U2 rfl) rfl ?_ | refine U0 _ (U3 tok rfl rfl rfl rfl rfl) rfl ?_ | refine z3 tok rfl ?_ | refine U0 _ (U4 rfl rfl) rfl ?_ | refine U0 _ (U5 rfl rfl) rfl ?_) | (refine M1 ?_; first | refine J0 ?_ | refine J1 ?_ | refine J2 mixed rfl (by kernel_rfl) ?_ | refine J3 mixed rfl rfl (by kernel_rfl) ?_ | refine J4 ?_ | refine J5 ?_ | refine J6 ?_ | refine J7 ?_ | refine J8 rfl ?_ | refine J9 rfl ?_) | (refine M2 ?_; first | refine I0 ?_ | refine I1 ?_ | refine I2 ?_ | refine I3 ?_ | refine I4 ?_ | refine I5 ?_ | refine I6 rfl ?_ | refine I7 ?_ | refine I8 ?_ | refine z4 ?_) | (refine M3 ?_; first | refine O6 ?_ | refine z2 tok rfl ?_ | refine O8 rfl ?_ | refine O7 rfl ?_ rfl | refine O9 rfl ?_ rfl | refine U1 _ (U4 rfl rfl) rfl ?_ | refine U1 _ (U5 rfl rfl) rfl ?_ | refine U1 _ (U2 rfl) rfl ?_ | refine U1 _ (U3 tok rfl rfl rfl rfl rfl) rfl ?_) | (refine M4 ?_; first | refine M6 ?_ | refine U6 rfl (by kernel_rfl) ?_ | refine U7 (by kernel_rfl) ?_) | (refine M5 ?_; first | exact M7 | refine U8 rfl ?_ | refine U9 rfl rfl ?_ ?_))
      refine XE.retg tok Tryd.results60 rfl (by simp only [and_self, and_true]) (fun w' S => ?_)
      have : ms.findIdx? (fun m => overB b lim m.s.vol) = some k := by
        rw [List.findIdx?_eq_some_iff_getElem]
        exact ⟨hkn, h4, fun j hj => by simpa using h0 j _ hj (List.getElem?_eq_getElem (by omega))⟩
      rw [this]
      exact ⟨rfl, S.toBelow⟩
    · repeat (first | (refine M0 ?_; first | refine O0 ?_ | refine z1 tok rfl ?_ | refine O1 rfl ?_ rfl | refine O2 rfl ?_ | refine O3 rfl ?_ rfl | refine O4 rfl rfl rfl (fun _ _ => ?_) | refine O5 tok rfl rfl rfl (fun _ _ => ?_) | refine U0 _ (U2 rfl) rfl ?_ | refine U0 _ (U3 tok rfl rfl rfl rfl rfl) rfl ?_ | refine z3 tok rfl ?_ | refine U0 _ (U4 rfl rfl) rfl ?_ | refine U0 _ (U5 rfl rfl) rfl ?_) | (refine M1 ?_; first | refine J0 ?_ | refine J1 ?_ | refine J2 mixed rfl (by kernel_rfl) ?_ | refine J3 mixed rfl rfl (by kernel_rfl) ?_ | refine J4 ?_ | refine J5 ?_ | refine J6 ?_ | refine J7 ?_ | refine J8 rfl ?_ | refine J9 rfl ?_) | (refine M2 ?_; first | refine I0 ?_ | refine I1 ?_ | refine I2 ?_ | refine I3 ?_ | refine I4 ?_ | refine I5 ?_ | refine I6 rfl ?_ | refine I7 ?_ | refine I8 ?_ | refine z4 ?_) | (refine M3 ?_; first | refine O6 ?_ | refine z2 tok rfl ?_ | refine O8 rfl ?_ | refine O7 rfl ?_ rfl | refine O9 rfl ?_ rfl | refine U1 _ (U4 rfl rfl) rfl ?_ | refine U1 _ (U5 rfl rfl) rfl ?_ | refine U1 _ (U2 rfl) rfl ?_ | refine U1 _ (U3 tok rfl rfl rfl rfl rfl) rfl ?_) | (refine M4 ?_; first | refine M6 ?_ | refine U6 rfl (by kernel_rfl) ?_ | refine U7 (by kernel_rfl) ?_) | (refine M5 ?_; first | exact M7 | refine U8 rfl ?_ | refine U9 rfl rfl ?_ ?_))
      refine XE.round (k + 1) ⟨hkn, fun j m hj hm => ?_⟩ (by omega) (by repeat (first | exact Sub.nil | refine Sub.cons rfl ?_)) (fun _ h => h)
      rcases Nat.lt_or_ge j k with h5 | h5
      · exact h0 j m h5 hm
      · have : j = k := by omega
        subst this
        rw [hmk] at hm
        cases hm
        exact h4
  · have hkn : ¬ k < ms.length := by simpa using h3
    repeat (first | (refine M0 ?_; first | refine O0 ?_ | refine z1 tok rfl ?_ | refine O1 rfl ?_ rfl | refine O2 rfl ?_ | refine O3 rfl ?_ rfl | refine O4 rfl rfl rfl (fun _ _ => ?_) | refine O5 tok rfl rfl rfl (fun _ _ => ?_) | refine U0 _ (U2 rfl) rfl ?_ | refine U0 _ (U3 tok rfl rfl rfl rfl rfl) rfl ?_ | refine z3 tok rfl ?_ | refine U0 _ (U4 rfl rfl) rfl ?_ | refine U0 _ (U5 rfl rfl) rfl ?_) | (refine M1 ?_; first | refine J0 ?_ | refine J1 ?_ | refine J2 mixed rfl (by kernel_rfl) ?_ | refine J3 mixed rfl rfl (by kernel_rfl) ?_ | refine J4 ?_ | refine J5 ?_ | refine J6 ?_ | refine J7 ?_ | refine J8 rfl ?_ | refine J9 rfl ?_) | (refine M2 ?_; first | refine I0 ?_ | refine I1 ?_ | refine I2 ?_ | refine I3 ?_ | refine I4 ?_ | refine I5 ?_ | refine I6 rfl ?_ | refine I7 ?_ | refine I8 ?_ | refine z4 ?_) | (refine M3 ?_; first | refine O6 ?_ | refine z2 tok rfl ?_ | refine O8 rfl ?_ | refine O7 rfl ?_ rfl | refine O9 rfl ?_ rfl | refine U1 _ (U4 rfl rfl) rfl ?_ | refine U1 _ (U5 rfl rfl) rfl ?_ | refine U1 _ (U2 rfl) rfl ?_ | refine U1 _ (U3 tok rfl rfl rfl rfl rfl) rfl ?_) | (refine M4 ?_; first | refine M6 ?_ | refine U6 rfl (by kernel_rfl) ?_ | refine U7 (by kernel_rfl) ?_) | (refine M5 ?_; first | exact M7 | refine U8 rfl ?_ | refine U9 rfl rfl ?_ ?_))
    refine XE.retg tok Tryd.results60 rfl (by simp only [and_self, and_true]) (fun w' S => ?_)
    have : ms.findIdx? (fun m => overB b lim m.s.vol) = none := by
      rw [List.findIdx?_eq_none_iff]
      intro m hm
      obtain ⟨j, hj, e⟩ := List.mem_iff_getElem.1 hm
      exact h0 j m (by omega) (by rw [List.getElem?_eq_getElem hj, e])
    rw [this]
    exact ⟨rfl, S.toBelow⟩
/-- the first moment whose level is above lim. -/
def firstOver (b : Bas) (lim : Int) (ms : List Mom) : Nat := ms.findIdx fun m => overB b lim m.s.vol
theorem first_some {b : Bas} {lim : Int} {ms : List Mom} {i : Nat} (h : ms.findIdx? (fun m => overB b lim m.s.vol) = some i) : firstOver b lim ms = i ∧ i < ms.length := by
  have h1 := List.findIdx?_eq_some_iff_getElem.1 h
  obtain ⟨hi, h2, h3⟩ := h1
  refine ⟨?_, hi⟩
  unfold firstOver
  rw [List.findIdx_eq hi]
  exact ⟨h2, fun j hj => by simpa using h3 j hj⟩
theorem first_none {b : Bas} {lim : Int} {ms : List Mom} (h : ms.findIdx? (fun m => overB b lim m.s.vol) = none) : firstOver b lim ms = ms.length := by
  rw [List.findIdx?_eq_none_iff] at h
  unfold firstOver
  exact List.findIdx_eq_length.2 fun m hm => by simpa using h m hm
set_option maxHeartbeats 4000000 in
theorem passed_any {r : SV} {ms : List Mom} (hr : MomRow w (Lt w.heap.size) r ms) (hb : BasAt w w.heap.size p b) (ho : Ok b)
    (hv : ∀ m, m ∈ ms → (b.row 0).vol ≤ m.s.vol ∧ m.s.vol ≤ 1000000000) (hl : -20000 ≤ lim ∧ lim ≤ 20000) :
    Calls Tryd.prog 57 #[basV p b, svV r, .int .i64 lim] w fun e w' => e = .returned (.int .i64 ((firstOver b lim ms : Nat) : Int)) ∧ Below w.heap.size w w' := by
  have hmax := hr.max
  have hn := hr.len
  simp only [basV, basC, svV]
  refine enter Tryd.func57 rfl Tryd.ntmps57 rfl ?_; simp only [frame, Nat.zero_add, Nat.reduceAdd]
  repeat (first | (refine M0 ?_; first | refine O0 ?_ | refine z1 tok rfl ?_ | refine O1 rfl ?_ rfl | refine O2 rfl ?_ | refine O3 rfl ?_ rfl | refine U0 _ (Ev.makeFunc rfl rfl) rfl ?_ | refine O4 rfl rfl rfl (fun _ _ => ?_) | refine O5 tok rfl rfl rfl (fun _ _ => ?_) | refine U0 _ (U2 rfl) rfl ?_ | refine U0 _ (U3 tok rfl rfl rfl rfl rfl) rfl ?_ | refine z3 tok rfl ?_ | refine U0 _ (U4 rfl rfl) rfl ?_ | refine U0 _ (U5 rfl rfl) rfl ?_) | (refine M1 ?_; first | refine J0 ?_ | refine J1 ?_ | refine J2 mixed rfl (by kernel_rfl) ?_ | refine J3 mixed rfl rfl (by kernel_rfl) ?_ | refine J4 ?_ | refine J5 ?_ | refine J6 ?_ | refine J7 ?_ | refine J8 rfl ?_ | refine J9 rfl ?_) | (refine M2 ?_; first | refine I0 ?_ | refine I1 ?_ | refine I2 ?_ | refine I3 ?_ | refine I4 ?_ | refine I5 ?_ | refine I6 rfl ?_ | refine I7 ?_ | refine I8 ?_ | refine z4 ?_) | (refine M3 ?_; first | refine O6 ?_ | refine z2 tok rfl ?_ | refine O8 rfl ?_ | refine O7 rfl ?_ rfl | refine O9 rfl ?_ rfl | refine U1 _ (Ev.makeFunc rfl rfl) rfl ?_ | refine U1 _ (U4 rfl rfl) rfl ?_ | refine U1 _ (U5 rfl rfl) rfl ?_ | refine U1 _ (U2 rfl) rfl ?_ | refine U1 _ (U3 tok rfl rfl rfl rfl rfl) rfl ?_) | (refine M4 ?_; first | refine M6 ?_ | refine U6 rfl (by kernel_rfl) ?_ | refine U7 (by kernel_rfl) ?_) | (refine M5 ?_; first | exact M7 | refine U8 rfl ?_ | refine U9 rfl rfl ?_ ?_))
  rename_i g3 hg3 g5 hg5
  repeat (first | (refine M0 ?_; first | refine O0 ?_ | refine z1 tok rfl ?_ | refine O1 rfl ?_ rfl | refine O2 rfl ?_ | refine O3 rfl ?_ rfl | refine U0 _ (Ev.callv (f := 60) (fst := []) (cap := []) (ck rfl) rfl rfl (fun w S => (index_any (p := p) (b := b) (lim := lim) (gb := g3) (gl := g5) (r := r) (ms := ms) ⟨hr.rd.arg S, hr.max, fun m hm => ⟨(hr.ins m hm).1.arg S, (hr.ins m hm).2.arg S⟩⟩ (S.own (g3, _) (List.mem_cons_of_mem _ List.mem_cons_self)).2 (S.own (g5, _) List.mem_cons_self).2 (hb.sys S) ho hv hl :))) rfl ?_ | refine O4 rfl rfl rfl (fun _ _ => ?_) | refine O5 tok rfl rfl rfl (fun _ _ => ?_) | refine U0 _ (U2 rfl) rfl ?_ | refine U0 _ (U3 tok rfl rfl rfl rfl rfl) rfl ?_ | refine z3 tok rfl ?_ | refine U0 _ (U4 rfl rfl) rfl ?_ | refine U0 _ (U5 rfl rfl) rfl ?_) | (refine M1 ?_; first | refine J0 ?_ | refine J1 ?_ | refine J2 mixed rfl (by kernel_rfl) ?_ | refine J3 mixed rfl rfl (by kernel_rfl) ?_ | refine J4 ?_ | refine J5 ?_ | refine J6 ?_ | refine J7 ?_ | refine J8 rfl ?_ | refine J9 rfl ?_) | (refine M2 ?_; first | refine I0 ?_ | refine I1 ?_ | refine I2 ?_ | refine I3 ?_ | refine I4 ?_ | refine I5 ?_ | refine I6 rfl ?_ | refine I7 ?_ | refine I8 ?_ | refine z4 ?_) | (refine M3 ?_; first | refine O6 ?_ | refine z2 tok rfl ?_ | refine O8 rfl ?_ | refine O7 rfl ?_ rfl | refine O9 rfl ?_ rfl | refine U1 _ (Ev.callv (f := 60) (fst := []) (cap := []) (ck rfl) rfl rfl (fun w S => (index_any (p := p) (b := b) (lim := lim) (gb := g3) (gl := g5) (r := r) (ms := ms) ⟨hr.rd.arg S, hr.max, fun m hm => ⟨(hr.ins m hm).1.arg S, (hr.ins m hm).2.arg S⟩⟩ (S.own (g3, _) (List.mem_cons_of_mem _ List.mem_cons_self)).2 (S.own (g5, _) List.mem_cons_self).2 (hb.sys S) ho hv hl :))) rfl ?_ | refine U1 _ (U4 rfl rfl) rfl ?_ | refine U1 _ (U5 rfl rfl) rfl ?_ | refine U1 _ (U2 rfl) rfl ?_ | refine U1 _ (U3 tok rfl rfl rfl rfl rfl) rfl ?_) | (refine M4 ?_; first | refine M6 ?_ | refine U6 rfl (by kernel_rfl) ?_ | refine U7 (by kernel_rfl) ?_) | (refine M5 ?_; first | exact M7 | refine U8 rfl ?_ | refine U9 rfl rfl ?_ ?_))
  cases hx : ms.findIdx? fun m => overB b lim m.s.vol with
  | none =>
    refine XC.cond_t rfl ?_
    repeat (first | (refine M0 ?_; first | refine O0 ?_ | refine z1 tok rfl ?_ | refine O1 rfl ?_ rfl | refine O2 rfl ?_ | refine O3 rfl ?_ rfl | refine O4 rfl rfl rfl (fun _ _ => ?_) | refine O5 tok rfl rfl rfl (fun _ _ => ?_) | refine U0 _ (U2 rfl) rfl ?_ | refine U0 _ (U3 tok rfl rfl rfl rfl rfl) rfl ?_ | refine z3 tok rfl ?_ | refine U0 _ (U4 rfl rfl) rfl ?_ | refine U0 _ (U5 rfl rfl) rfl ?_) | (refine M1 ?_; first | refine J0 ?_ | refine J1 ?_ | refine J2 mixed rfl (by kernel_rfl) ?_ | refine J3 mixed rfl rfl (by kernel_rfl) ?_ | refine J4 ?_ | refine J5 ?_ | refine J6 ?_ | refine J7 ?_ | refine J8 rfl ?_ | refine J9 rfl ?_) | (refine M2 ?_; first | refine I0 ?_ | refine I1 ?_ | refine I2 ?_ | refine I3 ?_ | refine I4 ?_ | refine I5 ?_ | refine I6 rfl ?_ | refine I7 ?_ | refine I8 ?_ | refine z4 ?_) | (refine M3 ?_; first | refine O6 ?_ | refine z2 tok rfl ?_ | refine O8 rfl ?_ | refine O7 rfl ?_ rfl | refine O9 rfl ?_ rfl | refine U1 _ (U4 rfl rfl) rfl ?_ | refine U1 _ (U5 rfl rfl) rfl ?_ | refine U1 _ (U2 rfl) rfl ?_ | refine U1 _ (U3 tok rfl rfl rfl rfl rfl) rfl ?_) | (refine M4 ?_; first | refine M6 ?_ | refine U6 rfl (by kernel_rfl) ?_ | refine U7 (by kernel_rfl) ?_) | (refine M5 ?_; first | exact M7 | refine U8 rfl ?_ | refine U9 rfl rfl ?_ ?_))
    refine XE.retg tok Tryd.results57 rfl (by simp only [and_self, and_true]) (fun w' S => ?_)
    rw [first_none hx, ← hn]
    exact ⟨rfl, S.toBelow⟩
  | some i =>
    obtain ⟨e1, e2⟩ := first_some hx
    refine XC.cond _ rfl (fun h4 => absurd h4 (by simp)) (fun h4 => ?_)
    repeat (first | (refine M0 ?_; first | refine O0 ?_ | refine z1 tok rfl ?_ | refine O1 rfl ?_ rfl | refine O2 rfl ?_ | refine O3 rfl ?_ rfl | refine O4 rfl rfl rfl (fun _ _ => ?_) | refine O5 tok rfl rfl rfl (fun _ _ => ?_) | refine U0 _ (U2 rfl) rfl ?_ | refine U0 _ (U3 tok rfl rfl rfl rfl rfl) rfl ?_ | refine z3 tok rfl ?_ | refine U0 _ (U4 rfl rfl) rfl ?_ | refine U0 _ (U5 rfl rfl) rfl ?_) | (refine M1 ?_; first | refine J0 ?_ | refine J1 ?_ | refine J2 mixed rfl (by kernel_rfl) ?_ | refine J3 mixed rfl rfl (by kernel_rfl) ?_ | refine J4 ?_ | refine J5 ?_ | refine J6 ?_ | refine J7 ?_ | refine J8 rfl ?_ | refine J9 rfl ?_) | (refine M2 ?_; first | refine I0 ?_ | refine I1 ?_ | refine I2 ?_ | refine I3 ?_ | refine I4 ?_ | refine I5 ?_ | refine I6 rfl ?_ | refine I7 ?_ | refine I8 ?_ | refine z4 ?_) | (refine M3 ?_; first | refine O6 ?_ | refine z2 tok rfl ?_ | refine O8 rfl ?_ | refine O7 rfl ?_ rfl | refine O9 rfl ?_ rfl | refine U1 _ (U4 rfl rfl) rfl ?_ | refine U1 _ (U5 rfl rfl) rfl ?_ | refine U1 _ (U2 rfl) rfl ?_ | refine U1 _ (U3 tok rfl rfl rfl rfl rfl) rfl ?_) | (refine M4 ?_; first | refine M6 ?_ | refine U6 rfl (by kernel_rfl) ?_ | refine U7 (by kernel_rfl) ?_) | (refine M5 ?_; first | exact M7 | refine U8 rfl ?_ | refine U9 rfl rfl ?_ ?_))
    refine XE.retg tok Tryd.results57 rfl (by simp only [and_self, and_true]) (fun w' S => ?_)
    rw [e1]
    exact ⟨rfl, S.toBelow⟩
end
/-- what Stay answers: the hour and the fault. -/
noncomputable def stayE (b : Bas) (s : Sta) (ts : List Tick) (lim : Int) : Int := if runE b s ts ≠ 0 then runE b s ts else if outB lim (b.row 0).level 20000 = true then 7 else 0
noncomputable def stayN (b : Bas) (s : Sta) (ts : List Tick) (lim : Int) : Int := if stayE b s ts lim ≠ 0 then 0 else (((momsAt b s ts ts.length).findIdx fun x => overB b lim x.1.vol : Nat) : Int)
theorem stay_run {b : Bas} {s : Sta} {ts : List Tick} {lim : Int} (h : runE b s ts ≠ 0) : stayE b s ts lim = runE b s ts ∧ stayN b s ts lim = 0 := by
  have : stayE b s ts lim = runE b s ts := by unfold stayE; rw [if_pos h]
  exact ⟨this, by unfold stayN; rw [this, if_pos h]⟩
theorem stay_out {b : Bas} {s : Sta} {ts : List Tick} {lim : Int} (h : runE b s ts = 0) (h1 : outB lim (b.row 0).level 20000 = true) : stayE b s ts lim = 7 ∧ stayN b s ts lim = 0 := by
  have : stayE b s ts lim = 7 := by unfold stayE; rw [if_neg (by simp [h]), if_pos h1]
  exact ⟨this, by unfold stayN; rw [this, if_pos (by decide)]⟩
theorem stay_in {b : Bas} {s : Sta} {ts : List Tick} {lim : Int} (h : runE b s ts = 0) (h1 : outB lim (b.row 0).level 20000 = false) : stayE b s ts lim = 0 ∧ stayN b s ts lim = (((momsAt b s ts ts.length).findIdx fun x => overB b lim x.1.vol : Nat) : Int) := by
  have : stayE b s ts lim = 0 := by unfold stayE; rw [if_neg (by simp [h]), if_neg (by simp [h1])]
  exact ⟨this, by unfold stayN; rw [this, if_neg (by simp)]⟩
theorem momsAt_ok {b : Bas} {s : Sta} {ts : List Tick} (ho : Ok b) (hs : StaOk b s) (h : ∀ k, k < ts.length → errAt b s ts k = 0) {ms : List Mom} (hms : ms.map Mom.p = momsAt b s ts ts.length) : ∀ m, m ∈ ms → (b.row 0).vol ≤ m.s.vol ∧ m.s.vol ≤ 1000000000 := by
  intro m hm
  have h1 : m.p ∈ momsAt b s ts ts.length := by rw [← hms]; exact List.mem_map.2 ⟨m, hm, rfl⟩
  unfold momsAt at h1
  obtain ⟨i, hi, e⟩ := List.mem_map.1 h1
  have hi' : i < ts.length := by simpa using hi
  have := (staAt_ok ho hs (ts := ts) (i + 1) fun j hj => h j (by omega)).vol
  have e2 : staAt b s ts (i + 1) = m.s := congrArg Prod.fst e
  rw [e2] at this
  exact this
theorem first_moms {b : Bas} {s : Sta} {ts : List Tick} {lim : Int} {ms : List Mom} (hms : ms.map Mom.p = momsAt b s ts ts.length) : firstOver b lim ms = (momsAt b s ts ts.length).findIdx fun x => overB b lim x.1.vol := by
  rw [← hms, List.findIdx_map]
  rfl
set_option maxHeartbeats 8000000 in
theorem Stay_any {p : BV} {b : Bas} {q r : SV} {s : Sta} {ts : List Tick} {lim : Int} {w : World} (hL : Laid w) (hb : BasAt w w.heap.size p b) (hq : IntsAt w (Lt w.heap.size) q s.fil) (ht : TksAt w (Lt w.heap.size) r ts) :
    Calls Tryd.prog 27 #[basV p b, staV q s, svV r, .int .i64 lim] w fun e w' => e = .returned (.tuple ⟨[.int .i64 (stayN b s ts lim), .int .i64 (stayE b s ts lim)]⟩) ∧ Below w.heap.size w w' := by
  simp only [basV, basC, staV, staC, svV]
  refine enter Tryd.func27 rfl Tryd.ntmps27 rfl ?_; simp only [frame, Nat.zero_add, Nat.reduceAdd]
  repeat (first | (refine M0 ?_; first | refine O0 ?_ | refine z1 tok rfl ?_ | refine O1 rfl ?_ rfl | refine O2 rfl ?_ | refine O3 rfl ?_ rfl | refine O4 rfl rfl rfl (fun _ _ => ?_) | refine O5 tok rfl rfl rfl (fun _ _ => ?_) | refine U0 _ (U2 rfl) rfl ?_ | refine U0 _ (U3 tok rfl rfl rfl rfl rfl) rfl ?_ | refine z3 tok rfl ?_ | refine U0 _ (U4 rfl rfl) rfl ?_ | refine U0 _ (U5 rfl rfl) rfl ?_) | (refine M1 ?_; first | refine J0 ?_ | refine J1 ?_ | refine J2 mixed rfl (by kernel_rfl) ?_ | refine J3 mixed rfl rfl (by kernel_rfl) ?_ | refine J4 ?_ | refine J5 ?_ | refine J6 ?_ | refine J7 ?_ | refine J8 rfl ?_ | refine J9 rfl ?_) | (refine M2 ?_; first | refine I0 ?_ | refine I1 ?_ | refine I2 ?_ | refine I3 ?_ | refine I4 ?_ | refine I5 ?_ | refine I6 rfl ?_ | refine I7 ?_ | refine I8 ?_ | refine z4 ?_) | (refine M3 ?_; first | refine O6 ?_ | refine z2 tok rfl ?_ | refine O8 rfl ?_ | refine O7 rfl ?_ rfl | refine O9 rfl ?_ rfl | refine U1 _ (U4 rfl rfl) rfl ?_ | refine U1 _ (U5 rfl rfl) rfl ?_ | refine U1 _ (U2 rfl) rfl ?_ | refine U1 _ (U3 tok rfl rfl rfl rfl rfl) rfl ?_) | (refine M4 ?_; first | refine M6 ?_ | refine U6 rfl (by kernel_rfl) ?_ | refine U7 (by kernel_rfl) ?_) | (refine M5 ?_; first | exact M7 | refine U8 rfl ?_ | refine U9 rfl rfl ?_ ?_))
  refine XL.call (fst := []) (cap := []) (ck rfl) rfl rfl rfl (List.Sublist.refl _) (fun w1 v w2 => RunR b s ts w1 v w2)
    (fun w1 S1 => (run_any (p := p) (q := q) (r := r) (hL.below S1.toBelow) (hb.sys S1) (hq.arg S1) (ht.arg S1)).mono fun e w' ⟨v, h, h4⟩ => ⟨v, h, h4, h4.2⟩) (fun w1 v w2 S1 hR hB S2 => ?_)
  rcases hR.1 with ⟨h1, rfl⟩ | ⟨h1, hE, h3, h4, rm, ms, rfl, hrow, hms⟩
  · repeat (first | (refine M0 ?_; first | refine O0 ?_ | refine z1 tok rfl ?_ | refine O1 rfl ?_ rfl | refine O2 rfl ?_ | refine O3 rfl ?_ rfl | refine O4 rfl rfl rfl (fun _ _ => ?_) | refine O5 tok rfl rfl rfl (fun _ _ => ?_) | refine U0 _ (U2 rfl) rfl ?_ | refine U0 _ (U3 tok rfl rfl rfl rfl rfl) rfl ?_ | refine z3 tok rfl ?_ | refine U0 _ (U4 rfl rfl) rfl ?_ | refine U0 _ (U5 rfl rfl) rfl ?_) | (refine M1 ?_; first | refine J0 ?_ | refine J1 ?_ | refine J2 mixed rfl (by kernel_rfl) ?_ | refine J3 mixed rfl rfl (by kernel_rfl) ?_ | refine J4 ?_ | refine J5 ?_ | refine J6 ?_ | refine J7 ?_ | refine J8 rfl ?_ | refine J9 rfl ?_) | (refine M2 ?_; first | refine I0 ?_ | refine I1 ?_ | refine I2 ?_ | refine I3 ?_ | refine I4 ?_ | refine I5 ?_ | refine I6 rfl ?_ | refine I7 ?_ | refine I8 ?_ | refine z4 ?_) | (refine M3 ?_; first | refine O6 ?_ | refine z2 tok rfl ?_ | refine O8 rfl ?_ | refine O7 rfl ?_ rfl | refine O9 rfl ?_ rfl | refine U1 _ (U4 rfl rfl) rfl ?_ | refine U1 _ (U5 rfl rfl) rfl ?_ | refine U1 _ (U2 rfl) rfl ?_ | refine U1 _ (U3 tok rfl rfl rfl rfl rfl) rfl ?_) | (refine M4 ?_; first | refine M6 ?_ | refine U6 rfl (by kernel_rfl) ?_ | refine U7 (by kernel_rfl) ?_) | (refine M5 ?_; first | exact M7 | refine U8 rfl ?_ | refine U9 rfl rfl ?_ ?_))
    refine XC.cond _ rfl (fun h5 => ?_) (fun h5 => absurd h1 (by simpa using h5))
    repeat (first | (refine M0 ?_; first | refine O0 ?_ | refine z1 tok rfl ?_ | refine O1 rfl ?_ rfl | refine O2 rfl ?_ | refine O3 rfl ?_ rfl | refine O4 rfl rfl rfl (fun _ _ => ?_) | refine O5 tok rfl rfl rfl (fun _ _ => ?_) | refine U0 _ (U2 rfl) rfl ?_ | refine U0 _ (U3 tok rfl rfl rfl rfl rfl) rfl ?_ | refine z3 tok rfl ?_ | refine U0 _ (U4 rfl rfl) rfl ?_ | refine U0 _ (U5 rfl rfl) rfl ?_) | (refine M1 ?_; first | refine J0 ?_ | refine J1 ?_ | refine J2 mixed rfl (by kernel_rfl) ?_ | refine J3 mixed rfl rfl (by kernel_rfl) ?_ | refine J4 ?_ | refine J5 ?_ | refine J6 ?_ | refine J7 ?_ | refine J8 rfl ?_ | refine J9 rfl ?_) | (refine M2 ?_; first | refine I0 ?_ | refine I1 ?_ | refine I2 ?_ | refine I3 ?_ | refine I4 ?_ | refine I5 ?_ | refine I6 rfl ?_ | refine I7 ?_ | refine I8 ?_ | refine z4 ?_) | (refine M3 ?_; first | refine O6 ?_ | refine z2 tok rfl ?_ | refine O8 rfl ?_ | refine O7 rfl ?_ rfl | refine O9 rfl ?_ rfl | refine U1 _ (U4 rfl rfl) rfl ?_ | refine U1 _ (U5 rfl rfl) rfl ?_ | refine U1 _ (U2 rfl) rfl ?_ | refine U1 _ (U3 tok rfl rfl rfl rfl rfl) rfl ?_) | (refine M4 ?_; first | refine M6 ?_ | refine U6 rfl (by kernel_rfl) ?_ | refine U7 (by kernel_rfl) ?_) | (refine M5 ?_; first | exact M7 | refine U8 rfl ?_ | refine U9 rfl rfl ?_ ?_))
    refine XE.retg tok Tryd.results27 rfl (by simp only [and_self, and_true]) (fun w' S => ?_)
    obtain ⟨e1, e2⟩ := stay_run (lim := lim) h1
    rw [e1, e2]
    exact ⟨rfl, S2.toBelow.trans S.toBelow⟩
  · obtain ⟨ho, hs⟩ := staOk_of hE
    have hbb := hb.below S2.toBelow
    simp only [svV]
    repeat (first | (refine M0 ?_; first | refine O0 ?_ | refine z1 tok rfl ?_ | refine O1 rfl ?_ rfl | refine O2 rfl ?_ | refine O3 rfl ?_ rfl | refine U0 _ (Ev.call (f := 56) (ck rfl) rfl (fun w S => (beyond_any (p := p) (hbb.sys S) ho.rowsOk lim :))) rfl ?_ | refine O4 rfl rfl rfl (fun _ _ => ?_) | refine O5 tok rfl rfl rfl (fun _ _ => ?_) | refine U0 _ (U2 rfl) rfl ?_ | refine U0 _ (U3 tok rfl rfl rfl rfl rfl) rfl ?_ | refine z3 tok rfl ?_ | refine U0 _ (U4 rfl rfl) rfl ?_ | refine U0 _ (U5 rfl rfl) rfl ?_) | (refine M1 ?_; first | refine J0 ?_ | refine J1 ?_ | refine J2 mixed rfl (by kernel_rfl) ?_ | refine J3 mixed rfl rfl (by kernel_rfl) ?_ | refine J4 ?_ | refine J5 ?_ | refine J6 ?_ | refine J7 ?_ | refine J8 rfl ?_ | refine J9 rfl ?_) | (refine M2 ?_; first | refine I0 ?_ | refine I1 ?_ | refine I2 ?_ | refine I3 ?_ | refine I4 ?_ | refine I5 ?_ | refine I6 rfl ?_ | refine I7 ?_ | refine I8 ?_ | refine z4 ?_) | (refine M3 ?_; first | refine O6 ?_ | refine z2 tok rfl ?_ | refine O8 rfl ?_ | refine O7 rfl ?_ rfl | refine O9 rfl ?_ rfl | refine U1 _ (Ev.call (f := 56) (ck rfl) rfl (fun w S => (beyond_any (p := p) (hbb.sys S) ho.rowsOk lim :))) rfl ?_ | refine U1 _ (U4 rfl rfl) rfl ?_ | refine U1 _ (U5 rfl rfl) rfl ?_ | refine U1 _ (U2 rfl) rfl ?_ | refine U1 _ (U3 tok rfl rfl rfl rfl rfl) rfl ?_) | (refine M4 ?_; first | refine M6 ?_ | refine U6 rfl (by kernel_rfl) ?_ | refine U7 (by kernel_rfl) ?_) | (refine M5 ?_; first | exact M7 | refine U8 rfl ?_ | refine U9 rfl rfl ?_ ?_))
    refine XC.cond _ rfl (fun h5 => ?_) (fun h5 => ?_)
    · repeat (first | (refine M0 ?_; first | refine O0 ?_ | refine z1 tok rfl ?_ | refine O1 rfl ?_ rfl | refine O2 rfl ?_ | refine O3 rfl ?_ rfl | refine O4 rfl rfl rfl (fun _ _ => ?_) | refine O5 tok rfl rfl rfl (fun _ _ => ?_) | refine U0 _ (U2 rfl) rfl ?_ | refine U0 _ (U3 tok rfl rfl rfl rfl rfl) rfl ?_ | refine z3 tok rfl ?_ | refine U0 _ (U4 rfl rfl) rfl ?_ | refine U0 _ (U5 rfl rfl) rfl ?_) | (refine M1 ?_; first | refine J0 ?_ | refine J1 ?_ | refine J2 mixed rfl (by kernel_rfl) ?_ | refine J3 mixed rfl rfl (by kernel_rfl) ?_ | refine J4 ?_ | refine J5 ?_ | refine J6 ?_ | refine J7 ?_ | refine J8 rfl ?_ | refine J9 rfl ?_) | (refine M2 ?_; first | refine I0 ?_ | refine I1 ?_ | refine I2 ?_ | refine I3 ?_ | refine I4 ?_ | refine I5 ?_ | refine I6 rfl ?_ | refine I7 ?_ | refine I8 ?_ | refine z4 ?_) | (refine M3 ?_; first | refine O6 ?_ | refine z2 tok rfl ?_ | refine O8 rfl ?_ | refine O7 rfl ?_ rfl | refine O9 rfl ?_ rfl | refine U1 _ (U4 rfl rfl) rfl ?_ | refine U1 _ (U5 rfl rfl) rfl ?_ | refine U1 _ (U2 rfl) rfl ?_ | refine U1 _ (U3 tok rfl rfl rfl rfl rfl) rfl ?_) | (refine M4 ?_; first | refine M6 ?_ | refine U6 rfl (by kernel_rfl) ?_ | refine U7 (by kernel_rfl) ?_) | (refine M5 ?_; first | exact M7 | refine U8 rfl ?_ | refine U9 rfl rfl ?_ ?_))
      refine XE.retg tok Tryd.results27 rfl (by simp only [and_self, and_true]) (fun w' S => ?_)
      obtain ⟨e1, e2⟩ := stay_out h1 h5
      rw [e1, e2]
      exact ⟨rfl, S2.toBelow.trans S.toBelow⟩
    · have h6 := outB_f.1 h5
      have h7 := ho.rowsOk.level 0 (by have := ho.rowsOk.n2; omega)
      have hl : -20000 ≤ lim ∧ lim ≤ 20000 := by omega
      have hk : Keep (Btw w1.heap.size w2.heap.size) w2 _ := Keep.made S1 (Nat.le_refl _)
      repeat (first | (refine M0 ?_; first | refine O0 ?_ | refine z1 tok rfl ?_ | refine O1 rfl ?_ rfl | refine O2 rfl ?_ | refine O3 rfl ?_ rfl | refine U0 _ (Ev.call (f := 57) (ck rfl) rfl (fun w S => (passed_any (p := p) (r := rm) (ms := ms) ⟨hrow.rd.sys S hk, hrow.max, fun m hm => ⟨(hrow.ins m hm).1.sys S hk, (hrow.ins m hm).2.sys S hk⟩⟩ (hbb.sys S) ho (momsAt_ok ho hs h4 hms) hl :))) rfl ?_ | refine O4 rfl rfl rfl (fun _ _ => ?_) | refine O5 tok rfl rfl rfl (fun _ _ => ?_) | refine U0 _ (U2 rfl) rfl ?_ | refine U0 _ (U3 tok rfl rfl rfl rfl rfl) rfl ?_ | refine z3 tok rfl ?_ | refine U0 _ (U4 rfl rfl) rfl ?_ | refine U0 _ (U5 rfl rfl) rfl ?_) | (refine M1 ?_; first | refine J0 ?_ | refine J1 ?_ | refine J2 mixed rfl (by kernel_rfl) ?_ | refine J3 mixed rfl rfl (by kernel_rfl) ?_ | refine J4 ?_ | refine J5 ?_ | refine J6 ?_ | refine J7 ?_ | refine J8 rfl ?_ | refine J9 rfl ?_) | (refine M2 ?_; first | refine I0 ?_ | refine I1 ?_ | refine I2 ?_ | refine I3 ?_ | refine I4 ?_ | refine I5 ?_ | refine I6 rfl ?_ | refine I7 ?_ | refine I8 ?_ | refine z4 ?_) | (refine M3 ?_; first | refine O6 ?_ | refine z2 tok rfl ?_ | refine O8 rfl ?_ | refine O7 rfl ?_ rfl | refine O9 rfl ?_ rfl | refine U1 _ (Ev.call (f := 57) (ck rfl) rfl (fun w S => (passed_any (p := p) (r := rm) (ms := ms) ⟨hrow.rd.sys S hk, hrow.max, fun m hm => ⟨(hrow.ins m hm).1.sys S hk, (hrow.ins m hm).2.sys S hk⟩⟩ (hbb.sys S) ho (momsAt_ok ho hs h4 hms) hl :))) rfl ?_ | refine U1 _ (U4 rfl rfl) rfl ?_ | refine U1 _ (U5 rfl rfl) rfl ?_ | refine U1 _ (U2 rfl) rfl ?_ | refine U1 _ (U3 tok rfl rfl rfl rfl rfl) rfl ?_) | (refine M4 ?_; first | refine M6 ?_ | refine U6 rfl (by kernel_rfl) ?_ | refine U7 (by kernel_rfl) ?_) | (refine M5 ?_; first | exact M7 | refine U8 rfl ?_ | refine U9 rfl rfl ?_ ?_))
      refine XE.retg tok Tryd.results27 rfl (by simp only [and_self, and_true]) (fun w' S => ?_)
      obtain ⟨e1, e2⟩ := stay_in h1 h5
      rw [e1, e2, ← first_moms hms]
      exact ⟨rfl, S2.toBelow.trans S.toBelow⟩
end Go.Proofs.YtoiepgcjinccpaaDoor.X
/-
  The example's basin in plain words.
-/
namespace Go.Proofs.YtoiepgcjinccpaaDoor.Bs
open Go.Proofs.YtoiepgcjinccpaaDoor.X
def exB : Bas := ⟨[⟨-1000, 0⟩, ⟨0, 1000000⟩, ⟨2000, 5000000⟩], 100, 3000, 500, [⟨⟨#[108, 111, 119]⟩, 200, 300, 50000⟩, ⟨⟨#[104, 105, 103, 104]⟩, 1000, 200, 400000⟩]⟩
def exS : Sta := ⟨1000000, [0, 0]⟩
def exT : Tick := ⟨2500, 60000, 0⟩
theorem all3 {P : Nat → Prop} (h0 : P 0) (h1 : P 1) (h2 : P 2) : ∀ j, j < 3 → P j := by
  intro j hj
  match j, hj with
  | 0, _ => exact h0
  | 1, _ => exact h1
  | 2, _ => exact h2
theorem all2 {P : Nat → Prop} (h0 : P 0) (h1 : P 1) : ∀ j, j < 2 → P j := by
  intro j hj
  match j, hj with
  | 0, _ => exact h0
  | 1, _ => exact h1
theorem ex_chk : chkE exB = 0 := by
  have h1 : firstN (rowErr exB) exB.rows.length = none := firstN_none (all3 (by kernel_rfl) (by kernel_rfl) (by kernel_rfl))
  have h2 : firstN (polErr exB) exB.pols.length = none := firstN_none (all2 (by kernel_rfl) (by kernel_rfl))
  have h3 : wide exB (great exB exB.pols.length) := fun i hi => by
    have : ∀ j, j < 2 → wideAt exB (great exB exB.pols.length) j := all2 (of_decide_eq_true (by kernel_rfl)) (of_decide_eq_true (by kernel_rfl))
    exact this i (by have : i + 1 < 3 := hi; omega)
  unfold chkE chk
  rw [if_neg (by decide), h1]
  simp only
  rw [if_neg (by decide), if_neg (by decide), h2]
  simp only
  rw [if_pos h3]
theorem ex_sta : staErr exB exS = 0 := staErr_ok ex_chk ⟨rfl, ⟨by decide, by decide⟩, fun i hi => (all2 (P := fun i => 0 ≤ exS.f i ∧ exS.f i ≤ (exB.pol i).room) (by decide) (by decide)) i hi⟩
theorem ex_step : stepE exB exS exT = 0 := by kernel_rfl
theorem ex_vol : (outS exB exS exT).vol = 1307000 := by kernel_rfl
theorem ex_leak : (outF exB exS exT).leak = 247000 := by kernel_rfl
def exTs : List Tick := [exT, exT, exT]
theorem ex_run : runE exB exS exTs = 0 := runE_none ex_sta (by decide) (badAt_none (all3 (by kernel_rfl) (by kernel_rfl) (by kernel_rfl)))
theorem ex_stayE : stayE exB exS exTs 285 = 0 := (stay_in ex_run (by decide)).1
theorem ex_stayN : stayN exB exS exTs 285 = 2 := (stay_in ex_run (by decide)).2.trans (by kernel_rfl)
end Go.Proofs.YtoiepgcjinccpaaDoor.Bs
/-
  The examples' functions; Volume at a level that is out of the basin; Awake.
-/
namespace Go.Proofs.YtoiepgcjinccpaaDoor.X
open Go Go.RowKit Go.Proofs.YtoiepgcjinccpaaDoor.Bs
set_option linter.unusedVariables false
structure BasAtP (w : World) (ok : Nat → Prop) (p : BV) (b : Bas) : Prop where
  rows : ReadsP w ok 2 p.A p.n (b.rows.flatMap rowC)
  pols : ReadsP w ok 4 p.A2 p.n2 (b.pols.flatMap polC)
  cap : p.n ≤ p.c
  len : p.n ≤ 9223372036854775807
  len2 : p.n2 ≤ 9223372036854775807
  names : ∀ q, q ∈ b.pols → q.name.size ≤ 9223372036854775807
section
variable {w w' w0 : World} {ok ok' : Nat → Prop} {B : Nat} {p : BV} {b : Bas} {L : Lo}
theorem BasAtP.keep (h : BasAtP w ok p b) (hk : ∀ k, ok k → w'.heap[k]? = w.heap[k]?) : BasAtP w' ok p b := ⟨h.rows.keep hk, h.pols.keep hk, h.cap, h.len, h.len2, h.names⟩
theorem BasAtP.mono (h : BasAtP w ok p b) (hk : ∀ k, ok k → ok' k) : BasAtP w ok' p b := ⟨h.rows.mono hk, h.pols.mono hk, h.cap, h.len, h.len2, h.names⟩
theorem BasAtP.to (h : BasAtP w (Lt B) p b) : BasAt w B p b := ⟨h.rows.to, h.pols.to, h.cap, h.len, h.len2, h.names⟩
theorem BasAtP.sys (h : BasAtP w0 ok p b) (S : Sys B w0 L w) (hk : Keep ok w0 L) : BasAt w w.heap.size p b := ((h.keep (hk.sys S)).mono (hk.lt S)).to
end
theorem ReadsP.block {w : World} {g lo n size : Nat} {ty : TypeId} {cs : List Value} (h : w.heap[g]? = some (cel ty cs)) (hg : lo ≤ g) (hl : cs.length = n * size) : ReadsP w (Btw lo w.heap.size) size (some ⟨g, 0, none⟩) n cs :=
  ⟨hl, fun _ => ⟨_, rfl, ⟨hg, (Array.getElem?_eq_some_iff.1 h).1⟩, fun j u hj => by rw [add_off]; simpa [World.cell?, h] using hj⟩⟩
set_option maxHeartbeats 4000000 in
theorem Basin_any (w : World) : Calls Tryd.prog 39 #[] w fun e w' => ∃ v, e = .returned v ∧ (∃ p, v = basV p exB ∧ BasAtP w' (Btw w.heap.size w'.heap.size) p exB) ∧ Below w.heap.size w w' := by
  refine enter Tryd.func39 rfl Tryd.ntmps39 rfl ?_; simp only [frame, Nat.zero_add, Nat.reduceAdd]
  repeat (first | (refine M0 ?_; first | refine O0 ?_ | refine z1 tok rfl ?_ | refine O1 rfl ?_ rfl | refine O2 rfl ?_ | refine O3 rfl ?_ rfl | refine O4 rfl rfl rfl (fun _ _ => ?_) | refine O5 tok rfl rfl rfl (fun _ _ => ?_) | refine U0 _ (U2 rfl) rfl ?_ | refine U0 _ (U3 tok rfl rfl rfl rfl rfl) rfl ?_ | refine z3 tok rfl ?_ | refine U0 _ (U4 rfl rfl) rfl ?_ | refine U0 _ (U5 rfl rfl) rfl ?_ | refine XL.buildSlice tok rfl rfl rfl rfl rfl rfl rfl rfl rfl (fun _ _ => ?_)) | (refine M1 ?_; first | refine J0 ?_ | refine J1 ?_ | refine J2 mixed rfl (by kernel_rfl) ?_ | refine J3 mixed rfl rfl (by kernel_rfl) ?_ | refine J4 ?_ | refine J5 ?_ | refine J6 ?_ | refine J7 ?_ | refine J8 rfl ?_ | refine J9 rfl ?_) | (refine M2 ?_; first | refine I0 ?_ | refine I1 ?_ | refine I2 ?_ | refine I3 ?_ | refine I4 ?_ | refine I5 ?_ | refine I6 rfl ?_ | refine I7 ?_ | refine I8 ?_ | refine z4 ?_) | (refine M3 ?_; first | refine O6 ?_ | refine z2 tok rfl ?_ | refine O8 rfl ?_ | refine O7 rfl ?_ rfl | refine O9 rfl ?_ rfl | refine U1 _ (U4 rfl rfl) rfl ?_ | refine U1 _ (U5 rfl rfl) rfl ?_ | refine U1 _ (U2 rfl) rfl ?_ | refine U1 _ (U3 tok rfl rfl rfl rfl rfl) rfl ?_) | (refine M4 ?_; first | refine M6 ?_ | refine U6 rfl (by kernel_rfl) ?_ | refine U7 (by kernel_rfl) ?_) | (refine M5 ?_; first | exact M7 | refine U8 rfl ?_ | refine U9 rfl rfl ?_ ?_))
  rename_i g0 hg0 g1 hg1 g2 hg2
  refine XE.retg tok Tryd.results39 rfl (by simp only [and_self, and_true]) (fun w' S => ?_)
  refine ⟨_, rfl, ⟨⟨some ⟨g1, 0, none⟩, 3, 3, some ⟨g2, 0, none⟩, 2, 2⟩, rfl, ?_⟩, S.toBelow⟩
  exact ⟨ReadsP.block (S.own (g1, _) (List.mem_cons_of_mem _ List.mem_cons_self)).2 hg1 rfl, ReadsP.block (S.own (g2, _) List.mem_cons_self).2 hg2 rfl, Nat.le_refl _, by simp, by simp, by decide⟩
set_option maxHeartbeats 4000000 in
theorem State_any (w : World) : Calls Tryd.prog 41 #[] w fun e w' => ∃ v, e = .returned v ∧ (∃ q, v = staV q exS ∧ IntsAt w' (Btw w.heap.size w'.heap.size) q exS.fil) ∧ Below w.heap.size w w' := by
  refine enter Tryd.func41 rfl Tryd.ntmps41 rfl ?_; simp only [frame, Nat.zero_add, Nat.reduceAdd]
  repeat (first | (refine M0 ?_; first | refine O0 ?_ | refine z1 tok rfl ?_ | refine O1 rfl ?_ rfl | refine O2 rfl ?_ | refine O3 rfl ?_ rfl | refine O4 rfl rfl rfl (fun _ _ => ?_) | refine O5 tok rfl rfl rfl (fun _ _ => ?_) | refine U0 _ (U2 rfl) rfl ?_ | refine U0 _ (U3 tok rfl rfl rfl rfl rfl) rfl ?_ | refine z3 tok rfl ?_ | refine U0 _ (U4 rfl rfl) rfl ?_ | refine U0 _ (U5 rfl rfl) rfl ?_ | refine XL.buildSlice tok rfl rfl rfl rfl rfl rfl rfl rfl rfl (fun _ _ => ?_)) | (refine M1 ?_; first | refine J0 ?_ | refine J1 ?_ | refine J2 mixed rfl (by kernel_rfl) ?_ | refine J3 mixed rfl rfl (by kernel_rfl) ?_ | refine J4 ?_ | refine J5 ?_ | refine J6 ?_ | refine J7 ?_ | refine J8 rfl ?_ | refine J9 rfl ?_) | (refine M2 ?_; first | refine I0 ?_ | refine I1 ?_ | refine I2 ?_ | refine I3 ?_ | refine I4 ?_ | refine I5 ?_ | refine I6 rfl ?_ | refine I7 ?_ | refine I8 ?_ | refine z4 ?_) | (refine M3 ?_; first | refine O6 ?_ | refine z2 tok rfl ?_ | refine O8 rfl ?_ | refine O7 rfl ?_ rfl | refine O9 rfl ?_ rfl | refine U1 _ (U4 rfl rfl) rfl ?_ | refine U1 _ (U5 rfl rfl) rfl ?_ | refine U1 _ (U2 rfl) rfl ?_ | refine U1 _ (U3 tok rfl rfl rfl rfl rfl) rfl ?_) | (refine M4 ?_; first | refine M6 ?_ | refine U6 rfl (by kernel_rfl) ?_ | refine U7 (by kernel_rfl) ?_) | (refine M5 ?_; first | exact M7 | refine U8 rfl ?_ | refine U9 rfl rfl ?_ ?_))
  rename_i g0 hg0 g1 hg1
  refine XE.retg tok Tryd.results41 rfl (by simp only [and_self, and_true]) (fun w' S => ?_)
  exact ⟨_, rfl, ⟨⟨some ⟨g1, 0, none⟩, 2, 2⟩, rfl, ReadsP.block (S.own (g1, _) List.mem_cons_self).2 hg1 rfl, by simp⟩, S.toBelow⟩
theorem Tick_any (w : World) : Calls Tryd.prog 40 #[] w fun e w' => e = .returned (tickV exT) ∧ Below w.heap.size w w' := by
  refine enter Tryd.func40 rfl Tryd.ntmps40 rfl ?_; simp only [frame, Nat.zero_add, Nat.reduceAdd]
  repeat (first | (refine M0 ?_; first | refine O0 ?_ | refine z1 tok rfl ?_ | refine O1 rfl ?_ rfl | refine O2 rfl ?_ | refine O3 rfl ?_ rfl | refine O4 rfl rfl rfl (fun _ _ => ?_) | refine O5 tok rfl rfl rfl (fun _ _ => ?_) | refine U0 _ (U2 rfl) rfl ?_ | refine U0 _ (U3 tok rfl rfl rfl rfl rfl) rfl ?_ | refine z3 tok rfl ?_ | refine U0 _ (U4 rfl rfl) rfl ?_ | refine U0 _ (U5 rfl rfl) rfl ?_) | (refine M1 ?_; first | refine J0 ?_ | refine J1 ?_ | refine J2 mixed rfl (by kernel_rfl) ?_ | refine J3 mixed rfl rfl (by kernel_rfl) ?_ | refine J4 ?_ | refine J5 ?_ | refine J6 ?_ | refine J7 ?_ | refine J8 rfl ?_ | refine J9 rfl ?_) | (refine M2 ?_; first | refine I0 ?_ | refine I1 ?_ | refine I2 ?_ | refine I3 ?_ | refine I4 ?_ | refine I5 ?_ | refine I6 rfl ?_ | refine I7 ?_ | refine I8 ?_ | refine z4 ?_) | (refine M3 ?_; first | refine O6 ?_ | refine z2 tok rfl ?_ | refine O8 rfl ?_ | refine O7 rfl ?_ rfl | refine O9 rfl ?_ rfl | refine U1 _ (U4 rfl rfl) rfl ?_ | refine U1 _ (U5 rfl rfl) rfl ?_ | refine U1 _ (U2 rfl) rfl ?_ | refine U1 _ (U3 tok rfl rfl rfl rfl rfl) rfl ?_) | (refine M4 ?_; first | refine M6 ?_ | refine U6 rfl (by kernel_rfl) ?_ | refine U7 (by kernel_rfl) ?_) | (refine M5 ?_; first | exact M7 | refine U8 rfl ?_ | refine U9 rfl rfl ?_ ?_))
  refine XE.retg tok Tryd.results40 rfl (by simp only [and_self, and_true]) (fun w' S => ?_)
  exact ⟨rfl, S.toBelow⟩
set_option maxHeartbeats 4000000 in
theorem Volume_out {p : BV} {b : Bas} {lev : Int} {w : World} (hb : BasAt w w.heap.size p b) (hc : chkE b = 0) (hl : outB lev (b.row 0).level 20000 = true) :
    Calls Tryd.prog 36 #[basV p b, .int .i64 lev] w fun e w' => e = .returned (.tuple ⟨[.int .i64 0, .int .i64 7]⟩) ∧ Below w.heap.size w w' := by
  obtain ⟨A, n, c, A2, n2, c2⟩ := p
  have hn := hb.n_eq
  simp only at hn
  subst hn
  have ho := (ok_of hc).rowsOk
  have h2 := ho.n2
  have hmax := hb.len
  simp only at hmax
  simp only [basV, basC]
  refine enter Tryd.func36 rfl Tryd.ntmps36 rfl ?_; simp only [frame, Nat.zero_add, Nat.reduceAdd]
  repeat (first | (refine M0 ?_; first | refine O0 ?_ | refine z1 tok rfl ?_ | refine O1 rfl ?_ rfl | refine O2 rfl ?_ | refine O3 rfl ?_ rfl | refine U0 _ (Ev.call (f := 50) (ck rfl) rfl (fun w S => (valid_any (hb.sys S) :))) rfl ?_ | refine O4 rfl rfl rfl (fun _ _ => ?_) | refine O5 tok rfl rfl rfl (fun _ _ => ?_) | refine U0 _ (U2 rfl) rfl ?_ | refine U0 _ (U3 tok rfl rfl rfl rfl rfl) rfl ?_ | refine z3 tok rfl ?_ | refine U0 _ (U4 rfl rfl) rfl ?_ | refine U0 _ (U5 rfl rfl) rfl ?_) | (refine M1 ?_; first | refine J0 ?_ | refine J1 ?_ | refine J2 mixed rfl (by kernel_rfl) ?_ | refine J3 mixed rfl rfl (by kernel_rfl) ?_ | refine J4 ?_ | refine J5 ?_ | refine J6 ?_ | refine J7 ?_ | refine J8 rfl ?_ | refine J9 rfl ?_) | (refine M2 ?_; first | refine I0 ?_ | refine I1 ?_ | refine I2 ?_ | refine I3 ?_ | refine I4 ?_ | refine I5 ?_ | refine I6 rfl ?_ | refine I7 ?_ | refine I8 ?_ | refine z4 ?_) | (refine M3 ?_; first | refine O6 ?_ | refine z2 tok rfl ?_ | refine O8 rfl ?_ | refine O7 rfl ?_ rfl | refine O9 rfl ?_ rfl | refine U1 _ (Ev.call (f := 50) (ck rfl) rfl (fun w S => (valid_any (hb.sys S) :))) rfl ?_ | refine U1 _ (U4 rfl rfl) rfl ?_ | refine U1 _ (U5 rfl rfl) rfl ?_ | refine U1 _ (U2 rfl) rfl ?_ | refine U1 _ (U3 tok rfl rfl rfl rfl rfl) rfl ?_) | (refine M4 ?_; first | refine M6 ?_ | refine U6 rfl (by kernel_rfl) ?_ | refine U7 (by kernel_rfl) ?_) | (refine M5 ?_; first | exact M7 | refine U8 rfl ?_ | refine U9 rfl rfl ?_ ?_))
  refine XC.cond _ rfl (fun h => absurd hc (by simpa using h)) (fun h => ?_)
  obtain ⟨ad, rfl, hlt⟩ := hb.rows.addr (by simp only; omega)
  repeat (first | (refine M0 ?_; first | refine O0 ?_ | refine z1 tok rfl ?_ | refine O1 rfl ?_ rfl | refine O2 rfl ?_ | refine O3 rfl ?_ rfl | refine U0 _ (Ev.load_old tok rfl rfl (add_lt hlt) (hb.rowLevel (i := 0) (by omega))) rfl ?_ | refine U0 _ (Ev.call (f := 51) (ck rfl) rfl (fun w S => out_any _ _ _ w)) rfl ?_ | refine O4 rfl rfl rfl (fun _ _ => ?_) | refine O5 tok rfl rfl rfl (fun _ _ => ?_) | refine U0 _ (U2 rfl) rfl ?_ | refine U0 _ (U3 tok rfl rfl rfl rfl rfl) rfl ?_ | refine z3 tok rfl ?_ | refine U0 _ (U4 rfl rfl) rfl ?_ | refine U0 _ (U5 rfl rfl) rfl ?_) | (refine M1 ?_; first | refine J0 ?_ | refine J1 ?_ | refine J2 mixed rfl (by kernel_rfl) ?_ | refine J3 mixed rfl rfl (by kernel_rfl) ?_ | refine J4 ?_ | refine J5 ?_ | refine J6 ?_ | refine J7 ?_ | refine J8 rfl ?_ | refine J9 rfl ?_) | (refine M2 ?_; first | refine I0 ?_ | refine I1 ?_ | refine I2 ?_ | refine I3 ?_ | refine I4 ?_ | refine I5 ?_ | refine I6 rfl ?_ | refine I7 ?_ | refine I8 ?_ | refine z4 ?_) | (refine M3 ?_; first | refine O6 ?_ | refine z2 tok rfl ?_ | refine O8 rfl ?_ | refine O7 rfl ?_ rfl | refine O9 rfl ?_ rfl | refine U1 _ (Ev.load_old tok rfl rfl (add_lt hlt) (hb.rowLevel (i := 0) (by omega))) rfl ?_ | refine U1 _ (Ev.call (f := 51) (ck rfl) rfl (fun w S => out_any _ _ _ w)) rfl ?_ | refine U1 _ (U4 rfl rfl) rfl ?_ | refine U1 _ (U5 rfl rfl) rfl ?_ | refine U1 _ (U2 rfl) rfl ?_ | refine U1 _ (U3 tok rfl rfl rfl rfl rfl) rfl ?_) | (refine M4 ?_; first | refine M6 ?_ | refine U6 rfl (by kernel_rfl) ?_ | refine U7 (by kernel_rfl) ?_) | (refine M5 ?_; first | exact M7 | refine U8 rfl ?_ | refine U9 rfl rfl ?_ ?_))
  refine XC.cond _ rfl (fun h4 => ?_) (fun h4 => absurd hl (by rw [h4]; decide))
  repeat (first | (refine M0 ?_; first | refine O0 ?_ | refine z1 tok rfl ?_ | refine O1 rfl ?_ rfl | refine O2 rfl ?_ | refine O3 rfl ?_ rfl | refine O4 rfl rfl rfl (fun _ _ => ?_) | refine O5 tok rfl rfl rfl (fun _ _ => ?_) | refine U0 _ (U2 rfl) rfl ?_ | refine U0 _ (U3 tok rfl rfl rfl rfl rfl) rfl ?_ | refine z3 tok rfl ?_ | refine U0 _ (U4 rfl rfl) rfl ?_ | refine U0 _ (U5 rfl rfl) rfl ?_) | (refine M1 ?_; first | refine J0 ?_ | refine J1 ?_ | refine J2 mixed rfl (by kernel_rfl) ?_ | refine J3 mixed rfl rfl (by kernel_rfl) ?_ | refine J4 ?_ | refine J5 ?_ | refine J6 ?_ | refine J7 ?_ | refine J8 rfl ?_ | refine J9 rfl ?_) | (refine M2 ?_; first | refine I0 ?_ | refine I1 ?_ | refine I2 ?_ | refine I3 ?_ | refine I4 ?_ | refine I5 ?_ | refine I6 rfl ?_ | refine I7 ?_ | refine I8 ?_ | refine z4 ?_) | (refine M3 ?_; first | refine O6 ?_ | refine z2 tok rfl ?_ | refine O8 rfl ?_ | refine O7 rfl ?_ rfl | refine O9 rfl ?_ rfl | refine U1 _ (U4 rfl rfl) rfl ?_ | refine U1 _ (U5 rfl rfl) rfl ?_ | refine U1 _ (U2 rfl) rfl ?_ | refine U1 _ (U3 tok rfl rfl rfl rfl rfl) rfl ?_) | (refine M4 ?_; first | refine M6 ?_ | refine U6 rfl (by kernel_rfl) ?_ | refine U7 (by kernel_rfl) ?_) | (refine M5 ?_; first | exact M7 | refine U8 rfl ?_ | refine U9 rfl rfl ?_ ?_))
  refine XE.retg tok Tryd.results36 rfl (by simp only [and_self, and_true]) (fun w' S => ?_)
  exact ⟨rfl, S.toBelow⟩
set_option maxHeartbeats 8000000 in
theorem Awake_any {w : World} (hL : Laid w) : Calls Tryd.prog 23 #[] w fun e w' => e = .returned (.bool true) ∧ Below w.heap.size w w' := by
  refine enter Tryd.func23 rfl Tryd.ntmps23 rfl ?_; simp only [frame, Nat.zero_add, Nat.reduceAdd]
  repeat (first | (refine M0 ?_; first | refine O0 ?_ | refine z1 tok rfl ?_ | refine O1 rfl ?_ rfl | refine O2 rfl ?_ | refine O3 rfl ?_ rfl | refine O4 rfl rfl rfl (fun _ _ => ?_) | refine O5 tok rfl rfl rfl (fun _ _ => ?_) | refine U0 _ (U2 rfl) rfl ?_ | refine U0 _ (U3 tok rfl rfl rfl rfl rfl) rfl ?_ | refine z3 tok rfl ?_ | refine U0 _ (U4 rfl rfl) rfl ?_ | refine U0 _ (U5 rfl rfl) rfl ?_) | (refine M1 ?_; first | refine J0 ?_ | refine J1 ?_ | refine J2 mixed rfl (by kernel_rfl) ?_ | refine J3 mixed rfl rfl (by kernel_rfl) ?_ | refine J4 ?_ | refine J5 ?_ | refine J6 ?_ | refine J7 ?_ | refine J8 rfl ?_ | refine J9 rfl ?_) | (refine M2 ?_; first | refine I0 ?_ | refine I1 ?_ | refine I2 ?_ | refine I3 ?_ | refine I4 ?_ | refine I5 ?_ | refine I6 rfl ?_ | refine I7 ?_ | refine I8 ?_ | refine z4 ?_) | (refine M3 ?_; first | refine O6 ?_ | refine z2 tok rfl ?_ | refine O8 rfl ?_ | refine O7 rfl ?_ rfl | refine O9 rfl ?_ rfl | refine U1 _ (U4 rfl rfl) rfl ?_ | refine U1 _ (U5 rfl rfl) rfl ?_ | refine U1 _ (U2 rfl) rfl ?_ | refine U1 _ (U3 tok rfl rfl rfl rfl rfl) rfl ?_) | (refine M4 ?_; first | refine M6 ?_ | refine U6 rfl (by kernel_rfl) ?_ | refine U7 (by kernel_rfl) ?_) | (refine M5 ?_; first | exact M7 | refine U8 rfl ?_ | refine U9 rfl rfl ?_ ?_))
  refine XL.call (fst := []) (cap := []) (ck rfl) rfl rfl rfl (List.Sublist.refl _) (fun w1 v w2 => ∃ p, v = basV p exB ∧ BasAtP w2 (Btw w1.heap.size w2.heap.size) p exB) (fun w1 S1 => Basin_any w1) (fun w1 v w2 S1 ⟨p1, hv1, hb1⟩ hB1 S2 => ?_)
  subst hv1
  refine XL.call (fst := []) (cap := []) (ck rfl) rfl rfl rfl (List.Sublist.refl _) (fun w1 v w2 => ∃ q, v = staV q exS ∧ IntsAt w2 (Btw w1.heap.size w2.heap.size) q exS.fil) (fun w1 S1 => State_any w1) (fun w3 v w4 S3 ⟨q1, hv2, hq1⟩ hB2 S4 => ?_)
  subst hv2
  have k1 : Keep (Btw w1.heap.size w2.heap.size) w2 _ := Keep.made S1 (Nat.le_refl _)
  have hb4 := hb1.keep (k1.sys S4)
  have k4 : Keep (Btw w1.heap.size w2.heap.size) w4 _ := k1.later S3 hB2.size
  have kq : Keep (Btw w3.heap.size w4.heap.size) w4 _ := Keep.made S3 (Nat.le_refl _)
  repeat (first | (refine M0 ?_; first | refine O0 ?_ | refine z1 tok rfl ?_ | refine O1 rfl ?_ rfl | refine O2 rfl ?_ | refine O3 rfl ?_ rfl | refine U0 _ (Ev.call (f := 40) (ck rfl) rfl (fun w S => Tick_any w)) rfl ?_ | refine O4 rfl rfl rfl (fun _ _ => ?_) | refine O5 tok rfl rfl rfl (fun _ _ => ?_) | refine U0 _ (U2 rfl) rfl ?_ | refine U0 _ (U3 tok rfl rfl rfl rfl rfl) rfl ?_ | refine z3 tok rfl ?_ | refine U0 _ (U4 rfl rfl) rfl ?_ | refine U0 _ (U5 rfl rfl) rfl ?_) | (refine M1 ?_; first | refine J0 ?_ | refine J1 ?_ | refine J2 mixed rfl (by kernel_rfl) ?_ | refine J3 mixed rfl rfl (by kernel_rfl) ?_ | refine J4 ?_ | refine J5 ?_ | refine J6 ?_ | refine J7 ?_ | refine J8 rfl ?_ | refine J9 rfl ?_) | (refine M2 ?_; first | refine I0 ?_ | refine I1 ?_ | refine I2 ?_ | refine I3 ?_ | refine I4 ?_ | refine I5 ?_ | refine I6 rfl ?_ | refine I7 ?_ | refine I8 ?_ | refine z4 ?_) | (refine M3 ?_; first | refine O6 ?_ | refine z2 tok rfl ?_ | refine O8 rfl ?_ | refine O7 rfl ?_ rfl | refine O9 rfl ?_ rfl | refine U1 _ (Ev.call (f := 40) (ck rfl) rfl (fun w S => Tick_any w)) rfl ?_ | refine U1 _ (U4 rfl rfl) rfl ?_ | refine U1 _ (U5 rfl rfl) rfl ?_ | refine U1 _ (U2 rfl) rfl ?_ | refine U1 _ (U3 tok rfl rfl rfl rfl rfl) rfl ?_) | (refine M4 ?_; first | refine M6 ?_ | refine U6 rfl (by kernel_rfl) ?_ | refine U7 (by kernel_rfl) ?_) | (refine M5 ?_; first | exact M7 | refine U8 rfl ?_ | refine U9 rfl rfl ?_ ?_))
  have hW4 := S2.toBelow.trans S4.toBelow
  refine XL.call (fst := []) (cap := []) (ck rfl) rfl rfl rfl (List.Sublist.refl _) (fun w1 v w2 => StepCR exB exS exT w1 v w2)
    (fun w5 S5 => (Step_any (p := p1) (q := q1) (hb4.sys S5 k4) (hq1.sys S5 kq)).mono fun e w' ⟨v, h, h4⟩ => ⟨v, h, h4, h4.choose_spec.choose_spec.2.2.2⟩) (fun w5 v w6 S5 hR hB3 S6 => ?_)
  obtain ⟨q2, r2, rfl, _, _, _⟩ := hR
  obtain ⟨f1, f2, f3⟩ := full_0 (t := exT) ex_sta
  rw [f1, f2, f3, ex_step]
  simp only [staV, staC, floV, floC, ex_vol, ex_leak]
  have hW6 := hW4.trans S6.toBelow
  repeat (first | (refine M0 ?_; first | refine O0 ?_ | refine z1 tok rfl ?_ | refine O1 rfl ?_ rfl | refine O2 rfl ?_ | refine O3 rfl ?_ rfl | refine O4 rfl rfl rfl (fun _ _ => ?_) | refine O5 tok rfl rfl rfl (fun _ _ => ?_) | refine U0 _ (U2 rfl) rfl ?_ | refine U0 _ (U3 tok rfl rfl rfl rfl rfl) rfl ?_ | refine z3 tok rfl ?_ | refine U0 _ (U4 rfl rfl) rfl ?_ | refine U0 _ (U5 rfl rfl) rfl ?_) | (refine M1 ?_; first | refine J0 ?_ | refine J1 ?_ | refine J2 mixed rfl (by kernel_rfl) ?_ | refine J3 mixed rfl rfl (by kernel_rfl) ?_ | refine J4 ?_ | refine J5 ?_ | refine J6 ?_ | refine J7 ?_ | refine J8 rfl ?_ | refine J9 rfl ?_) | (refine M2 ?_; first | refine I0 ?_ | refine I1 ?_ | refine I2 ?_ | refine I3 ?_ | refine I4 ?_ | refine I5 ?_ | refine I6 rfl ?_ | refine I7 ?_ | refine I8 ?_ | refine z4 ?_) | (refine M3 ?_; first | refine O6 ?_ | refine z2 tok rfl ?_ | refine O8 rfl ?_ | refine O7 rfl ?_ rfl | refine O9 rfl ?_ rfl | refine U1 _ (U4 rfl rfl) rfl ?_ | refine U1 _ (U5 rfl rfl) rfl ?_ | refine U1 _ (U2 rfl) rfl ?_ | refine U1 _ (U3 tok rfl rfl rfl rfl rfl) rfl ?_) | (refine M4 ?_; first | refine M6 ?_ | refine U6 rfl (by kernel_rfl) ?_ | refine U7 (by kernel_rfl) ?_) | (refine M5 ?_; first | exact M7 | refine U8 rfl ?_ | refine U9 rfl rfl ?_ ?_))
  refine XL.call (fst := []) (cap := []) (ck rfl) rfl rfl rfl (List.Sublist.refl _) (fun w1 v w2 => ∃ p, v = basV p exB ∧ BasAtP w2 (Btw w1.heap.size w2.heap.size) p exB) (fun w1 S1 => Basin_any w1) (fun w7 v w8 S7 ⟨p3, hv3, hb3⟩ hB8 S8 => ?_)
  subst hv3
  have hW8 := hW6.trans S8.toBelow
  have k7 : Keep (Btw w7.heap.size w8.heap.size) w8 _ := Keep.made S7 (Nat.le_refl _)
  refine XL.call (fst := []) (cap := []) (ck rfl) rfl rfl rfl (List.Sublist.refl _) (fun w1 v w2 => ∃ q, v = staV q exS ∧ IntsAt w2 (Btw w1.heap.size w2.heap.size) q exS.fil) (fun w1 S1 => State_any w1) (fun w9 v w10 S9 ⟨q3, hv4, hq3⟩ hB10 S10 => ?_)
  subst hv4
  have hW10 := hW8.trans S10.toBelow
  have hb10 := hb3.keep (k7.sys S10)
  have k10 := k7.later S9 hB10.size
  have kq3 : Keep (Btw w9.heap.size w10.heap.size) w10 _ := Keep.made S9 (Nat.le_refl _)
  repeat (first | (refine M0 ?_; first | refine O0 ?_ | refine z1 tok rfl ?_ | refine O1 rfl ?_ rfl | refine O2 rfl ?_ | refine O3 rfl ?_ rfl | refine U0 _ (Ev.call (f := 40) (ck rfl) rfl (fun w S => Tick_any w)) rfl ?_ | refine O4 rfl rfl rfl (fun _ _ => ?_) | refine O5 tok rfl rfl rfl (fun _ _ => ?_) | refine U0 _ (U2 rfl) rfl ?_ | refine U0 _ (U3 tok rfl rfl rfl rfl rfl) rfl ?_ | refine z3 tok rfl ?_ | refine U0 _ (U4 rfl rfl) rfl ?_ | refine U0 _ (U5 rfl rfl) rfl ?_) | (refine M1 ?_; first | refine J0 ?_ | refine J1 ?_ | refine J2 mixed rfl (by kernel_rfl) ?_ | refine J3 mixed rfl rfl (by kernel_rfl) ?_ | refine J4 ?_ | refine J5 ?_ | refine J6 ?_ | refine J7 ?_ | refine J8 rfl ?_ | refine J9 rfl ?_) | (refine M2 ?_; first | refine I0 ?_ | refine I1 ?_ | refine I2 ?_ | refine I3 ?_ | refine I4 ?_ | refine I5 ?_ | refine I6 rfl ?_ | refine I7 ?_ | refine I8 ?_ | refine z4 ?_) | (refine M3 ?_; first | refine O6 ?_ | refine z2 tok rfl ?_ | refine O8 rfl ?_ | refine O7 rfl ?_ rfl | refine O9 rfl ?_ rfl | refine U1 _ (Ev.call (f := 40) (ck rfl) rfl (fun w S => Tick_any w)) rfl ?_ | refine U1 _ (U4 rfl rfl) rfl ?_ | refine U1 _ (U5 rfl rfl) rfl ?_ | refine U1 _ (U2 rfl) rfl ?_ | refine U1 _ (U3 tok rfl rfl rfl rfl rfl) rfl ?_) | (refine M4 ?_; first | refine M6 ?_ | refine U6 rfl (by kernel_rfl) ?_ | refine U7 (by kernel_rfl) ?_) | (refine M5 ?_; first | exact M7 | refine U8 rfl ?_ | refine U9 rfl rfl ?_ ?_))
  simp only [tickV, tickC]
  refine XL.buildSlice tok rfl rfl rfl rfl rfl rfl rfl rfl rfl (fun gt hgt => ?_)
  refine XL.step _ (Ev.call (f := 27) (ck rfl) rfl (fun w' S => (Stay_any (p := p3) (q := q3) (s := exS) (ts := exTs) (r := ⟨some ⟨gt, 0, none⟩, 3, 3⟩) (lim := 285) (hL.below (hW10.trans S.toBelow)) (hb10.sys S (k10.new hgt)) (hq3.sys S (kq3.new hgt)) ⟨(ReadsP.block (S.own (gt, _) List.mem_cons_self).2 (Nat.zero_le _) rfl).mono fun j hj => hj.2, by simp⟩ :))) rfl ?_
  rw [ex_stayN, ex_stayE]
  repeat (first | (refine M0 ?_; first | refine O0 ?_ | refine z1 tok rfl ?_ | refine O1 rfl ?_ rfl | refine O2 rfl ?_ | refine O3 rfl ?_ rfl | refine O4 rfl rfl rfl (fun _ _ => ?_) | refine O5 tok rfl rfl rfl (fun _ _ => ?_) | refine U0 _ (U2 rfl) rfl ?_ | refine U0 _ (U3 tok rfl rfl rfl rfl rfl) rfl ?_ | refine z3 tok rfl ?_ | refine U0 _ (U4 rfl rfl) rfl ?_ | refine U0 _ (U5 rfl rfl) rfl ?_) | (refine M1 ?_; first | refine J0 ?_ | refine J1 ?_ | refine J2 mixed rfl (by kernel_rfl) ?_ | refine J3 mixed rfl rfl (by kernel_rfl) ?_ | refine J4 ?_ | refine J5 ?_ | refine J6 ?_ | refine J7 ?_ | refine J8 rfl ?_ | refine J9 rfl ?_) | (refine M2 ?_; first | refine I0 ?_ | refine I1 ?_ | refine I2 ?_ | refine I3 ?_ | refine I4 ?_ | refine I5 ?_ | refine I6 rfl ?_ | refine I7 ?_ | refine I8 ?_ | refine z4 ?_) | (refine M3 ?_; first | refine O6 ?_ | refine z2 tok rfl ?_ | refine O8 rfl ?_ | refine O7 rfl ?_ rfl | refine O9 rfl ?_ rfl | refine U1 _ (U4 rfl rfl) rfl ?_ | refine U1 _ (U5 rfl rfl) rfl ?_ | refine U1 _ (U2 rfl) rfl ?_ | refine U1 _ (U3 tok rfl rfl rfl rfl rfl) rfl ?_) | (refine M4 ?_; first | refine M6 ?_ | refine U6 rfl (by kernel_rfl) ?_ | refine U7 (by kernel_rfl) ?_) | (refine M5 ?_; first | exact M7 | refine U8 rfl ?_ | refine U9 rfl rfl ?_ ?_))
  refine XL.call (fst := []) (cap := []) (ck rfl) rfl rfl rfl (List.Sublist.refl _) (fun w1 v w2 => ∃ p, v = basV p exB ∧ BasAtP w2 (Btw w1.heap.size w2.heap.size) p exB) (fun w1 S1 => Basin_any w1) (fun w11 v w12 S11 ⟨p4, hv5, hb5⟩ hB12 S12 => ?_)
  subst hv5
  have k11 : Keep (Btw w11.heap.size w12.heap.size) w12 _ := Keep.made S11 (Nat.le_refl _)
  repeat (first | (refine M0 ?_; first | refine O0 ?_ | refine z1 tok rfl ?_ | refine O1 rfl ?_ rfl | refine O2 rfl ?_ | refine O3 rfl ?_ rfl | refine U0 _ (Ev.call (f := 36) (ck rfl) rfl (fun w S => (Volume_out (p := p4) (b := exB) (lev := -1001) (hb5.sys S k11) ex_chk (by decide) :))) rfl ?_ | refine O4 rfl rfl rfl (fun _ _ => ?_) | refine O5 tok rfl rfl rfl (fun _ _ => ?_) | refine U0 _ (U2 rfl) rfl ?_ | refine U0 _ (U3 tok rfl rfl rfl rfl rfl) rfl ?_ | refine z3 tok rfl ?_ | refine U0 _ (U4 rfl rfl) rfl ?_ | refine U0 _ (U5 rfl rfl) rfl ?_) | (refine M1 ?_; first | refine J0 ?_ | refine J1 ?_ | refine J2 mixed rfl (by kernel_rfl) ?_ | refine J3 mixed rfl rfl (by kernel_rfl) ?_ | refine J4 ?_ | refine J5 ?_ | refine J6 ?_ | refine J7 ?_ | refine J8 rfl ?_ | refine J9 rfl ?_) | (refine M2 ?_; first | refine I0 ?_ | refine I1 ?_ | refine I2 ?_ | refine I3 ?_ | refine I4 ?_ | refine I5 ?_ | refine I6 rfl ?_ | refine I7 ?_ | refine I8 ?_ | refine z4 ?_) | (refine M3 ?_; first | refine O6 ?_ | refine z2 tok rfl ?_ | refine O8 rfl ?_ | refine O7 rfl ?_ rfl | refine O9 rfl ?_ rfl | refine U1 _ (Ev.call (f := 36) (ck rfl) rfl (fun w S => (Volume_out (p := p4) (b := exB) (lev := -1001) (hb5.sys S k11) ex_chk (by decide) :))) rfl ?_ | refine U1 _ (U4 rfl rfl) rfl ?_ | refine U1 _ (U5 rfl rfl) rfl ?_ | refine U1 _ (U2 rfl) rfl ?_ | refine U1 _ (U3 tok rfl rfl rfl rfl rfl) rfl ?_) | (refine M4 ?_; first | refine M6 ?_ | refine U6 rfl (by kernel_rfl) ?_ | refine U7 (by kernel_rfl) ?_) | (refine M5 ?_; first | exact M7 | refine U8 rfl ?_ | refine U9 rfl rfl ?_ ?_))
  refine XE.retg tok Tryd.results23 rfl (by simp only [and_self, and_true]) (fun w' S => ?_)
  exact ⟨rfl, hW10.trans (S12.toBelow.trans S.toBelow)⟩
end Go.Proofs.YtoiepgcjinccpaaDoor.X
/-
  The law BasinSteps.
-/
namespace Go.Proofs.YtoiepgcjinccpaaDoor.X
open Go Go.RowKit Go.Proofs.YtoiepgcjinccpaaDoor.Bs
set_option linter.unusedVariables false
theorem sameFlows_self {q r : SV} {s : Flo} {w : World} (hq : IntsAt w (Lt w.heap.size) q s.taken) (hr : IntsAt w (Lt w.heap.size) r s.taken) :
    Calls Tryd.prog 22 #[floV q s, floV r s] w fun e w' => e = .returned (.bool true) ∧ Below w.heap.size w w' := by
  have := sameFlows_any hq hr
  rw [show sameFloB s s = true by simp [sameFloB]] at this
  exact this
end Go.Proofs.YtoiepgcjinccpaaDoor.X
/-
  Rows of the call's own that grow, and what else was made in the call: one word for all of it.
-/
namespace Go.Proofs.YtoiepgcjinccpaaDoor.X
open Go Go.RowKit
set_option linter.unusedVariables false
/-- something in memory, told of some blocks alone. -/
structure Held where
  p : World → (Nat → Prop) → Prop
  keep : ∀ {w w' : World} {ok : Nat → Prop}, p w ok → (∀ k, ok k → w'.heap[k]? = w.heap[k]?) → p w' ok
  mono : ∀ {w : World} {ok ok' : Nat → Prop}, p w ok → (∀ k, ok k → ok' k) → p w ok'
/-- a kind of elements: their type, how many cells they take, which; and what they point to. -/
structure Kind (α : Type) where
  ty : TypeId
  m : Nat
  c : α → List Value
  sl : α → List Held
  len : ∀ a, (c a).length = m
/-- a slice that is read. -/
structure ListAt {α : Type} (K : Kind α) (W : World) (ok : Nat → Prop) (r : SV) (l : List α) : Prop where
  rd : ReadsP W ok K.m r.A r.n (l.flatMap K.c)
  max : r.n ≤ 9223372036854775807
  ins : ∀ a, a ∈ l → ∀ h, h ∈ K.sl a → h.p W ok
section
variable {α : Type} {K : Kind α} {w w' w0 W : World} {ok ok' : Nat → Prop} {B : Nat} {r : SV} {l : List α} {L : Lo}
theorem ListAt.keep (h : ListAt K w ok r l) (hk : ∀ k, ok k → w'.heap[k]? = w.heap[k]?) : ListAt K w' ok r l := ⟨h.rd.keep hk, h.max, fun a ha x hx => x.keep (h.ins a ha x hx) hk⟩
theorem ListAt.mono (h : ListAt K w ok r l) (hk : ∀ k, ok k → ok' k) : ListAt K w ok' r l := ⟨h.rd.mono hk, h.max, fun a ha x hx => x.mono (h.ins a ha x hx) hk⟩
theorem ListAt.sys (h : ListAt K w0 ok r l) (S : Sys B w0 L w) (hk : Keep ok w0 L) : ListAt K w (Lt w.heap.size) r l := (h.keep (hk.sys S)).mono (hk.lt S)
theorem ListAt.arg (h : ListAt K w0 (Lt B) r l) (S : Sys B w0 L w) : ListAt K w (Lt w.heap.size) r l := h.sys S (Keep.arg S)
theorem ListAt.below (h : ListAt K w (Lt B) r l) (hb : Below B w w') : ListAt K w' (Lt B) r l := h.keep fun k hk => hb.block k hk
theorem ListAt.len (h : ListAt K w ok r l) (h0 : 0 < K.m) : r.n = l.length := by
  have := h.rd.len
  rw [flat_len K.c K.m K.len] at this
  exact (Nat.eq_of_mul_eq_mul_right h0 this).symm
theorem ListAt.nil : ListAt K w ok ⟨none, 0, 0⟩ [] := ⟨ReadsP.nil, Nat.zero_le _, fun a ha => by cases ha⟩
/-- an element's cells. -/
theorem ListAt.elem {ad : Addr} {n c : Nat} (h : ListAt K w ok ⟨some ad, n, c⟩ l) {k : Nat} {a : α} (hk : l[k]? = some a) : ∀ j u, (K.c a)[j]? = some u → w.cell? ((ad.add (k * K.m)).add j) = some u := fun j u hj => by
  have hj3 : j < K.m := by have := (List.getElem?_eq_some_iff.1 hj).1; rwa [K.len] at this
  have hn := h.len (by omega)
  have hkl := (List.getElem?_eq_some_iff.1 hk).1
  obtain ⟨ad', e, _, h1⟩ := h.rd.at_ (by simp only at hn ⊢; omega)
  cases e
  have e2 := flat_at K.c K.m K.len l k j a hk hj3
  have := h1 (k * K.m + j) u (e2.trans hj)
  rw [add_add]
  exact this
/-- its block. -/
theorem ListAt.addr {A : Option Addr} {n c : Nat} (h : ListAt K w ok ⟨A, n, c⟩ l) (h0 : 0 < K.m) (hn : 0 < l.length) : ∃ ad, A = some ad ∧ ok ad.block := by
  have := h.len h0
  obtain ⟨ad, e, h1, _⟩ := h.rd.at_ (by simp only at this ⊢; omega)
  exact ⟨ad, e, h1⟩
end
theorem owns_move' {W W' : World} {v : Value} {base e size n : Nat} {xs : List Value} (h : W.ownsRow base e size v n xs) (hk : ∀ k, v.ownBlock = some k → W'.heap[k]? = W.heap[k]?) : W'.ownsRow base e size v n xs := by
  refine ⟨h.1, ?_⟩
  rcases h.2 with h1 | ⟨g, cap, cur, rfl, hb, hg, h1⟩
  · exact .inl h1
  · exact .inr ⟨g, cap, cur, rfl, hb, by rw [hk g rfl]; exact hg, h1⟩
def hList {α : Type} (K : Kind α) (r : SV) (l : List α) : Held := ⟨fun w ok => ListAt K w ok r l, ListAt.keep, ListAt.mono⟩
def hInts (q : SV) (l : List Int) : Held := ⟨fun w ok => IntsAt w ok q l, IntsAt.keep, IntsAt.mono⟩
/-- a row that grows. -/
structure RowX where
  α : Type
  K : Kind α
  v : Value
  l : List α
/-- made in the call, and none of these. -/
def Free (W : World) (b0 : Nat) (ks : List Nat) (rs : List RowX) (j : Nat) : Prop := b0 ≤ j ∧ j < W.heap.size ∧ j ∉ ks ∧ ∀ r, r ∈ rs → r.v.ownBlock ≠ some j
/-- THE ROWS rs AND WHAT ELSE WAS MADE SINCE b0 (hs); ks: blocks that are none of theirs. -/
structure Fam (W : World) (b0 : Nat) (ks : List Nat) (rs : List RowX) (hs : List Held) : Prop where
  base : b0 ≤ W.heap.size
  row : ∀ r, r ∈ rs → W.ownsRow b0 r.K.ty r.K.m r.v r.l.length (r.l.flatMap r.K.c)
  sep : ∀ r, r ∈ rs → ∀ k, r.v.ownBlock = some k → k ∉ ks
  two : rs.Pairwise fun r s => ∀ k, r.v.ownBlock = some k → s.v.ownBlock ≠ some k
  ins : ∀ r, r ∈ rs → ∀ a, a ∈ r.l → ∀ h, h ∈ r.K.sl a → h.p W (Free W b0 ks rs)
  held : ∀ h, h ∈ hs → h.p W (Free W b0 ks rs)
section
variable {W W' w w0 w1 w2 : World} {b0 B : Nat} {ks ks' : List Nat} {rs : List RowX} {hs hs' : List Held} {L : Lo}
theorem Fam.start (h : b0 ≤ W.heap.size) : Fam W b0 ks [] [] := ⟨h, fun _ h => (by cases h), fun _ h => (by cases h), .nil, fun _ h => (by cases h), fun _ h => (by cases h)⟩
theorem Fam.lt (h : Fam W b0 ks rs hs) {r : RowX} (hr : r ∈ rs) {k : Nat} (hk : r.v.ownBlock = some k) : b0 ≤ k ∧ k < W.heap.size := (h.row r hr).lt k hk
theorem Fam.nil {α : Type} (K : Kind α) (h : Fam W b0 ks rs hs) : Fam W b0 ks (⟨α, K, .slice none 0 0, []⟩ :: rs) hs := by
  have hf : ∀ j, Free W b0 ks rs j → Free W b0 ks (⟨α, K, .slice none 0 0, []⟩ :: rs) j := fun j hj => ⟨hj.1, hj.2.1, hj.2.2.1, fun r hr => by
    rcases List.mem_cons.1 hr with rfl | hr
    · simp [Value.ownBlock]
    · exact hj.2.2.2 r hr⟩
  refine ⟨h.base, fun r hr => ?_, fun r hr k hk => ?_, .cons (fun s hs k hk => by cases hk) h.two, fun r hr a ha x hx => ?_, fun x hx => x.mono (h.held x hx) hf⟩
  · rcases List.mem_cons.1 hr with rfl | hr
    · exact World.ownsRow_nil _ _ _ _
    · exact h.row r hr
  · rcases List.mem_cons.1 hr with rfl | hr
    · cases hk
    · exact h.sep r hr k hk
  · rcases List.mem_cons.1 hr with rfl | hr
    · cases ha
    · exact x.mono (h.ins r hr a ha x hx) hf
theorem Fam.hold (h : Fam W b0 ks rs hs) {x : Held} {ok : Nat → Prop} (hx : x.p W ok) (hk : ∀ j, ok j → Free W b0 ks rs j) : Fam W b0 ks rs (x :: hs) :=
  ⟨h.base, h.row, h.sep, h.two, h.ins, fun y hy => by
    rcases List.mem_cons.1 hy with rfl | hy
    · exact y.mono hx hk
    · exact h.held y hy⟩
theorem Fam.forget (h : Fam W b0 ks rs hs) (hh : ∀ x, x ∈ hs' → x ∈ hs) : Fam W b0 ks rs hs' := ⟨h.base, h.row, h.sep, h.two, h.ins, fun y hy => h.held y (hh y hy)⟩
/-- the own blocks may be others. -/
theorem Fam.add (h : Fam W b0 ks rs hs) (hk : ∀ k, k ∈ ks' → k ∈ ks ∨ W.heap.size ≤ k) : Fam W b0 ks' rs hs := by
  have hf : ∀ j, Free W b0 ks rs j → Free W b0 ks' rs j := fun j hj => ⟨hj.1, hj.2.1, fun h1 => by
    rcases hk j h1 with h2 | h2
    · exact hj.2.2.1 h2
    · have := hj.2.1; omega, hj.2.2.2⟩
  exact ⟨h.base, h.row, fun r hr k h1 h2 => by
    rcases hk k h2 with h3 | h3
    · exact h.sep r hr k h1 h3
    · have := (h.lt hr h1).2; omega, h.two, fun r hr a ha x hx => x.mono (h.ins r hr a ha x hx) hf, fun x hx => x.mono (h.held x hx) hf⟩
theorem Fam.move (h : Fam W b0 ks rs hs) (hsz : W.heap.size ≤ W'.heap.size) (ho : ∀ j, j < W.heap.size → j ∉ ks → W'.heap[j]? = W.heap[j]?) : Fam W' b0 ks rs hs := by
  have hf : ∀ j, Free W b0 ks rs j → Free W' b0 ks rs j := fun j hj => ⟨hj.1, by have := hj.2.1; omega, hj.2.2⟩
  have hk : ∀ j, Free W b0 ks rs j → W'.heap[j]? = W.heap[j]? := fun j hj => ho j hj.2.1 hj.2.2.1
  exact ⟨Nat.le_trans h.base hsz, fun r hr => owns_move' (h.row r hr) fun k h1 => ho k (h.lt hr h1).2 (h.sep r hr k h1), h.sep, h.two, fun r hr a ha x hx => x.mono (x.keep (h.ins r hr a ha x hx) hk) hf, fun x hx => x.mono (x.keep (h.held x hx) hk) hf⟩
theorem Fam.sys (h : Fam w0 b0 ks rs hs) (S : Sys B w0 L w) (hL : ∀ e, e ∈ L → e.1 ∈ ks ∨ w0.heap.size ≤ e.1) : Fam w b0 ks rs hs :=
  h.move S.size fun j hj hn => S.old j hj fun e he e1 => by
    rcases hL e he with h2 | h2
    · exact hn (e1 ▸ h2)
    · omega
theorem Fam.below (h : Fam w b0 ks rs hs) (hb : Below w.heap.size w w2) : Fam w2 b0 ks rs hs := h.move hb.size fun j hj _ => hb.block j hj
/-- what a call made. -/
theorem Fam.made (h : Fam w1 b0 ks rs hs) (hb : Below w1.heap.size w1 w2) {x : Held} (hx : x.p w2 (Btw w1.heap.size w2.heap.size)) (hk : ∀ k, k ∈ ks → k < w1.heap.size) : Fam w2 b0 ks rs (x :: hs) :=
  (h.below hb).hold hx fun j hj => ⟨Nat.le_trans h.base hj.1, hj.2, fun h1 => by have := hk j h1; have := hj.1; omega, fun r hr h1 => by have := (h.lt hr h1).2; have := hj.1; omega⟩
theorem Fam.hold2 (h : Fam w2 b0 ks rs hs) {x : Held} (hx : x.p w2 (Btw w1.heap.size w2.heap.size)) (hb : b0 ≤ w1.heap.size) (hk : ∀ k, k ∈ ks → k < w1.heap.size) (hr : ∀ r, r ∈ rs → ∀ k, r.v.ownBlock = some k → k < w1.heap.size) : Fam w2 b0 ks rs (x :: hs) :=
  h.hold hx fun j hj => ⟨Nat.le_trans hb hj.1, hj.2, fun h1 => by have := hk j h1; have := hj.1; omega, fun r h0 h1 => by have := hr r h0 j h1; have := hj.1; omega⟩
/-- a row grows. -/
theorem Fam.push {α : Type} {K : Kind α} {v v' : Value} {l : List α} {a : α} {i : Nat} (h : Fam W b0 ks rs hs) (hi : rs[i]? = some ⟨α, K, v, l⟩) (ha : ∀ x, x ∈ K.sl a → x ∈ hs) (hrow : W'.ownsRow b0 K.ty K.m v' (l.length + 1) (l.flatMap K.c ++ K.c a))
    (hsz : W.heap.size ≤ W'.heap.size) (ho : ∀ j, j < W.heap.size → j ∉ ks → v.ownBlock ≠ some j → W'.heap[j]? = W.heap[j]?) (hfr : ∀ k, v'.ownBlock = some k → v.ownBlock = some k ∨ (W.heap.size ≤ k ∧ k ∉ ks)) :
    Fam W' b0 ks (rs.set i ⟨α, K, v', l ++ [a]⟩) hs := by
  have hm : ∀ r, r ∈ rs.set i ⟨α, K, v', l ++ [a]⟩ → r = ⟨α, K, v', l ++ [a]⟩ ∨ (r ∈ rs ∧ ∀ k, r.v.ownBlock = some k → v.ownBlock ≠ some k) := fun r hr => by
    obtain ⟨j, hj, rfl⟩ := List.mem_iff_getElem.1 hr
    by_cases hij : i = j
    · subst hij; left; simp
    · right
      rw [List.getElem_set_ne hij]
      simp at hj
      refine ⟨List.getElem_mem _, fun k hk h2 => ?_⟩
      obtain ⟨hil, hie⟩ := List.getElem?_eq_some_iff.1 hi
      have hp := List.pairwise_iff_getElem.1 h.two
      rcases Nat.lt_or_gt_of_ne hij with h3 | h3
      · have := hp i j hil hj h3 k (by rw [hie]; exact h2)
        exact this hk
      · have := hp j i hj hil h3 k hk
        rw [hie] at this
        exact this h2
  have hri : (⟨α, K, v, l⟩ : RowX) ∈ rs := List.mem_of_getElem? hi
  have hf : ∀ j, Free W b0 ks rs j → Free W' b0 ks (rs.set i ⟨α, K, v', l ++ [a]⟩) j := fun j hj => ⟨hj.1, by have := hj.2.1; omega, hj.2.2.1, fun r hr h1 => by
    rcases hm r hr with rfl | ⟨h2, _⟩
    · rcases hfr j h1 with h3 | h3
      · exact hj.2.2.2 _ hri h3
      · have := hj.2.1; omega
    · exact hj.2.2.2 r h2 h1⟩
  have hk : ∀ j, Free W b0 ks rs j → W'.heap[j]? = W.heap[j]? := fun j hj => ho j hj.2.1 hj.2.2.1 fun h1 => hj.2.2.2 _ hri h1
  refine ⟨Nat.le_trans h.base hsz, fun r hr => ?_, fun r hr k h1 => ?_, ?_, fun r hr b hb x hx => ?_, fun x hx => x.mono (x.keep (h.held x hx) hk) hf⟩
  · rcases hm r hr with rfl | ⟨h2, h3⟩
    · simpa using hrow
    · exact owns_move' (h.row r h2) fun k h4 => ho k (h.lt h2 h4).2 (h.sep r h2 k h4) (h3 k h4)
  · rcases hm r hr with rfl | ⟨h2, h3⟩
    · rcases hfr k h1 with h4 | h4
      · exact h.sep _ hri k h4
      · exact h4.2
    · exact h.sep r h2 k h1
  · rw [List.pairwise_iff_getElem]
    have hp := List.pairwise_iff_getElem.1 h.two
    obtain ⟨hil, hie⟩ := List.getElem?_eq_some_iff.1 hi
    intro p q hpl hql hpq k hk1 hk2
    simp at hpl hql
    by_cases h1 : i = p
    · subst h1
      have h2 : i ≠ q := by omega
      rw [List.getElem_set_ne h2] at hk2
      simp at hk1
      rcases hfr k hk1 with h4 | h4
      · exact hp i q hpl hql hpq k (by rw [hie]; exact h4) hk2
      · have := (h.lt (List.getElem_mem hql) hk2).2; omega
    · by_cases h2 : i = q
      · subst h2
        rw [List.getElem_set_ne h1] at hk1
        simp at hk2
        rcases hfr k hk2 with h4 | h4
        · have := hp p i hpl hql hpq k hk1
          rw [hie] at this
          exact this h4
        · have := (h.lt (List.getElem_mem hpl) hk1).2; omega
      · rw [List.getElem_set_ne h1] at hk1
        rw [List.getElem_set_ne h2] at hk2
        exact hp p q hpl hql hpq k hk1 hk2
  · rcases hm r hr with rfl | ⟨h2, h3⟩
    · rcases List.mem_append.1 hb with h4 | h4
      · exact x.mono (x.keep (h.ins _ hri b h4 x hx) hk) hf
      · have h5 : b = a := List.mem_singleton.1 h4
        have h6 : x ∈ K.sl b := hx
        rw [h5] at h6
        exact x.mono (x.keep (h.held x (ha x h6)) hk) hf
    · exact x.mono (x.keep (h.ins r h2 b hb x hx) hk) hf
/-- a row is read. -/
theorem Fam.list {α : Type} {K : Kind α} {v : Value} {l : List α} (h : Fam W b0 ks rs hs) (hr : (⟨α, K, v, l⟩ : RowX) ∈ rs) : ∃ r : SV, v = svV r ∧ ListAt K W (Btw b0 W.heap.size) r l := by
  have h1 := h.row _ hr
  obtain ⟨r, rfl, hrn⟩ := owns_sv h1
  obtain ⟨a1, a2, _, a4⟩ := ReadsP.own h1
  refine ⟨r, rfl, by rw [a2]; exact a1, by simp only [maxLen] at a4 hrn; omega, fun a ha x hx => x.mono (h.ins _ hr a ha x hx) fun j hj => ⟨hj.1, hj.2.1⟩⟩
theorem Fam.get {x : Held} (h : Fam W b0 ks rs hs) (hx : x ∈ hs) : x.p W (Btw b0 W.heap.size) := x.mono (h.held x hx) fun j hj => ⟨hj.1, hj.2.1⟩
end
section
variable {P : Program} {T : TT} {N : Nat} {B : Nat} {w0 : World} {ds : List Deferred} {Q : Exit → Act → World → Prop} {F : Fr} {L : Lo} {ops : Array Oper} {rest : List Oper} {ty : TypeId} {p : String} {af : Array Edge}
/-- the next operation is an append to a slice of this type. -/
theorem XL.at_push {N : Nat} {ds : List Deferred} {F : Fr} {d : Nat} (t : TypeId) {args : Array Operand} (k : XL P N B w0 ds Q ops ({ dst := some d, op := .call { callee := .builtin .append, args := args, argTypes := #[t, t] }, type := ty, pos := p, after := af, guard := none } :: rest) F L) :
    XL P N B w0 ds Q ops ({ dst := some d, op := .call { callee := .builtin .append, args := args, argTypes := #[t, t] }, type := ty, pos := p, after := af, guard := none } :: rest) F L := k
/-- append(row, one element). -/
theorem XL.push {α : Type} {K : Kind α} {d : Nat} {t : TypeId} {x y : Operand} {v : Value} {l : List α} {a : α} {c bytes b0 : Nat} {A : Addr} {ks : List Nat} {rs : List RowX} {hs : List Held} {wE : World} (i : Nat) (he : elemOk P t K.ty K.m bytes = true) (h0 : 0 < K.m)
    (hx : evo F x = some v) (hy : evo F y = some (.slice (some A) 1 c)) (hd : Nat.blt d N = true) (hF : Fam w0 b0 ks rs hs) (hi : rs[i]? = some ⟨α, K, v, l⟩) (hks : ∀ k, k ∈ ks → k < w0.heap.size) (hbl : Below B wE w0) (hB : B ≤ b0) (h1 : (K.c a).all Value.oneCell' = true) (h63 : l.length + 1 ≤ 10000000) (hb : bytes ≤ 10000000) (ha : ∀ x, x ∈ K.sl a → x ∈ hs)
    (k : ∀ w' v', Fam w' b0 (L.map (·.1) ++ ks) (rs.set i ⟨α, K, v', l ++ [a]⟩) hs → Below B wE w' → (∀ k, k ∈ L.map (·.1) ++ ks → k < w'.heap.size) → XL P N B w' ds Q ops rest ((d, v') :: F) L)
    (hL : ∀ e, e ∈ L → e.1 ∈ ks ∨ w0.heap.size ≤ e.1 := by (intro e he; repeat (first | (cases he; done) | (rcases List.mem_cons.1 he with rfl | he; · first | (right; assumption) | (left; simp <;> fail)))) <;> fail) (hnews : ∀ w, Sys B w0 L w → ∀ j u, (K.c a)[j]? = some u → w.cell? (A.add j) = some u := by (intro w S j u hj; first | (rw [add_off, Nat.zero_add, S.cell List.mem_cons_self j]; exact hj) | (rw [add_off, Nat.zero_add, S.cell (List.mem_cons_of_mem _ List.mem_cons_self) j]; exact hj) | (rw [add_off, Nat.zero_add, S.cell (List.mem_cons_of_mem _ (List.mem_cons_of_mem _ List.mem_cons_self)) j]; exact hj))) :
    XL P N B w0 ds Q ops ({ dst := some d, op := .call { callee := .builtin .append, args := #[x, y], argTypes := #[t, t] }, type := ty, pos := p, after := af, guard := none } :: rest) F L := by
  have hri : (⟨α, K, v, l⟩ : RowX) ∈ rs := List.mem_of_getElem? hi
  have hk2 : ∀ k, k ∈ L.map (·.1) ++ ks → k ∈ ks ∨ w0.heap.size ≤ k := fun k hk => by
    rcases List.mem_append.1 hk with h | h
    · obtain ⟨e, he, rfl⟩ := List.mem_map.1 h
      exact hL e he
    · exact .inl h
  have hk3 : ∀ w, Sys B w0 L w → ∀ k, k ∈ L.map (·.1) ++ ks → k < w.heap.size := fun w S k hk => by
    rcases List.mem_append.1 hk with h | h
    · obtain ⟨e, he, rfl⟩ := List.mem_map.1 h
      exact S.lt he
    · exact Nat.lt_of_lt_of_le (hks k h) S.size
  refine XL.append2 (v := v) (m := 1) (n := l.length) (size := K.m) (bytes := bytes) (base := b0) (A := A) (xs := l.flatMap K.c) (news := K.c a) (L' := L) he h0 hx hy hd (hF.row _ hri) (fun k hk e he e1 => ?_) (by rw [K.len]; omega) hnews h1 (by unfold maxLen; omega)
    (Nat.le_trans (Nat.mul_le_mul h63 hb) (by decide)) hF.base (List.Sublist.refl _) (fun w v' w' S ho hg _ hfr => ?_)
  · rcases hL e he with h | h
    · exact hF.sep _ hri k hk (e1 ▸ h)
    · have := (hF.lt hri hk).2; omega
  · have hsz := hg.size
    have hS := S.size
    refine k w' v' ?_ (hbl.trans (grown_below S hg fun k hk => Nat.le_trans hB (hF.lt hri hk).1)) fun q hq => Nat.lt_of_lt_of_le (hk3 w S q hq) hsz
    refine (hF.add (ks' := L.map (·.1) ++ ks) hk2).push hi ha ho (Nat.le_trans hS hsz) (fun j hj hn hv => ?_) (fun k hk => ?_)
    · exact grown_old S hg hj (fun e he e1 => hn (List.mem_append_left _ (List.mem_map.2 ⟨e, he, e1⟩))) fun e1 => hv e1.symm
    · rcases hfr k hk with h | h
      · exact .inl h
      · exact .inr ⟨Nat.le_trans hS h, fun h2 => by have := hk3 w S k h2; omega⟩
/-- what a call made: its value, and new things in memory. -/
def Made (w : World) (R : Value → List Held → Prop) (e : Ending) (w' : World) : Prop := ∃ v new, e = .returned v ∧ R v new ∧ (∀ x, x ∈ new → x.p w' (Btw w.heap.size w'.heap.size)) ∧ Below w.heap.size w w'
theorem Fam.call {w0 w1 w2 : World} {b0 : Nat} {ks : List Nat} {rs : List RowX} {hs new : List Held} (hF : Fam w0 b0 ks rs hs) (S : Sys B w0 L w1) (hb : Below w1.heap.size w1 w2) (hL : ∀ e, e ∈ L → e.1 ∈ ks ∨ w0.heap.size ≤ e.1) (hks : ∀ k, k ∈ ks → k < w0.heap.size)
    (hx : ∀ x, x ∈ new → x.p w2 (Btw w1.heap.size w2.heap.size)) : Fam w2 b0 (L.map (·.1) ++ ks) rs (new ++ hs) ∧ ∀ k, k ∈ L.map (·.1) ++ ks → k < w2.heap.size := by
  have hk3 : ∀ k, k ∈ L.map (·.1) ++ ks → k < w1.heap.size := fun k hk => by
    rcases List.mem_append.1 hk with h | h
    · obtain ⟨e, he, rfl⟩ := List.mem_map.1 h
      exact S.lt he
    · exact Nat.lt_of_lt_of_le (hks k h) S.size
  have h1 : Fam w0 b0 (L.map (·.1) ++ ks) rs hs := hF.add fun k hk => by
    rcases List.mem_append.1 hk with h | h
    · obtain ⟨e, he, rfl⟩ := List.mem_map.1 h
      exact hL e he
    · exact .inl h
  have h2 : Fam w1 b0 (L.map (·.1) ++ ks) rs hs := h1.sys S fun e he => .inl (List.mem_append_left _ (List.mem_map.2 ⟨e, he, rfl⟩))
  refine ⟨?_, fun k hk => Nat.lt_of_lt_of_le (hk3 k hk) hb.size⟩
  clear hL hks h1
  induction new with
  | nil => exact h2.below hb
  | cons x new ih =>
    have := ih fun y hy => hx y (List.mem_cons_of_mem _ hy)
    exact this.hold (hx x List.mem_cons_self) fun j hj => ⟨Nat.le_trans h2.base hj.1, hj.2, fun h3 => by have := hk3 j h3; have := hj.1; omega, fun r hr h3 => by have := (h2.lt hr h3).2; have := hj.1; omega⟩
theorem XL.at_call {N : Nat} {ds : List Deferred} {F : Fr} {d : Nat} (f : FuncId) {args : Array Operand} {ats : Array TypeId} (k : XL P N B w0 ds Q ops ({ dst := some d, op := .call { callee := .value (.func f), args := args, argTypes := ats }, type := ty, pos := p, after := af, guard := none } :: rest) F L) :
    XL P N B w0 ds Q ops ({ dst := some d, op := .call { callee := .value (.func f), args := args, argTypes := ats }, type := ty, pos := p, after := af, guard := none } :: rest) F L := k
/-- a call that makes new things; the world behind it is the new base. -/
theorem XL.callF {f : FuncId} {d : Nat} {args : Array Operand} {vs : List Value} {ats : Array TypeId} {b0 : Nat} {ks : List Nat} {rs : List RowX} {hs : List Held} {wE : World} (R : Value → List Held → Prop) (h : callOk P f = true)
    (ha : evos F args.toList = some vs) (hd : Nat.blt d N = true) (hF : Fam w0 b0 ks rs hs) (hks : ∀ k, k ∈ ks → k < w0.heap.size) (hbl : Below B wE w0)
    (hc : ∀ w, Sys B w0 L w → Fam w b0 (L.map (·.1) ++ ks) rs hs → Below B wE w → Calls P f vs.toArray w (Made w R))
    (k : ∀ w' v new, R v new → Fam w' b0 (L.map (·.1) ++ ks) rs (new ++ hs) → Below B wE w' → (∀ k, k ∈ L.map (·.1) ++ ks → k < w'.heap.size) → XL P N B w' ds Q ops rest ((d, v) :: F) L)
    (hL : ∀ e, e ∈ L → e.1 ∈ ks ∨ w0.heap.size ≤ e.1 := by (intro e he; repeat (first | (cases he; done) | (rcases List.mem_cons.1 he with rfl | he; · first | (right; assumption) | (left; simp <;> fail)))) <;> fail) :
    XL P N B w0 ds Q ops ({ dst := some d, op := .call { callee := .value (.func f), args := args, argTypes := ats }, type := ty, pos := p, after := af, guard := none } :: rest) F L := by
  refine XL.call (fst := []) (cap := []) (vs := vs) h rfl ha hd (List.Sublist.refl _) (fun w v w' => ∃ new, R v new ∧ (∀ x, x ∈ new → x.p w' (Btw w.heap.size w'.heap.size)) ∧ Below w.heap.size w w') (fun w S => ?_) (fun w v w' S hR hb S' => ?_)
  · have h1 := hF.call S (Below.refl _ _) hL hks (new := []) fun _ h => by cases h
    simp only [List.nil_append, List.append_nil] at h1 ⊢
    exact (hc w S h1.1 (hbl.trans S.toBelow)).mono fun e w' ⟨v, new, e1, e2, e3, e4⟩ => ⟨v, e1, ⟨new, e2, e3, e4⟩, e4⟩
  · obtain ⟨new, e2, e3, e4⟩ := hR
    have h1 := hF.call S hb hL hks e3
    exact k w' v new e2 h1.1 (hbl.trans S'.toBelow) h1.2
/-- a cut's end; the state may be told by the world. -/
theorem XE.leafW {N : Nat} {ds : List Deferred} {F : Fr} {σ : Type} {G0 : Fr} {G : σ → Fr} {M : σ → Lo} {W : σ → World} {pre : σ → Prop} (h : ∀ w, Sys B w0 L w → ∃ s, pre s ∧ Sub (G s ++ G0) F ∧ Sys B (W s) (M s) w) :
    XE N B w0 ds (cutQ N B ds Q G0 G M W pre) .normal F L := ⟨fun a w hf hs => by
  obtain ⟨s, hp, hG, hS⟩ := h w hs
  exact ⟨s, hp, hG.fits hf, hS⟩⟩
end
theorem Held.lt {x : Held} {w : World} {b0 : Nat} (h : x.p w (Btw b0 w.heap.size)) : x.p w (Lt w.heap.size) := x.mono h fun k hk => hk.2
end Go.Proofs.YtoiepgcjinccpaaDoor.X
/-
  Lists of states and of flows in memory; the walk of Run.
-/
namespace Go.Proofs.YtoiepgcjinccpaaDoor.Bs
/-- what Run answers. -/
noncomputable def runS (b : Bas) (s : Sta) (ts : List Tick) : List Sta := if runE b s ts ≠ 0 then [] else (List.range ts.length).map fun i => staAt b s ts (i + 1)
noncomputable def runF (b : Bas) (s : Sta) (ts : List Tick) : List Flo := if runE b s ts ≠ 0 then [] else (List.range ts.length).map fun i => floAt b s ts i
end Go.Proofs.YtoiepgcjinccpaaDoor.Bs
namespace Go.Proofs.YtoiepgcjinccpaaDoor.X
open Go Go.RowKit Go.Proofs.YtoiepgcjinccpaaDoor.Bs
set_option linter.unusedVariables false
structure StaI where
  s : Sta
  q : SV
structure FloI where
  f : Flo
  r : SV
def StaI.c (a : StaI) : List Value := staC a.q a.s
def FloI.c (a : FloI) : List Value := floC a.r a.f
def staK : Kind StaI := ⟨28, 2, StaI.c, fun a => [hInts a.q a.s.fil], fun _ => rfl⟩
def floK : Kind FloI := ⟨32, 5, FloI.c, fun a => [hInts a.r a.f.taken], fun _ => rfl⟩
def momK : Kind Mom := ⟨103, 7, Mom.c, fun m => [hInts m.q m.s.fil, hInts m.r m.f.taken], Mom.c_len⟩
def Mom.a (m : Mom) : StaI := ⟨m.s, m.q⟩
def Mom.b (m : Mom) : FloI := ⟨m.f, m.r⟩
/-- what Run leaves. -/
def RunsR (b : Bas) (s : Sta) (ts : List Tick) (w : World) (v : Value) (w' : World) : Prop :=
  ∃ (r1 r2 : SV) (l1 : List StaI) (l2 : List FloI), v = .tuple ⟨[svV r1, svV r2, .int .i64 (runE b s ts)]⟩ ∧ ListAt staK w' (Btw w.heap.size w'.heap.size) r1 l1 ∧ ListAt floK w' (Btw w.heap.size w'.heap.size) r2 l2 ∧
    l1.map (·.s) = runS b s ts ∧ l2.map (·.f) = runF b s ts ∧ Below w.heap.size w w'
end Go.Proofs.YtoiepgcjinccpaaDoor.X
/-
  The walk of the document's Run.
-/
namespace Go.Proofs.YtoiepgcjinccpaaDoor.X
open Go Go.RowKit Go.Proofs.YtoiepgcjinccpaaDoor.Bs
set_option linter.unusedVariables false
/-- what a tick gives. -/
def StepV (b : Bas) (s : Sta) (t : Tick) (v : Value) (new : List Held) : Prop := ∃ q r : SV, v = .tuple ⟨[staV q (outS b s t), floV r (outF b s t), .int .i64 (stepE b s t)]⟩ ∧ new = [hInts q (outS b s t).fil, hInts r (outF b s t).taken]
def RunV (b : Bas) (s : Sta) (ts : List Tick) (v : Value) (new : List Held) : Prop :=
  ∃ (r1 r2 : SV) (l1 : List StaI) (l2 : List FloI), v = .tuple ⟨[svV r1, svV r2, .int .i64 (runE b s ts)]⟩ ∧ new = [hList staK r1 l1, hList floK r2 l2] ∧ l1.map (·.s) = runS b s ts ∧ l2.map (·.f) = runF b s ts
end Go.Proofs.YtoiepgcjinccpaaDoor.X
/-
  The walk of SameRun on equal runs; the law BasinRuns.
-/
namespace Go.Proofs.YtoiepgcjinccpaaDoor.X
open Go Go.RowKit Go.Proofs.YtoiepgcjinccpaaDoor.Bs
set_option linter.unusedVariables false
end Go.Proofs.YtoiepgcjinccpaaDoor.X
/-
  The walks of the document's stay and Stay; of both Floods.
-/
namespace Go.Proofs.YtoiepgcjinccpaaDoor.Bs
def Flo.t (f : Flo) (i : Nat) : Int := f.taken[i]?.getD 0
/-- the first tick in which polder i takes water, or -1. -/
def firstF (fs : List Flo) (i : Nat) : Int := match fs.findIdx? fun f => decide (0 < f.t i) with
  | some k => ((k : Nat) : Int)
  | none => -1
noncomputable def floods (b : Bas) (s : Sta) (ts : List Tick) : List Int := if runE b s ts ≠ 0 then [] else (List.range b.pols.length).map (firstF (runF b s ts))
end Go.Proofs.YtoiepgcjinccpaaDoor.Bs
namespace Go.Proofs.YtoiepgcjinccpaaDoor.X
open Go Go.RowKit Go.Proofs.YtoiepgcjinccpaaDoor.Bs
set_option linter.unusedVariables false
end Go.Proofs.YtoiepgcjinccpaaDoor.X
/-
  The walks of both Floods.
-/
namespace Go.Proofs.YtoiepgcjinccpaaDoor.Bs
/-- the first tick from m on in which polder i takes water. -/
def firstG (fs : List Flo) (i m : Nat) : Int := match (fs.drop m).findIdx? fun f => decide (0 < f.t i) with
  | some k => (((m + k : Nat)) : Int)
  | none => -1
end Go.Proofs.YtoiepgcjinccpaaDoor.Bs
namespace Go.Proofs.YtoiepgcjinccpaaDoor.X
open Go Go.RowKit Go.Proofs.YtoiepgcjinccpaaDoor.Bs
set_option linter.unusedVariables false
def intK : Kind Int := ⟨3, 1, fun k => [.int .i64 k], fun _ => [], fun _ => rfl⟩
theorem intK_el : elemOk Tryd.prog 26 intK.ty intK.m 8 = true := by kernel_rfl
theorem ints_flat' (l : List Int) : l.flatMap intK.c = ints l := by
  unfold ints
  induction l with
  | nil => rfl
  | cons a l ih => rw [List.flatMap_cons, ih]; rfl
theorem ListAt.ints {w : World} {ok : Nat → Prop} {r : SV} {l : List Int} (h : ListAt intK w ok r l) : IntsAt w ok r l := ⟨by have := h.rd; rw [ints_flat'] at this; exact this, h.max⟩
/-- what run leaves. -/
def MomV (b : Bas) (s : Sta) (ts : List Tick) (v : Value) (new : List Held) : Prop :=
  ∃ (rm : SV) (ms : List Mom), v = .tuple ⟨[svV rm, .int .i64 (runE b s ts)]⟩ ∧ new = [hList momK rm ms] ∧ ms.length ≤ 300 ∧ ms.map (·.s) = runS b s ts ∧ ms.map (·.f) = runF b s ts
/-- what Floods leaves. -/
def FloodV (b : Bas) (s : Sta) (ts : List Tick) (v : Value) (new : List Held) : Prop := ∃ r : SV, v = .tuple ⟨[svV r, .int .i64 (runE b s ts)]⟩ ∧ new = [hInts r (floods b s ts)]
def idxV (ms : List Mom) (P : Mom → Bool) : Int := match ms.findIdx? P with
  | some i => ((i : Nat) : Int)
  | none => -1
end Go.Proofs.YtoiepgcjinccpaaDoor.X
/-
  The walk of the document's Floods; the law BasinStays.
-/
namespace Go.Proofs.YtoiepgcjinccpaaDoor.X
open Go Go.RowKit Go.Proofs.YtoiepgcjinccpaaDoor.Bs
set_option linter.unusedVariables false
/-- a case. -/
structure CV where
  q : SV
  r : SV
structure Cas where
  s : Sta
  ts : List Tick
  lim : Int
def caseC (x : CV) (c : Cas) : List Value := [.int .i64 c.s.vol, .slice x.q.A x.q.n x.q.c, .slice x.r.A x.r.n x.r.c, .int .i64 c.lim]
def caseV (x : CV) (c : Cas) : Value := .agg ⟨caseC x c⟩
structure CaseAt (w : World) (ok : Nat → Prop) (x : CV) (c : Cas) : Prop where
  fil : IntsAt w ok x.q c.s.fil
  tks : TksAt w ok x.r c.ts
end Go.Proofs.YtoiepgcjinccpaaDoor.X
/-
  The plain words of layer 4: levels of volumes and volumes of levels, and that both are in order.
-/
namespace Go.Proofs.YtoiepgcjinccpaaDoor.Bs
set_option linter.unusedVariables false
/-- the piece in which a level lies. -/
def lsegTo (b : Bas) (l : Int) : Nat → Nat
  | 0 => 0
  | k + 1 => if (b.row (k + 1)).level ≤ l then k + 1 else lsegTo b l k
def lseg (b : Bas) (l : Int) : Nat := lsegTo b l (b.rows.length - 2)
/-- the greatest volume whose level is at most l, as the program reckons it. -/
def volAt (b : Bas) (l : Int) : Int := (b.row (lseg b l)).vol + (l - (b.row (lseg b l)).level) * ((b.row (lseg b l + 1)).vol - (b.row (lseg b l)).vol) / ((b.row (lseg b l + 1)).level - (b.row (lseg b l)).level)
def volOf (b : Bas) (l : Int) : Int := min 1000000000 (volAt b l)
def levLo (b : Bas) (v : Int) : Int := num b v / den b v
def levHi (b : Bas) (v : Int) : Int := -((-(num b v)) / den b v)
section
variable {b : Bas} (h : RowsOk b)
include h
end
end Go.Proofs.YtoiepgcjinccpaaDoor.Bs
/-
  Rows that take whole lists; rows that are built or made; a slice from a place on.
-/
namespace Go.Proofs.YtoiepgcjinccpaaDoor.X
open Go Go.RowKit
set_option linter.unusedVariables false
section
variable {W W' w w0 w1 w2 : World} {b0 B : Nat} {ks ks' : List Nat} {rs : List RowX} {hs hs' : List Held} {L : Lo}
/-- a row takes a list. -/
theorem Fam.pushL {α : Type} {K : Kind α} {v v' : Value} {l l2 : List α} {i : Nat} (h : Fam W b0 ks rs hs) (hi : rs[i]? = some ⟨α, K, v, l⟩) (ha : ∀ a, a ∈ l2 → ∀ x, x ∈ K.sl a → x.p W (Free W b0 ks rs)) (hrow : W'.ownsRow b0 K.ty K.m v' (l.length + l2.length) (l.flatMap K.c ++ l2.flatMap K.c))
    (hsz : W.heap.size ≤ W'.heap.size) (ho : ∀ j, j < W.heap.size → j ∉ ks → v.ownBlock ≠ some j → W'.heap[j]? = W.heap[j]?) (hfr : ∀ k, v'.ownBlock = some k → v.ownBlock = some k ∨ (W.heap.size ≤ k ∧ k ∉ ks)) :
    Fam W' b0 ks (rs.set i ⟨α, K, v', l ++ l2⟩) hs := by
  have hm : ∀ r, r ∈ rs.set i ⟨α, K, v', l ++ l2⟩ → r = ⟨α, K, v', l ++ l2⟩ ∨ (r ∈ rs ∧ ∀ k, r.v.ownBlock = some k → v.ownBlock ≠ some k) := fun r hr => by
    obtain ⟨j, hj, rfl⟩ := List.mem_iff_getElem.1 hr
    by_cases hij : i = j
    · subst hij; left; simp
    · right
      rw [List.getElem_set_ne hij]
      simp at hj
      refine ⟨List.getElem_mem _, fun k hk h2 => ?_⟩
      obtain ⟨hil, hie⟩ := List.getElem?_eq_some_iff.1 hi
      have hp := List.pairwise_iff_getElem.1 h.two
      rcases Nat.lt_or_gt_of_ne hij with h3 | h3
      · have := hp i j hil hj h3 k (by rw [hie]; exact h2)
        exact this hk
      · have := hp j i hj hil h3 k hk
        rw [hie] at this
        exact this h2
  have hri : (⟨α, K, v, l⟩ : RowX) ∈ rs := List.mem_of_getElem? hi
  have hf : ∀ j, Free W b0 ks rs j → Free W' b0 ks (rs.set i ⟨α, K, v', l ++ l2⟩) j := fun j hj => ⟨hj.1, by have := hj.2.1; omega, hj.2.2.1, fun r hr h1 => by
    rcases hm r hr with rfl | ⟨h2, _⟩
    · rcases hfr j h1 with h3 | h3
      · exact hj.2.2.2 _ hri h3
      · have := hj.2.1; omega
    · exact hj.2.2.2 r h2 h1⟩
  have hk : ∀ j, Free W b0 ks rs j → W'.heap[j]? = W.heap[j]? := fun j hj => ho j hj.2.1 hj.2.2.1 fun h1 => hj.2.2.2 _ hri h1
  refine ⟨Nat.le_trans h.base hsz, fun r hr => ?_, fun r hr k h1 => ?_, ?_, fun r hr b hb x hx => ?_, fun x hx => x.mono (x.keep (h.held x hx) hk) hf⟩
  · rcases hm r hr with rfl | ⟨h2, h3⟩
    · simpa using hrow
    · exact owns_move' (h.row r h2) fun k h4 => ho k (h.lt h2 h4).2 (h.sep r h2 k h4) (h3 k h4)
  · rcases hm r hr with rfl | ⟨h2, h3⟩
    · rcases hfr k h1 with h4 | h4
      · exact h.sep _ hri k h4
      · exact h4.2
    · exact h.sep r h2 k h1
  · rw [List.pairwise_iff_getElem]
    have hp := List.pairwise_iff_getElem.1 h.two
    obtain ⟨hil, hie⟩ := List.getElem?_eq_some_iff.1 hi
    intro p q hpl hql hpq k hk1 hk2
    simp at hpl hql
    by_cases h1 : i = p
    · subst h1
      have h2 : i ≠ q := by omega
      rw [List.getElem_set_ne h2] at hk2
      simp at hk1
      rcases hfr k hk1 with h4 | h4
      · exact hp i q hpl hql hpq k (by rw [hie]; exact h4) hk2
      · have := (h.lt (List.getElem_mem hql) hk2).2; omega
    · by_cases h2 : i = q
      · subst h2
        rw [List.getElem_set_ne h1] at hk1
        simp at hk2
        rcases hfr k hk2 with h4 | h4
        · have := hp p i hpl hql hpq k hk1
          rw [hie] at this
          exact this h4
        · have := (h.lt (List.getElem_mem hpl) hk1).2; omega
      · rw [List.getElem_set_ne h1] at hk1
        rw [List.getElem_set_ne h2] at hk2
        exact hp p q hpl hql hpq k hk1 hk2
  · rcases hm r hr with rfl | ⟨h2, h3⟩
    · rcases List.mem_append.1 hb with h4 | h4
      · exact x.mono (x.keep (h.ins _ hri b h4 x hx) hk) hf
      · exact x.mono (x.keep (ha b h4 x hx) hk) hf
    · exact x.mono (x.keep (h.ins r h2 b hb x hx) hk) hf
theorem svV_inj {r q : SV} (h : svV r = svV q) : r = q := by
  obtain ⟨a, b, c⟩ := r
  obtain ⟨a', b', c'⟩ := q
  simp only [svV, Value.slice.injEq] at h
  obtain ⟨rfl, rfl, rfl⟩ := h
  rfl
theorem Fam.listOf {α : Type} {K : Kind α} {r : SV} {l : List α} (h : Fam W b0 ks rs hs) (hr : (⟨α, K, svV r, l⟩ : RowX) ∈ rs) : ListAt K W (Btw b0 W.heap.size) r l := by
  obtain ⟨q, e, h1⟩ := h.list hr
  rw [svV_inj e]
  exact h1
/-- a new row. -/
theorem Fam.fresh {α : Type} {K : Kind α} {v : Value} {l : List α} (h : Fam W b0 ks rs hs) (hsz : W.heap.size ≤ W'.heap.size) (ho : ∀ j, j < W.heap.size → j ∉ ks → W'.heap[j]? = W.heap[j]?) (hrow : W'.ownsRow b0 K.ty K.m v l.length (l.flatMap K.c))
    (hv : ∀ k, v.ownBlock = some k → W.heap.size ≤ k ∧ k ∉ ks) (ha : ∀ a, a ∈ l → ∀ x, x ∈ K.sl a → x.p W (Free W b0 ks rs)) : Fam W' b0 ks (⟨α, K, v, l⟩ :: rs) hs := by
  have h1 := h.move hsz ho
  have hf : ∀ j, Free W b0 ks rs j → Free W' b0 ks (⟨α, K, v, l⟩ :: rs) j := fun j hj => ⟨hj.1, by have := hj.2.1; omega, hj.2.2.1, fun r hr h2 => by
    rcases List.mem_cons.1 hr with rfl | hr
    · have := (hv j h2).1; have := hj.2.1; omega
    · exact hj.2.2.2 r hr h2⟩
  have hk : ∀ j, Free W b0 ks rs j → W'.heap[j]? = W.heap[j]? := fun j hj => ho j hj.2.1 hj.2.2.1
  refine ⟨h1.base, fun r hr => ?_, fun r hr k h2 => ?_, .cons (fun r hr k h2 h3 => ?_) h.two, fun r hr a hb x hx => ?_, fun x hx => x.mono (x.keep (h.held x hx) hk) hf⟩
  · rcases List.mem_cons.1 hr with rfl | hr
    · exact hrow
    · exact h1.row r hr
  · rcases List.mem_cons.1 hr with rfl | hr
    · exact (hv k h2).2
    · exact h.sep r hr k h2
  · have := (hv k h2).1; have := (h.lt hr h3).2; omega
  · rcases List.mem_cons.1 hr with rfl | hr
    · exact x.mono (x.keep (ha a hb x hx) hk) hf
    · exact x.mono (x.keep (h.ins r hr a hb x hx) hk) hf
end
section
variable {P : Program} {T : TT} {N : Nat} {B : Nat} {w0 : World} {ds : List Deferred} {Q : Exit → Act → World → Prop} {F : Fr} {L : Lo} {pu : Prop} {ops : Array Oper} {rest : List Oper} {ty : TypeId} {p : String} {af : Array Edge}
variable {dst : Option Tmp} {gd : Option (Nat × Bool)}
theorem append_none_run {w : World} {base t e size bytes n c : Nat} {v : Value} {xs : List Value} (he : elemOk P t e size bytes = true) (hown : w.ownsRow base e size v n xs) : (Builtin.append_ #[t, t] ty #[v, .slice none 0 c]).run P w = .ok v w := by
  obtain ⟨hu, i, z, hi, hz, e1, e2, e3⟩ := elemOk_spec he
  rcases hown.2 with ⟨rfl, rfl⟩ | ⟨g, cap, cur, rfl, hb, hg, hc, hm, h⟩
  · simp [Builtin.append_, run_underlying hu, sizeOf_run hi, Builtin.lenOf, Builtin.firstCells]
  · have : ¬ cap < n := by omega
    simp [Builtin.append_, run_underlying hu, sizeOf_run hi, Builtin.lenOf, Builtin.firstCells, storeCells, hc, this]
/-- append(row, a whole list). -/
theorem XL.pushL {α : Type} {K : Kind α} {d : Nat} {t : TypeId} {x y : Operand} {v : Value} {l l2 : List α} {r2 : SV} {bytes b0 : Nat} {ks : List Nat} {rs : List RowX} {hs : List Held} {wE : World} (i : Nat) (he : elemOk P t K.ty K.m bytes = true) (h0 : 0 < K.m)
    (hx : evo F x = some v) (hy : evo F y = some (.slice r2.A r2.n r2.c)) (hd : Nat.blt d N = true) (hF : Fam w0 b0 ks rs hs) (hi : rs[i]? = some ⟨α, K, v, l⟩) (hks : ∀ k, k ∈ ks → k < w0.heap.size) (hbl : Below B wE w0) (hB : B ≤ b0)
    (hr : ∀ w, Sys B w0 L w → ListAt K w (Lt w.heap.size) r2 l2) (ha : ∀ a, a ∈ l2 → ∀ x, x ∈ K.sl a → x.p w0 (Free w0 b0 ks rs)) (h1 : ∀ a : α, (K.c a).all Value.oneCell' = true) (h63 : l.length + l2.length ≤ 10000000) (hb : bytes ≤ 10000000)
    (k : ∀ w' v', Fam w' b0 (L.map (·.1) ++ ks) (rs.set i ⟨α, K, v', l ++ l2⟩) hs → Below B wE w' → (∀ k, k ∈ L.map (·.1) ++ ks → k < w'.heap.size) → XL P N B w' ds Q ops rest ((d, v') :: F) L)
    (hL : ∀ e, e ∈ L → e.1 ∈ ks ∨ w0.heap.size ≤ e.1 := by (intro e he; repeat (first | (cases he; done) | (rcases List.mem_cons.1 he with rfl | he; · first | (right; assumption) | (left; simp <;> fail)))) <;> fail) :
    XL P N B w0 ds Q ops ({ dst := some d, op := .call { callee := .builtin .append, args := #[x, y], argTypes := #[t, t] }, type := ty, pos := p, after := af, guard := none } :: rest) F L := by
  obtain ⟨A, m, c⟩ := r2
  have hri : (⟨α, K, v, l⟩ : RowX) ∈ rs := List.mem_of_getElem? hi
  have hk2 : ∀ k, k ∈ L.map (·.1) ++ ks → k ∈ ks ∨ w0.heap.size ≤ k := fun k hk => by
    rcases List.mem_append.1 hk with h | h
    · obtain ⟨e, he, rfl⟩ := List.mem_map.1 h
      exact hL e he
    · exact .inl h
  have hk3 : ∀ w, Sys B w0 L w → ∀ k, k ∈ L.map (·.1) ++ ks → k < w.heap.size := fun w S k hk => by
    rcases List.mem_append.1 hk with h | h
    · obtain ⟨e, he, rfl⟩ := List.mem_map.1 h
      exact S.lt he
    · exact Nat.lt_of_lt_of_le (hks k h) S.size
  have hsepL : ∀ k, v.ownBlock = some k → ∀ e, e ∈ L → e.1 ≠ k := fun k hk e he e1 => by
    rcases hL e he with h | h
    · exact hF.sep _ hri k hk (e1 ▸ h)
    · have := (hF.lt hri hk).2; omega
  cases A with
  | none =>
    refine ⟨fun a w hf S => ?_⟩
    refine wpList_plain rfl fun Kk hK => ?_
    unfold Oper.wp
    have hl := hr w S
    have hm := hl.len h0
    simp only at hm
    have hm0 : m = 0 := by
      rcases Nat.eq_zero_or_pos m with h | h
      · exact h
      · obtain ⟨ad, e, _⟩ := hl.rd.at_ (by simpa using h)
        cases e
    subst hm0
    have hl2 : l2 = [] := List.length_eq_zero_iff.1 hm.symm
    subst hl2
    have hrun := append_none_run (ty := ty) (c := c) he (owns_sys (hF.row _ hri) S hsepL)
    have : (execOp a.eval { dst := some d, op := .call { callee := .builtin .append, args := #[x, y], argTypes := #[t, t] }, type := ty, pos := p, after := af, guard := none }).run P w = .ok (.value v) w := by
      have hm : (#[x, y] : Array Operand).map a.eval = #[v, .slice none 0 c] := by simp [hf.eval hx, hf.eval hy]
      simp only [execOp, resolve, Sem.run_bind, Sem.run_pure, Result.andThen_ok, invoke, builtin, hm, hrun]
    rw [this]
    refine hK _ _ ((k w v ?_ (hbl.trans S.toBelow) (hk3 w S)).run _ _ (hf.put hd) (S.rebase (List.Sublist.refl _)))
    have h2 := (hF.add (ks' := L.map (·.1) ++ ks) hk2).sys S fun e he => .inl (List.mem_append_left _ (List.mem_map.2 ⟨e, he, rfl⟩))
    obtain ⟨hil, hie⟩ := List.getElem?_eq_some_iff.1 hi
    have h3 : rs.set i ⟨α, K, v, l ++ []⟩ = rs := by
      rw [List.append_nil, ← hie]
      exact List.set_getElem_self hil
    rw [h3]
    exact h2
  | some A =>
    by_cases hex : ∃ w, Sys B w0 L w
    · obtain ⟨wx, Sx⟩ := hex
      have hm := (hr wx Sx).len h0
      simp only at hm
      subst hm
      refine XL.append2 (v := v) (m := l2.length) (n := l.length) (size := K.m) (bytes := bytes) (base := b0) (A := A) (xs := l.flatMap K.c) (news := l2.flatMap K.c) (L' := L) he h0 hx hy hd (hF.row _ hri) hsepL (by rw [flat_len K.c K.m K.len])
        (fun w S j u hj => ?_) ?_ (by unfold maxLen; omega) (Nat.le_trans (Nat.mul_le_mul h63 hb) (by decide)) hF.base (List.Sublist.refl _) (fun w v' w' S ho hg _ hfr => ?_)
      · have h2 := hr w S
        have hjl := (List.getElem?_eq_some_iff.1 hj).1
        rw [flat_len K.c K.m K.len] at hjl
        have hpos : 0 < l2.length := by
          rcases Nat.eq_zero_or_pos l2.length with h | h
          · rw [h] at hjl; omega
          · exact h
        obtain ⟨ad, e, _, h3⟩ := h2.rd.at_ hpos
        cases e
        exact h3 j u hj
      · rw [List.all_eq_true]
        intro u hu
        obtain ⟨a, ha', hu'⟩ := List.mem_flatMap.1 hu
        exact List.all_eq_true.1 (h1 a) u hu'
      · have hsz := hg.size
        have hS := S.size
        refine k w' v' ?_ (hbl.trans (grown_below S hg fun k hk => Nat.le_trans hB (hF.lt hri hk).1)) fun q hq => Nat.lt_of_lt_of_le (hk3 w S q hq) hsz
        have hfa : ∀ j, Free w0 b0 ks rs j → Free w0 b0 (L.map (·.1) ++ ks) rs j := fun j hj => ⟨hj.1, hj.2.1, fun h => by
          rcases hk2 j h with h4 | h4
          · exact hj.2.2.1 h4
          · have := hj.2.1; omega, hj.2.2.2⟩
        refine (hF.add (ks' := L.map (·.1) ++ ks) hk2).pushL hi (fun a h4 x hx => x.mono (ha a h4 x hx) hfa) ho (Nat.le_trans hS hsz) (fun j hj hn hv => ?_) (fun k hk => ?_)
        · exact grown_old S hg hj (fun e he e1 => hn (List.mem_append_left _ (List.mem_map.2 ⟨e, he, e1⟩))) fun e1 => hv e1.symm
        · rcases hfr k hk with h | h
          · exact .inl h
          · exact .inr ⟨Nat.le_trans hS h, fun h2 => by have := hk3 w S k h2; omega⟩
    · exact ⟨fun a w hf S => absurd ⟨w, S⟩ hex⟩
theorem XL.weak1 {t : Nat} {u : Value} (h : XL P N B w0 ds Q ops rest F L) : XL P N B w0 ds Q ops rest ((1000000 + t, u) :: F) L :=
  ⟨fun a w hf hs => h.run a w ⟨hf.size, hf.defers, fun t' v ht hv => hf.get t' v ht (by
    unfold lk
    have : Nat.beq (1000000 + t) t' = false := by
      cases hb : Nat.beq (1000000 + t) t' with
      | false => rfl
      | true => have := Nat.eq_of_beq_eq_true hb; omega
    rw [this]
    exact hv)⟩ hs⟩
/-- a slice literal is a new row. -/
theorem XL.newRow (hT : TOK P T) {α : Type} {K : Kind α} {l : List α} {d : Nat} {t e : TypeId} {n size b0 : Nat} {ps : List (Nat × Operand)} {z : Value} {zs cs : List Value} {ks : List Nat} {rs : List RowX} {hs : List Held} {wE : World}
    (hs' : lkG T.sl t = some (e, size)) (hz : lkG T.zero e = some z) (hzs : cellsO z = some zs) (hsz : Nat.beq zs.length size = true) (h0 : Nat.blt 0 size = true) (hbig : Nat.ble (n * size) 16777216 = true) {zl : List Value} (hzl : zerosO zs n = some zl) (hc : fillS F size zl ps = some cs) (hd : Nat.blt d N = true)
    (hK : K.ty = e ∧ K.m = size) (hcs : cs = l.flatMap K.c) (hn : l.length = n) (hF : Fam w0 b0 ks rs hs) (hks : ∀ k, k ∈ ks → k < w0.heap.size) (hbl : Below B wE w0) (hb0 : b0 ≤ w0.heap.size) (ha : ∀ a, a ∈ l → ∀ x, x ∈ K.sl a → x.p w0 (Free w0 b0 ks rs))
    (k : ∀ w' g, Fam w' b0 (L.map (·.1) ++ ks) (⟨α, K, .slice (some ⟨g, 0, none⟩) n n, l⟩ :: rs) hs → Below B wE w' → (∀ k, k ∈ L.map (·.1) ++ ks → k < w'.heap.size) → XL P N B w' ds Q ops rest ((d, .slice (some ⟨g, 0, none⟩) n n) :: F) L)
    (hL : ∀ e, e ∈ L → e.1 ∈ ks ∨ w0.heap.size ≤ e.1 := by (intro e he; repeat (first | (cases he; done) | (rcases List.mem_cons.1 he with rfl | he; · first | (right; assumption) | (left; simp <;> fail)))) <;> fail) :
    XL P N B w0 ds Q ops ({ dst := some d, op := .buildSlice t n ps.toArray, type := ty, pos := p, after := af, guard := none } :: rest) F L := by
  refine XL.buildSlice hT hs' hz hzs hsz h0 hbig hzl hc hd fun g hg => ?_
  refine XL.rebase (List.sublist_cons_self _ _) fun w1 S => ?_
  have hk2 : ∀ k, k ∈ L.map (·.1) ++ ks → k ∈ ks ∨ w0.heap.size ≤ k := fun k hk => by
    rcases List.mem_append.1 hk with h | h
    · obtain ⟨e, he, rfl⟩ := List.mem_map.1 h
      exact hL e he
    · exact .inl h
  have hk3 : ∀ k, k ∈ L.map (·.1) ++ ks → k < w1.heap.size := fun k hk => by
    rcases List.mem_append.1 hk with h | h
    · obtain ⟨e, he, rfl⟩ := List.mem_map.1 h
      exact S.lt (List.mem_cons_of_mem _ he)
    · exact Nat.lt_of_lt_of_le (hks k h) S.size
  have hgL : g ∉ L.map (·.1) := by have := S.nd; simp only [List.map_cons, List.nodup_cons] at this; exact this.1
  have hfa : ∀ j, Free w0 b0 ks rs j → Free w0 b0 (L.map (·.1) ++ ks) rs j := fun j hj => ⟨hj.1, hj.2.1, fun h => by
    rcases hk2 j h with h4 | h4
    · exact hj.2.2.1 h4
    · have := hj.2.1; omega, hj.2.2.2⟩
  obtain ⟨hK1, hK2⟩ := hK
  have hrow : w1.ownsRow b0 K.ty K.m (.slice (some ⟨g, 0, none⟩) n n) l.length (l.flatMap K.c) := by
    have h5 := (S.own (g, _) List.mem_cons_self).2
    have h6 : (l.flatMap K.c).length = n * K.m := by rw [flat_len K.c K.m K.len, hn]
    have hsz' : 0 < K.m := by rw [hK2]; exact Nat.le_of_ble_eq_true h0
    have hbig' : n * K.m ≤ 16777216 := by rw [hK2]; exact Nat.le_of_ble_eq_true hbig
    have hnm : n ≤ n * K.m := Nat.le_mul_of_pos_right n hsz'
    refine ⟨by rw [h6, hn], .inr ⟨g, n, ⟨l.flatMap K.c⟩, by rw [hn], Nat.le_trans hb0 hg, ?_, by omega, by unfold maxLen; omega, by simpa using h6, ?_⟩⟩
    · rw [hK1, ← hcs]; exact h5
    · rw [hn, ← h6]
      simp only [List.take_length]
  refine XL.weak1 (k w1 g ((hF.add (ks' := L.map (·.1) ++ ks) hk2).fresh S.size (fun j hj hn' => ?_) hrow (fun q hq => ?_) fun a h4 x hx => x.mono (ha a h4 x hx) hfa) (hbl.trans S.toBelow) hk3)
  · exact S.old j hj fun e he e1 => by
      rcases List.mem_cons.1 he with rfl | he
      · simp only at e1; omega
      · exact hn' (List.mem_append_left _ (List.mem_map.2 ⟨e, he, e1⟩))
  · simp only [Value.ownBlock, Option.some.injEq] at hq
    subst hq
    refine ⟨hg, fun h7 => ?_⟩
    rcases List.mem_append.1 h7 with h8 | h8
    · exact hgL h8
    · have := hks _ h8; omega
/-- make([]int, n). -/
theorem XL.makeInts {d : Nat} {t e : TypeId} {x y : Operand} {n : Nat} (he : elemOk P t e 1 8 = true) (hz : (P.info? e).bind (·.zero) = some (.int .i64 0)) (hx : evo F x = some (.int .i64 (n : Nat))) (hy : evo F y = some (.int .i64 (n : Nat))) (hd : Nat.blt d N = true) (hn : n ≤ 1000000)
    (k : ∀ g, w0.heap.size ≤ g → XL P N B w0 ds Q ops rest ((1000000 + d, .slice none L.length 0) :: (d, .slice (some ⟨g, 0, none⟩) n n) :: F) ((g, cel e (ints (List.replicate n 0))) :: L)) :
    XL P N B w0 ds Q ops ({ dst := some d, op := .makeSlice t x y, type := ty, pos := p, after := af, guard := none } :: rest) F L := by
  refine ⟨fun a w hf hw => ?_⟩
  refine wpList_plain rfl fun Kk hK => ?_
  unfold Oper.wp
  obtain ⟨hu, i, z, hi, hz', e1, e2, e3⟩ := elemOk_spec he
  rw [hi] at hz
  simp only [Option.bind_some] at hz
  have hz2 : z = .int .i64 0 := by rw [hz'] at hz; exact Option.some.inj hz
  subst hz2
  have hrun := run_makeSlice (P := P) w t e i (.int .i64 0) hu hi hz' .i64 .i64 (n : Int) (n : Int) (by omega) (Int.le_refl _) (by rw [e1]; simp; omega) (by rw [e2]; omega) (by omega)
  have hmc : madeCells (Value.int .i64 0).cells ((n : Int).toNat * i.size) = ⟨ints (List.replicate n 0)⟩ := by
    rw [e1]
    apply Array.ext
    · simp [madeCells, ints]
    · intro j h1 h2
      simp [madeCells, ints, Value.cells]
      rw [show j % 1 = 0 from by omega]
      rfl
  rw [hmc] at hrun
  simp only [Int.toNat_natCast] at hrun
  have : (execOp a.eval { dst := some d, op := .makeSlice t x y, type := ty, pos := p, after := af, guard := none }).run P w = .ok (.value (.slice (some ⟨w.heap.size, 0, none⟩) n n)) (w.alloc (cel e (ints (List.replicate n 0)))) := by
    simp [execOp, hf.eval hx, hf.eval hy, hrun]
  rw [this]
  exact hK _ _ ((k w.heap.size hw.size).run _ _ ((hf.put hd).hint d _) (hw.box _))
/-- x[j:], whatever room there is. -/
theorem Ev.slice_from (hT : TOK P T) {t e es : Nat} {x lo : Operand} {A : Option Addr} {n c : Nat} {k : IntKind} {q : Int} (j : Nat) (hx : evo F x = some (.slice A n c)) (hlo : evo F lo = some (.int k q)) (hq : q = (j : Int))
    (hs : lkG T.sl t = some (e, es)) (h1 : j ≤ n) : Ev P N B w0 ds pu F L ⟨dst, .slice t x (some lo) none none, ty, p, af, gd⟩ (.slice (if c = j then A else A.map (·.add (j * es))) (n - j) (c - j)) :=
  .of_run fun a w hf hw => by
    have h := tab_ok hT.sl hs
    unfold slOf at h
    cases hu : P.underlying t with
    | none => rw [hu] at h; cases h
    | some d =>
      rw [hu] at h
      cases d <;> simp at h
      obtain ⟨i, hi, rfl, rfl⟩ := h
      subst hq
      have hz := sizeOf_run hi w
      simp [execOp, hf.eval hx, hf.eval hlo, Instr.sliceAt, Instr.slice, run_underlying hu, Instr.sliceBounds, Instr.sliceBound, asIntOf, hz, h1]
end
end Go.Proofs.YtoiepgcjinccpaaDoor.X
/-
  The plain words of layer 4: more water at first, and in each tick, is not less water later.
-/
namespace Go.Proofs.YtoiepgcjinccpaaDoor.Bs
set_option linter.unusedVariables false
section
variable {b : Bas} (h : Ok b)
include h
/-- what a polder would take if it had room. -/
def takeQ (b : Bas) (i : Nat) (v : Int) : Int := (b.pol i).take * (num b v - (b.pol i).sill * den b v) / den b v
/-- a state that is not less. -/
structure StaLe (b : Bas) (s s' : Sta) : Prop where
  vol : s.vol ≤ s'.vol
  fil : ∀ i, i < b.pols.length → s.f i ≤ s'.f i
/-- a tick that brings no less. -/
structure TickLe (t t' : Tick) : Prop where
  outer : t.outer ≤ t'.outer
  river : t.river ≤ t'.river
  out : t'.out ≤ t.out
end
end Go.Proofs.YtoiepgcjinccpaaDoor.Bs
/-
  The plain words of layer 4: a worse case through all its ticks.
-/
namespace Go.Proofs.YtoiepgcjinccpaaDoor.Bs
set_option linter.unusedVariables false
/-- a case that is worse, where the numbers of the other one are fine. -/
structure CaseLe (b : Bas) (s s' : Sta) (ts ts' : List Tick) : Prop where
  len : ts'.length = ts.length
  sta : StaOk b s → StaLe b s s'
  tick : ∀ k, k < ts.length → tickBad (tk ts k) = false → TickLe (tk ts k) (tk ts' k)
section
variable {b : Bas} {s s' : Sta} {ts ts' : List Tick}
end
end Go.Proofs.YtoiepgcjinccpaaDoor.Bs
/-
  A walk by lemmas (J): in a region that draws its order, reckonings too may be taken first, not only copies and addresses.
-/
namespace Go.Proofs.YtoiepgcjinccpaaDoor.X
open Go Go.RowKit
set_option linter.unusedVariables false
section
variable {P : Program} {N : Nat} {B : Nat} {wS w0 : World} {ds : List Deferred} {Q : Exit → Act → World → Prop} {F : Fr} {L Ls : Lo} {ops : Array Oper} {rem rem' : List (Nat × Oper)}
/-- operations of slots alone, reckonings among them. -/
def reckOp (o : Oper) : Bool := match o.guard with
  | some _ => false
  | none => match o.op with
    | .move _ | .assign _ | .extract .. | .makeInterface .. | .build .. | .fieldAddr .. | .indexAddr .. | .binOp .. | .convert .. => true
    | .call c => match c.callee with
      | .builtin .min => true
      | .builtin .max => true
      | _ => false
    | _ => false
/-- the first of these that may come up. -/
def firstR (rem : List (Nat × Oper)) : List (Nat × Oper) → Option (Nat × Oper × List (Nat × Oper))
  | [] => none
  | (i, o) :: r => match reckOp o with
    | true => match readyB rem o with
      | true => match dropO rem i with
        | some rem' => some (i, o, rem')
        | none => none
      | false => firstR rem r
    | false => firstR rem r
theorem firstR_spec : ∀ {l : List (Nat × Oper)} {i : Nat} {o : Oper}, firstR rem l = some (i, o, rem') → (i, o) ∈ l ∧ readyB rem o = true ∧ dropO rem i = some rem' := by
  intro l
  induction l with
  | nil => intro i o h; cases h
  | cons e r ih =>
    intro i o h
    obtain ⟨j, p⟩ := e
    simp only [firstR] at h
    split at h
    · split at h
      · rename_i hr
        split at h
        · rename_i r2 hd
          simp only [Option.some.injEq, Prod.mk.injEq] at h
          obtain ⟨rfl, rfl, rfl⟩ := h
          exact ⟨List.mem_cons_self, hr, hd⟩
        · cases h
      · obtain ⟨h1, h2⟩ := ih h; exact ⟨List.mem_cons_of_mem _ h1, h2⟩
    · obtain ⟨h1, h2⟩ := ih h; exact ⟨List.mem_cons_of_mem _ h1, h2⟩
theorem XR.take2 {i : Nat} {o : Oper} (h1 : firstR rem rem = some (i, o, rem')) (hl : loneB ops rem i o = true) (h : Fw P N B wS ds False (fun F' => XR P N B wS w0 ds Q Ls ops rem' F' L) ops Ls [o] F) :
    XR P N B wS w0 ds Q Ls ops rem F L := by
  obtain ⟨hm, hr, hd⟩ := firstR_spec h1
  unfold loneB at hl
  simp only [Bool.and_eq_true] at hl
  obtain ⟨⟨hsel, hein⟩, hap⟩ := hl
  obtain ⟨v, hok, F', hal, hk⟩ := h.run
  refine ⟨fun D fuel a w hD hlen hf hs hS => ?_⟩
  have hrd : i ∈ Region.ready .any ops D := hD.mem_ready hm hr fun e he hb => by
    unfold edgesIn at hein
    have := List.all_eq_true.1 hein _ hm
    have := List.all_eq_true.1 this e (by simpa using he)
    simp only [hb, Bool.not_true, Bool.false_or] at this
    exact Nat.le_of_ble_eq_true this
  obtain ⟨n, rfl, hn⟩ := ready_count hrd hlen
  have hD' := hD.set hm hd
  refine wpAnyH_first (hD.at_ _ hm) (Region.noSelect_spec hsel) (fun c a w q => q.elim) n D a w (fun j oj hj hne hun hno => ?_) hrd (hok.yieldsIf hf) hS ?_
  · have hjs : j < ops.size := (Array.getElem?_eq_some_iff.1 hj).1
    have hon : on D j = false := by
      unfold on
      have hlt' : j < D.size := by rw [hD.size]; exact hjs
      rw [Array.getD_eq_getD_getElem?, Array.getElem?_eq_getElem hlt'] at hun ⊢
      exact hun
    obtain ⟨o', ho'⟩ := inRem_iff.1 ((hD.left j hjs).1 hon)
    have := hD.at_ _ ho'
    rw [hj] at this
    obtain rfl := Option.some.inj this
    have h2 := List.all_eq_true.1 hap _ ho'
    simp only [Bool.or_eq_true] at h2
    rcases h2 with (h2 | h2) | h2
    · exact absurd (Nat.eq_of_beq_eq_true h2) hne
    · obtain ⟨e, he, hb⟩ := Array.any_eq_true'.1 h2
      simp only [Bool.and_eq_true, beq_iff_eq] at hb
      exact absurd hb.2 (hno e he hb.1)
    · exact h2
  · exact hk.run _ n _ w hD' hn (hal.fits (hf.putF hok.1)) hs hS
end
end Go.Proofs.YtoiepgcjinccpaaDoor.X
/-
  The plain words of layer 4: sums, what Total answers, and that the water balances. No program stands here.
-/
namespace Go.Proofs.YtoiepgcjinccpaaDoor.Bs
open Go.Proofs.YtoiepgcjinccpaaDoor.X
set_option linter.unusedVariables false
def sumTo (g : Nat → Int) : Nat → Int
  | 0 => 0
  | k + 1 => sumTo g k + g k
theorem sumTo_congr {f g : Nat → Int} : ∀ {n : Nat}, (∀ i, i < n → f i = g i) → sumTo f n = sumTo g n := by
  intro n
  induction n with
  | zero => intro _; rfl
  | succ n ih => intro h; simp only [sumTo]; rw [ih fun i hi => h i (by omega), h n (by omega)]
theorem sumTo_bd {f : Nat → Int} {M : Int} : ∀ {n : Nat}, (∀ i, i < n → -M ≤ f i ∧ f i ≤ M) → -((n : Int) * M) ≤ sumTo f n ∧ sumTo f n ≤ (n : Int) * M := by
  intro n
  induction n with
  | zero => intro _; simp [sumTo]
  | succ n ih =>
    intro h
    have h1 := ih fun i hi => h i (by omega)
    have h2 := h n (by omega)
    have h3 : ((n + 1 : Nat) : Int) * M = (n : Int) * M + M := by rw [Int.natCast_add, Int.add_mul]; simp
    simp only [sumTo]
    rw [h3]
    omega
/-- a flow that is out of bounds. -/
def farB (n : Int) : Bool := outB n (-1000000000) 1000000000
def floBad (f : Flo) : Bool := farB f.river || (farB f.over || (farB f.leak || (farB f.out || f.taken.any farB)))
def floShort (b : Bas) (f : Flo) : Bool := decide (f.taken.length ≠ b.pols.length)
noncomputable def totE (b : Bas) (l : List Flo) : Int := if chkE b ≠ 0 then chkE b else if 300 < l.length then 3 else if l.any (floShort b) = true then 2 else if l.any floBad = true then 7 else 0
def fl (l : List Flo) (k : Nat) : Flo := l[k]?.getD ⟨0, 0, 0, 0, []⟩
def takTo (l : List Flo) (k i : Nat) : Int := sumTo (fun j => (fl l j).t i) k
/-- the sums of the first k flows; of the next one the first i polders. -/
def totA (b : Bas) (l : List Flo) (k : Nat) : Flo := ⟨sumTo (fun j => (fl l j).river) k, sumTo (fun j => (fl l j).over) k, sumTo (fun j => (fl l j).leak) k, sumTo (fun j => (fl l j).out) k, rg b.pols.length (takTo l k)⟩
noncomputable def totF (b : Bas) (l : List Flo) : Flo := if totE b l ≠ 0 then ⟨0, 0, 0, 0, []⟩ else totA b l l.length
theorem tot_c {b : Bas} {l : List Flo} (h : chkE b ≠ 0) : totE b l = chkE b ∧ totF b l = ⟨0, 0, 0, 0, []⟩ := by
  have : totE b l = chkE b := by unfold totE; rw [if_pos h]
  exact ⟨this, by unfold totF; rw [this, if_pos h]⟩
theorem tot_3 {b : Bas} {l : List Flo} (h : chkE b = 0) (h1 : 300 < l.length) : totE b l = 3 ∧ totF b l = ⟨0, 0, 0, 0, []⟩ := by
  have : totE b l = 3 := by unfold totE; rw [if_neg (by simp [h]), if_pos h1]
  exact ⟨this, by unfold totF; rw [this, if_pos (by decide)]⟩
theorem tot_2 {b : Bas} {l : List Flo} (h : chkE b = 0) (h1 : ¬ 300 < l.length) (h2 : l.any (floShort b) = true) : totE b l = 2 ∧ totF b l = ⟨0, 0, 0, 0, []⟩ := by
  have : totE b l = 2 := by unfold totE; rw [if_neg (by simp [h]), if_neg h1, if_pos h2]
  exact ⟨this, by unfold totF; rw [this, if_pos (by decide)]⟩
theorem tot_7 {b : Bas} {l : List Flo} (h : chkE b = 0) (h1 : ¬ 300 < l.length) (h2 : l.any (floShort b) = false) (h3 : l.any floBad = true) : totE b l = 7 ∧ totF b l = ⟨0, 0, 0, 0, []⟩ := by
  have : totE b l = 7 := by unfold totE; rw [if_neg (by simp [h]), if_neg h1, if_neg (by simp [h2]), if_pos h3]
  exact ⟨this, by unfold totF; rw [this, if_pos (by decide)]⟩
theorem tot_0 {b : Bas} {l : List Flo} (h : chkE b = 0) (h1 : ¬ 300 < l.length) (h2 : l.any (floShort b) = false) (h3 : l.any floBad = false) : totE b l = 0 ∧ totF b l = totA b l l.length := by
  have : totE b l = 0 := by unfold totE; rw [if_neg (by simp [h]), if_neg h1, if_neg (by simp [h2]), if_neg (by simp [h3])]
  exact ⟨this, by unfold totF; rw [this, if_neg (by simp)]⟩
theorem farB_f {n : Int} (h : farB n = false) : -1000000000 ≤ n ∧ n ≤ 1000000000 := outB_f.1 h
/-- a flow within bounds. -/
structure FloFine (f : Flo) : Prop where
  river : -1000000000 ≤ f.river ∧ f.river ≤ 1000000000
  over : -1000000000 ≤ f.over ∧ f.over ≤ 1000000000
  leak : -1000000000 ≤ f.leak ∧ f.leak ≤ 1000000000
  out : -1000000000 ≤ f.out ∧ f.out ≤ 1000000000
  taken : ∀ i, i < f.taken.length → -1000000000 ≤ f.t i ∧ f.t i ≤ 1000000000
theorem floFine_of {f : Flo} (h : floBad f = false) : FloFine f := by
  simp only [floBad, Bool.or_eq_false_iff, List.any_eq_false] at h
  obtain ⟨h1, h2, h3, h4, h5⟩ := h
  refine ⟨farB_f h1, farB_f h2, farB_f h3, farB_f h4, fun i hi => ?_⟩
  have h6 := h5 f.taken[i] (List.getElem_mem hi)
  simp only [Flo.t, List.getElem?_eq_getElem hi, Option.getD_some]
  exact farB_f (by simpa using h6)
theorem fl_mem {l : List Flo} {k : Nat} (h : k < l.length) : fl l k ∈ l := by
  unfold fl
  rw [List.getElem?_eq_getElem h]
  exact List.getElem_mem h
/-- the bounds of what Total adds. -/
structure TotBd (b : Bas) (l : List Flo) : Prop where
  short : l.length ≤ 300
  len : ∀ k, k < l.length → (fl l k).taken.length = b.pols.length
  fine : ∀ k, k < l.length → FloFine (fl l k)
theorem totBd_of {b : Bas} {l : List Flo} (h1 : ¬ 300 < l.length) (h2 : l.any (floShort b) = false) (h3 : l.any floBad = false) : TotBd b l := by
  refine ⟨by omega, fun k hk => ?_, fun k hk => floFine_of ?_⟩
  · have := List.any_eq_false.1 h2 _ (fl_mem hk)
    simpa [floShort] using this
  · have := List.any_eq_false.1 h3 _ (fl_mem hk)
    simpa using this
section
variable {b : Bas} {l : List Flo} (h : TotBd b l)
include h
theorem TotBd.le {k : Nat} (hk : k ≤ l.length) {g : Nat → Int} (hg : ∀ j, j < l.length → -1000000000 ≤ g j ∧ g j ≤ 1000000000) : -300000000000 ≤ sumTo g k ∧ sumTo g k ≤ 300000000000 := by
  have h1 := sumTo_bd (f := g) (M := 1000000000) (n := k) fun i hi => hg i (by omega)
  have h2 := h.short
  omega
theorem TotBd.river {k : Nat} (hk : k ≤ l.length) : -300000000000 ≤ sumTo (fun j => (fl l j).river) k ∧ sumTo (fun j => (fl l j).river) k ≤ 300000000000 := h.le hk fun j hj => (h.fine j hj).river
theorem TotBd.over {k : Nat} (hk : k ≤ l.length) : -300000000000 ≤ sumTo (fun j => (fl l j).over) k ∧ sumTo (fun j => (fl l j).over) k ≤ 300000000000 := h.le hk fun j hj => (h.fine j hj).over
theorem TotBd.leak {k : Nat} (hk : k ≤ l.length) : -300000000000 ≤ sumTo (fun j => (fl l j).leak) k ∧ sumTo (fun j => (fl l j).leak) k ≤ 300000000000 := h.le hk fun j hj => (h.fine j hj).leak
theorem TotBd.out {k : Nat} (hk : k ≤ l.length) : -300000000000 ≤ sumTo (fun j => (fl l j).out) k ∧ sumTo (fun j => (fl l j).out) k ≤ 300000000000 := h.le hk fun j hj => (h.fine j hj).out
theorem TotBd.tak {k : Nat} (hk : k ≤ l.length) {i : Nat} (hi : i < b.pols.length) : -300000000000 ≤ takTo l k i ∧ takTo l k i ≤ 300000000000 := h.le hk fun j hj => (h.fine j hj).taken i (by rw [h.len j hj]; exact hi)
end
section
variable {b : Bas} {s : Sta} {ts : List Tick}
end
end Go.Proofs.YtoiepgcjinccpaaDoor.Bs
/-
  The walk of Total: what it looks through.
-/
namespace Go.Proofs.YtoiepgcjinccpaaDoor.Bs
/-- the first j of m numbers from g, the others from f. -/
def mixL (m : Nat) (f g : Nat → Int) (j : Nat) : List Int := rg m fun i => if i < j then g i else f i
theorem mixL_0 (m : Nat) (f g : Nat → Int) : mixL m f g 0 = rg m f := by
  unfold mixL rg
  exact List.map_congr_left fun i _ => by simp
theorem mixL_end (m : Nat) (f g : Nat → Int) : mixL m f g m = rg m g := by
  unfold mixL rg
  exact List.map_congr_left fun i hi => by rw [if_pos (by simpa using hi)]
def idxL {α : Type} (l : List α) (P : α → Bool) : Int := match l.findIdx? P with
  | some i => ((i : Nat) : Int)
  | none => -1
theorem idxL_any {α : Type} (l : List α) (P : α → Bool) : decide (0 ≤ idxL l P) = l.any P := by
  unfold idxL
  cases h : l.findIdx? P with
  | none =>
    rw [List.findIdx?_eq_none_iff] at h
    have : l.any P = false := List.any_eq_false.2 fun x hx => by simp [h x hx]
    rw [this]; rfl
  | some i =>
    obtain ⟨hi, h1, _⟩ := List.findIdx?_eq_some_iff_getElem.1 h
    have : l.any P = true := List.any_eq_true.2 ⟨_, List.getElem_mem hi, h1⟩
    rw [this]
    simp
theorem fl_map {α : Type} {f : α → Flo} {l : List α} {k : Nat} (h : k < l.length) : fl (l.map f) k = f l[k] := by simp [fl, h]
end Go.Proofs.YtoiepgcjinccpaaDoor.Bs
namespace Go.Proofs.YtoiepgcjinccpaaDoor.X
open Go Go.RowKit Go.Proofs.YtoiepgcjinccpaaDoor.Bs
set_option linter.unusedVariables false
theorem mixL_at {m : Nat} {f g : Nat → Int} {j : Nat} (h : j < m) : (ints (mixL m f g j))[j]? = some (.int .i64 (f j)) := by simp [ints, mixL, rg, h]
theorem mixL_set {m : Nat} {f g : Nat → Int} {j : Nat} (h : j < m) : (ints (mixL m f g j)).set j (.int .i64 (g j)) = ints (mixL m f g (j + 1)) := by
  apply List.ext_getElem (by simp [ints, mixL, rg_len])
  intro i h1 h2
  simp only [ints, List.length_map, mixL, rg_len] at h2
  rw [List.getElem_set]
  by_cases e : j = i
  · subst e; simp [ints, mixL, rg]
  · rw [if_neg e]
    simp only [ints, mixL, rg, List.getElem_map, List.getElem_range]
    by_cases hi : i < j
    · rw [if_pos hi, if_pos (by omega)]
    · rw [if_neg hi, if_neg (by omega)]
theorem mixL_len (m : Nat) (f g : Nat → Int) (j : Nat) : (ints (mixL m f g j)).length = m := by simp [ints, mixL, rg_len]
/-- what Total leaves. -/
def TotV (b : Bas) (l : List Flo) (v : Value) (new : List Held) : Prop := ∃ r : SV, v = .tuple ⟨[floV r (totF b l), .int .i64 (totE b l)]⟩ ∧ new = [hInts r (totF b l).taken]
theorem TotV.made {b : Bas} {l : List Flo} {w w' : World} {r : SV} {e : Ending} (he : e = .returned (.tuple ⟨[floV r (totF b l), .int .i64 (totE b l)]⟩)) (h : IntsAt w' (Btw w.heap.size w'.heap.size) r (totF b l).taken) (hB : Below w.heap.size w w') : Made w (TotV b l) e w' :=
  ⟨_, _, he, ⟨r, rfl, rfl⟩, fun x hx => by rw [List.mem_singleton] at hx; subst hx; exact h, hB⟩
theorem TotV.err {b : Bas} {l : List Flo} {w w' : World} {e : Ending} {c : Int} (hE : totE b l = c ∧ totF b l = ⟨0, 0, 0, 0, []⟩) (he : e = .returned (.tuple ⟨[floV ⟨none, 0, 0⟩ ⟨0, 0, 0, 0, []⟩, .int .i64 c]⟩)) (hB : Below w.heap.size w w') : Made w (TotV b l) e w' := by
  refine TotV.made (r := ⟨none, 0, 0⟩) ?_ ?_ hB
  · rw [hE.1, hE.2]; exact he
  · rw [hE.2]; exact IntsAt.nil
set_option maxHeartbeats 4000000 in
theorem idxFlo {f : FuncId} {cap : List Value} {P : FloI → Bool} {r : SV} {ms : List FloI} {w : World} (hck : callOk Tryd.prog f = true) (hr : ListAt floK w (Lt w.heap.size) r ms) (hn : ms.length ≤ 1000)
    (hc : ∀ m, m ∈ ms → ∀ w', Below w.heap.size w w' → Calls Tryd.prog f ([] ++ [Value.agg ⟨m.c⟩] ++ cap).toArray w' fun e w'' => e = .returned (.bool (P m)) ∧ Below w'.heap.size w' w'') :
    Calls Tryd.prog 100 #[svV r, .func (.func f) #[] cap.toArray] w fun e w' => e = .returned (.int .i64 (idxL ms P)) ∧ Below w.heap.size w w' := by
  obtain ⟨A, n, c⟩ := r
  have hln := hr.len (by decide)
  simp only at hln
  subst hln
  simp only [svV]
  refine enter Tryd.func100 rfl Tryd.ntmps100 rfl ?_; simp only [frame, Nat.zero_add, Nat.reduceAdd]
  repeat (first | (refine M0 ?_; first | refine O0 ?_ | refine z1 tok rfl ?_ | refine O1 rfl ?_ rfl | refine O2 rfl ?_ | refine O3 rfl ?_ rfl | refine O4 rfl rfl rfl (fun _ _ => ?_) | refine O5 tok rfl rfl rfl (fun _ _ => ?_) | refine U0 _ (U2 rfl) rfl ?_ | refine U0 _ (U3 tok rfl rfl rfl rfl rfl) rfl ?_ | refine z3 tok rfl ?_ | refine U0 _ (U4 rfl rfl) rfl ?_ | refine U0 _ (U5 rfl rfl) rfl ?_) | (refine M1 ?_; first | refine J0 ?_ | refine J1 ?_ | refine J2 mixed rfl (by kernel_rfl) ?_ | refine J3 mixed rfl rfl (by kernel_rfl) ?_ | refine J4 ?_ | refine J5 ?_ | refine J6 ?_ | refine J7 ?_ | refine J8 rfl ?_ | refine J9 rfl ?_) | (refine M2 ?_; first | refine I0 ?_ | refine I1 ?_ | refine I2 ?_ | refine I3 ?_ | refine I4 ?_ | refine I5 ?_ | refine I6 rfl ?_ | refine I7 ?_ | refine I8 ?_ | refine z4 ?_) | (refine M3 ?_; first | refine O6 ?_ | refine z2 tok rfl ?_ | refine O8 rfl ?_ | refine O7 rfl ?_ rfl | refine O9 rfl ?_ rfl | refine U1 _ (U4 rfl rfl) rfl ?_ | refine U1 _ (U5 rfl rfl) rfl ?_ | refine U1 _ (U2 rfl) rfl ?_ | refine U1 _ (U3 tok rfl rfl rfl rfl rfl) rfl ?_) | (refine M4 ?_; first | refine M6 ?_ | refine U6 rfl (by kernel_rfl) ?_ | refine U7 (by kernel_rfl) ?_) | (refine M5 ?_; first | exact M7 | refine U8 rfl ?_ | refine U9 rfl rfl ?_ ?_))
  refine XC.loopk [0, 1, 7] rfl (fun k : Nat => [(8, .int .i64 (k : Nat))]) (fun _ => []) (fun _ => w) (fun k => k ≤ ms.length ∧ ∀ j m, j < k → ms[j]? = some m → P m = false) (fun k => ms.length - k) 0 ⟨Nat.zero_le _, fun j m h => absurd h (by omega)⟩ (by repeat (first | exact Sub.nil | refine Sub.cons rfl ?_)) (fun _ h => h) ?_
  rintro k ⟨hk, h0⟩
  dsimp only [List.cons_append, List.nil_append]
  repeat (first | (refine M0 ?_; first | refine O0 ?_ | refine z1 tok rfl ?_ | refine O1 rfl ?_ rfl | refine O2 rfl ?_ | refine O3 rfl ?_ rfl | refine O4 rfl rfl rfl (fun _ _ => ?_) | refine O5 tok rfl rfl rfl (fun _ _ => ?_) | refine U0 _ (U2 rfl) rfl ?_ | refine U0 _ (U3 tok rfl rfl rfl rfl rfl) rfl ?_ | refine z3 tok rfl ?_ | refine U0 _ (U4 rfl rfl) rfl ?_ | refine U0 _ (U5 rfl rfl) rfl ?_) | (refine M1 ?_; first | refine J0 ?_ | refine J1 ?_ | refine J2 mixed rfl (by kernel_rfl) ?_ | refine J3 mixed rfl rfl (by kernel_rfl) ?_ | refine J4 ?_ | refine J5 ?_ | refine J6 ?_ | refine J7 ?_ | refine J8 rfl ?_ | refine J9 rfl ?_) | (refine M2 ?_; first | refine I0 ?_ | refine I1 ?_ | refine I2 ?_ | refine I3 ?_ | refine I4 ?_ | refine I5 ?_ | refine I6 rfl ?_ | refine I7 ?_ | refine I8 ?_ | refine z4 ?_) | (refine M3 ?_; first | refine O6 ?_ | refine z2 tok rfl ?_ | refine O8 rfl ?_ | refine O7 rfl ?_ rfl | refine O9 rfl ?_ rfl | refine U1 _ (U4 rfl rfl) rfl ?_ | refine U1 _ (U5 rfl rfl) rfl ?_ | refine U1 _ (U2 rfl) rfl ?_ | refine U1 _ (U3 tok rfl rfl rfl rfl rfl) rfl ?_) | (refine M4 ?_; first | refine M6 ?_ | refine U6 rfl (by kernel_rfl) ?_ | refine U7 (by kernel_rfl) ?_) | (refine M5 ?_; first | exact M7 | refine U8 rfl ?_ | refine U9 rfl rfl ?_ ?_))
  refine XC.cond _ rfl (fun h3 => ?_) (fun h3 => ?_)
  · have hkn : k < ms.length := by simpa using h3
    obtain ⟨ad, rfl, hlt⟩ := hr.addr (by decide) (by omega)
    have hmk : ms[k]? = some ms[k] := List.getElem?_eq_getElem hkn
    have hcell : ∀ j u, ms[k].c[j]? = some u → w.cell? ((ad.add (k * 5)).add j) = some u := hr.elem hmk
    repeat (first | (refine M0 ?_; first | refine O0 ?_ | refine z1 tok rfl ?_ | refine O1 rfl ?_ rfl | refine O2 rfl ?_ | refine O3 rfl ?_ rfl | refine U0 _ (Ev.load_old_agg tok ms[k].c rfl rfl rfl (add_lt hlt) hcell) rfl ?_ | refine U0 _ (Ev.callv (f := f) (fst := []) (cap := cap) hck rfl rfl (fun w S => hc _ (List.getElem_mem hkn) w S.toBelow)) rfl ?_ | refine O4 rfl rfl rfl (fun _ _ => ?_) | refine O5 tok rfl rfl rfl (fun _ _ => ?_) | refine U0 _ (U2 rfl) rfl ?_ | refine U0 _ (U3 tok rfl rfl rfl rfl rfl) rfl ?_ | refine z3 tok rfl ?_ | refine U0 _ (U4 rfl rfl) rfl ?_ | refine U0 _ (U5 rfl rfl) rfl ?_) | (refine M1 ?_; first | refine J0 ?_ | refine J1 ?_ | refine J2 mixed rfl (by kernel_rfl) ?_ | refine J3 mixed rfl rfl (by kernel_rfl) ?_ | refine J4 ?_ | refine J5 ?_ | refine J6 ?_ | refine J7 ?_ | refine J8 rfl ?_ | refine J9 rfl ?_) | (refine M2 ?_; first | refine I0 ?_ | refine I1 ?_ | refine I2 ?_ | refine I3 ?_ | refine I4 ?_ | refine I5 ?_ | refine I6 rfl ?_ | refine I7 ?_ | refine I8 ?_ | refine z4 ?_) | (refine M3 ?_; first | refine O6 ?_ | refine z2 tok rfl ?_ | refine O8 rfl ?_ | refine O7 rfl ?_ rfl | refine O9 rfl ?_ rfl | refine U1 _ (Ev.load_old_agg tok ms[k].c rfl rfl rfl (add_lt hlt) hcell) rfl ?_ | refine U1 _ (Ev.callv (f := f) (fst := []) (cap := cap) hck rfl rfl (fun w S => hc _ (List.getElem_mem hkn) w S.toBelow)) rfl ?_ | refine U1 _ (U4 rfl rfl) rfl ?_ | refine U1 _ (U5 rfl rfl) rfl ?_ | refine U1 _ (U2 rfl) rfl ?_ | refine U1 _ (U3 tok rfl rfl rfl rfl rfl) rfl ?_) | (refine M4 ?_; first | refine M6 ?_ | refine U6 rfl (by kernel_rfl) ?_ | refine U7 (by kernel_rfl) ?_) | (refine M5 ?_; first | exact M7 | refine U8 rfl ?_ | refine U9 rfl rfl ?_ ?_))
    refine XC.cond _ rfl (fun h4 => ?_) (fun h4 => ?_)
    · repeat (first | (refine M0 ?_; first | refine O0 ?_ | refine z1 tok rfl ?_ | refine O1 rfl ?_ rfl | refine O2 rfl ?_ | refine O3 rfl ?_ rfl | refine O4 rfl rfl rfl (fun _ _ => ?_) | refine O5 tok rfl rfl rfl (fun _ _ => ?_) | refine U0 _ (U2 rfl) rfl ?_ | refine U0 _ (U3 tok rfl rfl rfl rfl rfl) rfl ?_ | refine z3 tok rfl ?_ | refine U0 _ (U4 rfl rfl) rfl ?_ | refine U0 _ (U5 rfl rfl) rfl ?_) | (refine M1 ?_; first | refine J0 ?_ | refine J1 ?_ | refine J2 mixed rfl (by kernel_rfl) ?_ | refine J3 mixed rfl rfl (by kernel_rfl) ?_ | refine J4 ?_ | refine J5 ?_ | refine J6 ?_ | refine J7 ?_ | refine J8 rfl ?_ | refine J9 rfl ?_) | (refine M2 ?_; first | refine I0 ?_ | refine I1 ?_ | refine I2 ?_ | refine I3 ?_ | refine I4 ?_ | refine I5 ?_ | refine I6 rfl ?_ | refine I7 ?_ | refine I8 ?_ | refine z4 ?_) | (refine M3 ?_; first | refine O6 ?_ | refine z2 tok rfl ?_ | refine O8 rfl ?_ | refine O7 rfl ?_ rfl | refine O9 rfl ?_ rfl | refine U1 _ (U4 rfl rfl) rfl ?_ | refine U1 _ (U5 rfl rfl) rfl ?_ | refine U1 _ (U2 rfl) rfl ?_ | refine U1 _ (U3 tok rfl rfl rfl rfl rfl) rfl ?_) | (refine M4 ?_; first | refine M6 ?_ | refine U6 rfl (by kernel_rfl) ?_ | refine U7 (by kernel_rfl) ?_) | (refine M5 ?_; first | exact M7 | refine U8 rfl ?_ | refine U9 rfl rfl ?_ ?_))
      refine XE.retg tok Tryd.results100 rfl (by simp only [and_self, and_true]) (fun w' S => ?_)
      have : ms.findIdx? P = some k := by
        rw [List.findIdx?_eq_some_iff_getElem]
        exact ⟨hkn, h4, fun j hj => by simpa using h0 j _ hj (List.getElem?_eq_getElem (by omega))⟩
      unfold idxL
      rw [this]
      exact ⟨rfl, S.toBelow⟩
    · repeat (first | (refine M0 ?_; first | refine O0 ?_ | refine z1 tok rfl ?_ | refine O1 rfl ?_ rfl | refine O2 rfl ?_ | refine O3 rfl ?_ rfl | refine O4 rfl rfl rfl (fun _ _ => ?_) | refine O5 tok rfl rfl rfl (fun _ _ => ?_) | refine U0 _ (U2 rfl) rfl ?_ | refine U0 _ (U3 tok rfl rfl rfl rfl rfl) rfl ?_ | refine z3 tok rfl ?_ | refine U0 _ (U4 rfl rfl) rfl ?_ | refine U0 _ (U5 rfl rfl) rfl ?_) | (refine M1 ?_; first | refine J0 ?_ | refine J1 ?_ | refine J2 mixed rfl (by kernel_rfl) ?_ | refine J3 mixed rfl rfl (by kernel_rfl) ?_ | refine J4 ?_ | refine J5 ?_ | refine J6 ?_ | refine J7 ?_ | refine J8 rfl ?_ | refine J9 rfl ?_) | (refine M2 ?_; first | refine I0 ?_ | refine I1 ?_ | refine I2 ?_ | refine I3 ?_ | refine I4 ?_ | refine I5 ?_ | refine I6 rfl ?_ | refine I7 ?_ | refine I8 ?_ | refine z4 ?_) | (refine M3 ?_; first | refine O6 ?_ | refine z2 tok rfl ?_ | refine O8 rfl ?_ | refine O7 rfl ?_ rfl | refine O9 rfl ?_ rfl | refine U1 _ (U4 rfl rfl) rfl ?_ | refine U1 _ (U5 rfl rfl) rfl ?_ | refine U1 _ (U2 rfl) rfl ?_ | refine U1 _ (U3 tok rfl rfl rfl rfl rfl) rfl ?_) | (refine M4 ?_; first | refine M6 ?_ | refine U6 rfl (by kernel_rfl) ?_ | refine U7 (by kernel_rfl) ?_) | (refine M5 ?_; first | exact M7 | refine U8 rfl ?_ | refine U9 rfl rfl ?_ ?_))
      refine XE.round (k + 1) ⟨hkn, fun j m hj hm => ?_⟩ (by omega) (by repeat (first | exact Sub.nil | refine Sub.cons rfl ?_)) (fun _ h => h)
      rcases Nat.lt_or_ge j k with h5 | h5
      · exact h0 j m h5 hm
      · have : j = k := by omega
        subst this
        rw [hmk] at hm
        cases hm
        exact h4
  · have hkn : ¬ k < ms.length := by simpa using h3
    repeat (first | (refine M0 ?_; first | refine O0 ?_ | refine z1 tok rfl ?_ | refine O1 rfl ?_ rfl | refine O2 rfl ?_ | refine O3 rfl ?_ rfl | refine O4 rfl rfl rfl (fun _ _ => ?_) | refine O5 tok rfl rfl rfl (fun _ _ => ?_) | refine U0 _ (U2 rfl) rfl ?_ | refine U0 _ (U3 tok rfl rfl rfl rfl rfl) rfl ?_ | refine z3 tok rfl ?_ | refine U0 _ (U4 rfl rfl) rfl ?_ | refine U0 _ (U5 rfl rfl) rfl ?_) | (refine M1 ?_; first | refine J0 ?_ | refine J1 ?_ | refine J2 mixed rfl (by kernel_rfl) ?_ | refine J3 mixed rfl rfl (by kernel_rfl) ?_ | refine J4 ?_ | refine J5 ?_ | refine J6 ?_ | refine J7 ?_ | refine J8 rfl ?_ | refine J9 rfl ?_) | (refine M2 ?_; first | refine I0 ?_ | refine I1 ?_ | refine I2 ?_ | refine I3 ?_ | refine I4 ?_ | refine I5 ?_ | refine I6 rfl ?_ | refine I7 ?_ | refine I8 ?_ | refine z4 ?_) | (refine M3 ?_; first | refine O6 ?_ | refine z2 tok rfl ?_ | refine O8 rfl ?_ | refine O7 rfl ?_ rfl | refine O9 rfl ?_ rfl | refine U1 _ (U4 rfl rfl) rfl ?_ | refine U1 _ (U5 rfl rfl) rfl ?_ | refine U1 _ (U2 rfl) rfl ?_ | refine U1 _ (U3 tok rfl rfl rfl rfl rfl) rfl ?_) | (refine M4 ?_; first | refine M6 ?_ | refine U6 rfl (by kernel_rfl) ?_ | refine U7 (by kernel_rfl) ?_) | (refine M5 ?_; first | exact M7 | refine U8 rfl ?_ | refine U9 rfl rfl ?_ ?_))
    refine XE.retg tok Tryd.results100 rfl (by simp only [and_self, and_true]) (fun w' S => ?_)
    have : ms.findIdx? P = none := by
      rw [List.findIdx?_eq_none_iff]
      intro m hm
      obtain ⟨j, hj, e⟩ := List.mem_iff_getElem.1 hm
      exact h0 j m (by omega) (by rw [List.getElem?_eq_getElem hj, e])
    unfold idxL
    rw [this]
    exact ⟨rfl, S.toBelow⟩
theorem contFlo {f : FuncId} {cap : List Value} {P : FloI → Bool} {r : SV} {ms : List FloI} {w : World} (hck : callOk Tryd.prog f = true) (hr : ListAt floK w (Lt w.heap.size) r ms) (hn : ms.length ≤ 1000)
    (hc : ∀ m, m ∈ ms → ∀ w', Below w.heap.size w w' → Calls Tryd.prog f ([] ++ [Value.agg ⟨m.c⟩] ++ cap).toArray w' fun e w'' => e = .returned (.bool (P m)) ∧ Below w'.heap.size w' w'') :
    Calls Tryd.prog 75 #[svV r, .func (.func f) #[] cap.toArray] w fun e w' => e = .returned (.bool (ms.any P)) ∧ Below w.heap.size w w' := by
  obtain ⟨A, n, c⟩ := r
  simp only [svV]
  refine enter Tryd.func75 rfl Tryd.ntmps75 rfl ?_; simp only [frame, Nat.zero_add, Nat.reduceAdd]
  repeat (first | (refine M0 ?_; first | refine O0 ?_ | refine z1 tok rfl ?_ | refine O1 rfl ?_ rfl | refine O2 rfl ?_ | refine O3 rfl ?_ rfl | refine O4 rfl rfl rfl (fun _ _ => ?_) | refine O5 tok rfl rfl rfl (fun _ _ => ?_) | refine U0 _ (U2 rfl) rfl ?_ | refine U0 _ (U3 tok rfl rfl rfl rfl rfl) rfl ?_ | refine z3 tok rfl ?_ | refine U0 _ (U4 rfl rfl) rfl ?_ | refine U0 _ (U5 rfl rfl) rfl ?_) | (refine M1 ?_; first | refine J0 ?_ | refine J1 ?_ | refine J2 mixed rfl (by kernel_rfl) ?_ | refine J3 mixed rfl rfl (by kernel_rfl) ?_ | refine J4 ?_ | refine J5 ?_ | refine J6 ?_ | refine J7 ?_ | refine J8 rfl ?_ | refine J9 rfl ?_) | (refine M2 ?_; first | refine I0 ?_ | refine I1 ?_ | refine I2 ?_ | refine I3 ?_ | refine I4 ?_ | refine I5 ?_ | refine I6 rfl ?_ | refine I7 ?_ | refine I8 ?_ | refine z4 ?_) | (refine M3 ?_; first | refine O6 ?_ | refine z2 tok rfl ?_ | refine O8 rfl ?_ | refine O7 rfl ?_ rfl | refine O9 rfl ?_ rfl | refine U1 _ (U4 rfl rfl) rfl ?_ | refine U1 _ (U5 rfl rfl) rfl ?_ | refine U1 _ (U2 rfl) rfl ?_ | refine U1 _ (U3 tok rfl rfl rfl rfl rfl) rfl ?_) | (refine M4 ?_; first | refine M6 ?_ | refine U6 rfl (by kernel_rfl) ?_ | refine U7 (by kernel_rfl) ?_) | (refine M5 ?_; first | exact M7 | refine U8 rfl ?_ | refine U9 rfl rfl ?_ ?_))
  refine XL.step _ (Ev.call (f := 100) (ck rfl) rfl (fun w5 S5 => (idxFlo (f := f) (cap := cap) (P := P) (r := ⟨A, n, c⟩) (ms := ms) hck (hr.arg S5) hn (fun m hm w' hb => hc m hm w' (S5.toBelow.trans (hb.mono S5.size))) :))) rfl ?_
  repeat (first | (refine M0 ?_; first | refine O0 ?_ | refine z1 tok rfl ?_ | refine O1 rfl ?_ rfl | refine O2 rfl ?_ | refine O3 rfl ?_ rfl | refine O4 rfl rfl rfl (fun _ _ => ?_) | refine O5 tok rfl rfl rfl (fun _ _ => ?_) | refine U0 _ (U2 rfl) rfl ?_ | refine U0 _ (U3 tok rfl rfl rfl rfl rfl) rfl ?_ | refine z3 tok rfl ?_ | refine U0 _ (U4 rfl rfl) rfl ?_ | refine U0 _ (U5 rfl rfl) rfl ?_) | (refine M1 ?_; first | refine J0 ?_ | refine J1 ?_ | refine J2 mixed rfl (by kernel_rfl) ?_ | refine J3 mixed rfl rfl (by kernel_rfl) ?_ | refine J4 ?_ | refine J5 ?_ | refine J6 ?_ | refine J7 ?_ | refine J8 rfl ?_ | refine J9 rfl ?_) | (refine M2 ?_; first | refine I0 ?_ | refine I1 ?_ | refine I2 ?_ | refine I3 ?_ | refine I4 ?_ | refine I5 ?_ | refine I6 rfl ?_ | refine I7 ?_ | refine I8 ?_ | refine z4 ?_) | (refine M3 ?_; first | refine O6 ?_ | refine z2 tok rfl ?_ | refine O8 rfl ?_ | refine O7 rfl ?_ rfl | refine O9 rfl ?_ rfl | refine U1 _ (U4 rfl rfl) rfl ?_ | refine U1 _ (U5 rfl rfl) rfl ?_ | refine U1 _ (U2 rfl) rfl ?_ | refine U1 _ (U3 tok rfl rfl rfl rfl rfl) rfl ?_) | (refine M4 ?_; first | refine M6 ?_ | refine U6 rfl (by kernel_rfl) ?_ | refine U7 (by kernel_rfl) ?_) | (refine M5 ?_; first | exact M7 | refine U8 rfl ?_ | refine U9 rfl rfl ?_ ?_))
  refine XE.retg tok Tryd.results75 rfl (by simp only [and_self, and_true]) (fun w' S => ?_)
  exact ⟨by rw [idxL_any]; rfl, S.toBelow⟩
set_option maxHeartbeats 4000000 in
theorem idxInt {f : FuncId} {cap : List Value} {P : Int → Bool} {r : SV} {ms : List Int} {w : World} (hck : callOk Tryd.prog f = true) (hr : IntsAt w (Lt w.heap.size) r ms) (hn : ms.length ≤ 1000)
    (hc : ∀ m, m ∈ ms → ∀ w', Below w.heap.size w w' → Calls Tryd.prog f ([] ++ [Value.int .i64 m] ++ cap).toArray w' fun e w'' => e = .returned (.bool (P m)) ∧ Below w'.heap.size w' w'') :
    Calls Tryd.prog 99 #[svV r, .func (.func f) #[] cap.toArray] w fun e w' => e = .returned (.int .i64 (idxL ms P)) ∧ Below w.heap.size w w' := by
  obtain ⟨A, n, c⟩ := r
  have hln := hr.len
  simp only at hln
  subst hln
  simp only [svV]
  refine enter Tryd.func99 rfl Tryd.ntmps99 rfl ?_; simp only [frame, Nat.zero_add, Nat.reduceAdd]
  repeat (first | (refine M0 ?_; first | refine O0 ?_ | refine z1 tok rfl ?_ | refine O1 rfl ?_ rfl | refine O2 rfl ?_ | refine O3 rfl ?_ rfl | refine O4 rfl rfl rfl (fun _ _ => ?_) | refine O5 tok rfl rfl rfl (fun _ _ => ?_) | refine U0 _ (U2 rfl) rfl ?_ | refine U0 _ (U3 tok rfl rfl rfl rfl rfl) rfl ?_ | refine z3 tok rfl ?_ | refine U0 _ (U4 rfl rfl) rfl ?_ | refine U0 _ (U5 rfl rfl) rfl ?_) | (refine M1 ?_; first | refine J0 ?_ | refine J1 ?_ | refine J2 mixed rfl (by kernel_rfl) ?_ | refine J3 mixed rfl rfl (by kernel_rfl) ?_ | refine J4 ?_ | refine J5 ?_ | refine J6 ?_ | refine J7 ?_ | refine J8 rfl ?_ | refine J9 rfl ?_) | (refine M2 ?_; first | refine I0 ?_ | refine I1 ?_ | refine I2 ?_ | refine I3 ?_ | refine I4 ?_ | refine I5 ?_ | refine I6 rfl ?_ | refine I7 ?_ | refine I8 ?_ | refine z4 ?_) | (refine M3 ?_; first | refine O6 ?_ | refine z2 tok rfl ?_ | refine O8 rfl ?_ | refine O7 rfl ?_ rfl | refine O9 rfl ?_ rfl | refine U1 _ (U4 rfl rfl) rfl ?_ | refine U1 _ (U5 rfl rfl) rfl ?_ | refine U1 _ (U2 rfl) rfl ?_ | refine U1 _ (U3 tok rfl rfl rfl rfl rfl) rfl ?_) | (refine M4 ?_; first | refine M6 ?_ | refine U6 rfl (by kernel_rfl) ?_ | refine U7 (by kernel_rfl) ?_) | (refine M5 ?_; first | exact M7 | refine U8 rfl ?_ | refine U9 rfl rfl ?_ ?_))
  refine XC.loopk [0, 1, 7] rfl (fun k : Nat => [(8, .int .i64 (k : Nat))]) (fun _ => []) (fun _ => w) (fun k => k ≤ ms.length ∧ ∀ j m, j < k → ms[j]? = some m → P m = false) (fun k => ms.length - k) 0 ⟨Nat.zero_le _, fun j m h => absurd h (by omega)⟩ (by repeat (first | exact Sub.nil | refine Sub.cons rfl ?_)) (fun _ h => h) ?_
  rintro k ⟨hk, h0⟩
  dsimp only [List.cons_append, List.nil_append]
  repeat (first | (refine M0 ?_; first | refine O0 ?_ | refine z1 tok rfl ?_ | refine O1 rfl ?_ rfl | refine O2 rfl ?_ | refine O3 rfl ?_ rfl | refine O4 rfl rfl rfl (fun _ _ => ?_) | refine O5 tok rfl rfl rfl (fun _ _ => ?_) | refine U0 _ (U2 rfl) rfl ?_ | refine U0 _ (U3 tok rfl rfl rfl rfl rfl) rfl ?_ | refine z3 tok rfl ?_ | refine U0 _ (U4 rfl rfl) rfl ?_ | refine U0 _ (U5 rfl rfl) rfl ?_) | (refine M1 ?_; first | refine J0 ?_ | refine J1 ?_ | refine J2 mixed rfl (by kernel_rfl) ?_ | refine J3 mixed rfl rfl (by kernel_rfl) ?_ | refine J4 ?_ | refine J5 ?_ | refine J6 ?_ | refine J7 ?_ | refine J8 rfl ?_ | refine J9 rfl ?_) | (refine M2 ?_; first | refine I0 ?_ | refine I1 ?_ | refine I2 ?_ | refine I3 ?_ | refine I4 ?_ | refine I5 ?_ | refine I6 rfl ?_ | refine I7 ?_ | refine I8 ?_ | refine z4 ?_) | (refine M3 ?_; first | refine O6 ?_ | refine z2 tok rfl ?_ | refine O8 rfl ?_ | refine O7 rfl ?_ rfl | refine O9 rfl ?_ rfl | refine U1 _ (U4 rfl rfl) rfl ?_ | refine U1 _ (U5 rfl rfl) rfl ?_ | refine U1 _ (U2 rfl) rfl ?_ | refine U1 _ (U3 tok rfl rfl rfl rfl rfl) rfl ?_) | (refine M4 ?_; first | refine M6 ?_ | refine U6 rfl (by kernel_rfl) ?_ | refine U7 (by kernel_rfl) ?_) | (refine M5 ?_; first | exact M7 | refine U8 rfl ?_ | refine U9 rfl rfl ?_ ?_))
  refine XC.cond _ rfl (fun h3 => ?_) (fun h3 => ?_)
  · have hkn : k < ms.length := by simpa using h3
    obtain ⟨ad, rfl, hlt, hcells⟩ := hr.at_ (by omega)
    have hmk : ms[k]? = some ms[k] := List.getElem?_eq_getElem hkn
    have hcell := hcells k hkn
    rw [show at0 ms k = ms[k] by simp [at0, hkn]] at hcell
    repeat (first | (refine M0 ?_; first | refine O0 ?_ | refine z1 tok rfl ?_ | refine O1 rfl ?_ rfl | refine O2 rfl ?_ | refine O3 rfl ?_ rfl | refine U0 _ (Ev.load_old tok rfl rfl (add_lt hlt) hcell) rfl ?_ | refine U0 _ (Ev.callv (f := f) (fst := []) (cap := cap) hck rfl rfl (fun w S => hc _ (List.getElem_mem hkn) w S.toBelow)) rfl ?_ | refine O4 rfl rfl rfl (fun _ _ => ?_) | refine O5 tok rfl rfl rfl (fun _ _ => ?_) | refine U0 _ (U2 rfl) rfl ?_ | refine U0 _ (U3 tok rfl rfl rfl rfl rfl) rfl ?_ | refine z3 tok rfl ?_ | refine U0 _ (U4 rfl rfl) rfl ?_ | refine U0 _ (U5 rfl rfl) rfl ?_) | (refine M1 ?_; first | refine J0 ?_ | refine J1 ?_ | refine J2 mixed rfl (by kernel_rfl) ?_ | refine J3 mixed rfl rfl (by kernel_rfl) ?_ | refine J4 ?_ | refine J5 ?_ | refine J6 ?_ | refine J7 ?_ | refine J8 rfl ?_ | refine J9 rfl ?_) | (refine M2 ?_; first | refine I0 ?_ | refine I1 ?_ | refine I2 ?_ | refine I3 ?_ | refine I4 ?_ | refine I5 ?_ | refine I6 rfl ?_ | refine I7 ?_ | refine I8 ?_ | refine z4 ?_) | (refine M3 ?_; first | refine O6 ?_ | refine z2 tok rfl ?_ | refine O8 rfl ?_ | refine O7 rfl ?_ rfl | refine O9 rfl ?_ rfl | refine U1 _ (Ev.load_old tok rfl rfl (add_lt hlt) hcell) rfl ?_ | refine U1 _ (Ev.callv (f := f) (fst := []) (cap := cap) hck rfl rfl (fun w S => hc _ (List.getElem_mem hkn) w S.toBelow)) rfl ?_ | refine U1 _ (U4 rfl rfl) rfl ?_ | refine U1 _ (U5 rfl rfl) rfl ?_ | refine U1 _ (U2 rfl) rfl ?_ | refine U1 _ (U3 tok rfl rfl rfl rfl rfl) rfl ?_) | (refine M4 ?_; first | refine M6 ?_ | refine U6 rfl (by kernel_rfl) ?_ | refine U7 (by kernel_rfl) ?_) | (refine M5 ?_; first | exact M7 | refine U8 rfl ?_ | refine U9 rfl rfl ?_ ?_))
    refine XC.cond _ rfl (fun h4 => ?_) (fun h4 => ?_)
    · repeat (first | (refine M0 ?_; first | refine O0 ?_ | refine z1 tok rfl ?_ | refine O1 rfl ?_ rfl | refine O2 rfl ?_ | refine O3 rfl ?_ rfl | refine O4 rfl rfl rfl (fun _ _ => ?_) | refine O5 tok rfl rfl rfl (fun _ _ => ?_) | refine U0 _ (U2 rfl) rfl ?_ | refine U0 _ (U3 tok rfl rfl rfl rfl rfl) rfl ?_ | refine z3 tok rfl ?_ | refine U0 _ (U4 rfl rfl) rfl ?_ | refine U0 _ (U5 rfl rfl) rfl ?_) | (refine M1 ?_; first | refine J0 ?_ | refine J1 ?_ | refine J2 mixed rfl (by kernel_rfl) ?_ | refine J3 mixed rfl rfl (by kernel_rfl) ?_ | refine J4 ?_ | refine J5 ?_ | refine J6 ?_ | refine J7 ?_ | refine J8 rfl ?_ | refine J9 rfl ?_) | (refine M2 ?_; first | refine I0 ?_ | refine I1 ?_ | refine I2 ?_ | refine I3 ?_ | refine I4 ?_ | refine I5 ?_ | refine I6 rfl ?_ | refine I7 ?_ | refine I8 ?_ | refine z4 ?_) | (refine M3 ?_; first | refine O6 ?_ | refine z2 tok rfl ?_ | refine O8 rfl ?_ | refine O7 rfl ?_ rfl | refine O9 rfl ?_ rfl | refine U1 _ (U4 rfl rfl) rfl ?_ | refine U1 _ (U5 rfl rfl) rfl ?_ | refine U1 _ (U2 rfl) rfl ?_ | refine U1 _ (U3 tok rfl rfl rfl rfl rfl) rfl ?_) | (refine M4 ?_; first | refine M6 ?_ | refine U6 rfl (by kernel_rfl) ?_ | refine U7 (by kernel_rfl) ?_) | (refine M5 ?_; first | exact M7 | refine U8 rfl ?_ | refine U9 rfl rfl ?_ ?_))
      refine XE.retg tok Tryd.results99 rfl (by simp only [and_self, and_true]) (fun w' S => ?_)
      have : ms.findIdx? P = some k := by
        rw [List.findIdx?_eq_some_iff_getElem]
        exact ⟨hkn, h4, fun j hj => by simpa using h0 j _ hj (List.getElem?_eq_getElem (by omega))⟩
      unfold idxL
      rw [this]
      exact ⟨rfl, S.toBelow⟩
    · repeat (first | (refine M0 ?_; first | refine O0 ?_ | refine z1 tok rfl ?_ | refine O1 rfl ?_ rfl | refine O2 rfl ?_ | refine O3 rfl ?_ rfl | refine O4 rfl rfl rfl (fun _ _ => ?_) | refine O5 tok rfl rfl rfl (fun _ _ => ?_) | refine U0 _ (U2 rfl) rfl ?_ | refine U0 _ (U3 tok rfl rfl rfl rfl rfl) rfl ?_ | refine z3 tok rfl ?_ | refine U0 _ (U4 rfl rfl) rfl ?_ | refine U0 _ (U5 rfl rfl) rfl ?_) | (refine M1 ?_; first | refine J0 ?_ | refine J1 ?_ | refine J2 mixed rfl (by kernel_rfl) ?_ | refine J3 mixed rfl rfl (by kernel_rfl) ?_ | refine J4 ?_ | refine J5 ?_ | refine J6 ?_ | refine J7 ?_ | refine J8 rfl ?_ | refine J9 rfl ?_) | (refine M2 ?_; first | refine I0 ?_ | refine I1 ?_ | refine I2 ?_ | refine I3 ?_ | refine I4 ?_ | refine I5 ?_ | refine I6 rfl ?_ | refine I7 ?_ | refine I8 ?_ | refine z4 ?_) | (refine M3 ?_; first | refine O6 ?_ | refine z2 tok rfl ?_ | refine O8 rfl ?_ | refine O7 rfl ?_ rfl | refine O9 rfl ?_ rfl | refine U1 _ (U4 rfl rfl) rfl ?_ | refine U1 _ (U5 rfl rfl) rfl ?_ | refine U1 _ (U2 rfl) rfl ?_ | refine U1 _ (U3 tok rfl rfl rfl rfl rfl) rfl ?_) | (refine M4 ?_; first | refine M6 ?_ | refine U6 rfl (by kernel_rfl) ?_ | refine U7 (by kernel_rfl) ?_) | (refine M5 ?_; first | exact M7 | refine U8 rfl ?_ | refine U9 rfl rfl ?_ ?_))
      refine XE.round (k + 1) ⟨hkn, fun j m hj hm => ?_⟩ (by omega) (by repeat (first | exact Sub.nil | refine Sub.cons rfl ?_)) (fun _ h => h)
      rcases Nat.lt_or_ge j k with h5 | h5
      · exact h0 j m h5 hm
      · have : j = k := by omega
        subst this
        rw [hmk] at hm
        cases hm
        exact h4
  · have hkn : ¬ k < ms.length := by simpa using h3
    repeat (first | (refine M0 ?_; first | refine O0 ?_ | refine z1 tok rfl ?_ | refine O1 rfl ?_ rfl | refine O2 rfl ?_ | refine O3 rfl ?_ rfl | refine O4 rfl rfl rfl (fun _ _ => ?_) | refine O5 tok rfl rfl rfl (fun _ _ => ?_) | refine U0 _ (U2 rfl) rfl ?_ | refine U0 _ (U3 tok rfl rfl rfl rfl rfl) rfl ?_ | refine z3 tok rfl ?_ | refine U0 _ (U4 rfl rfl) rfl ?_ | refine U0 _ (U5 rfl rfl) rfl ?_) | (refine M1 ?_; first | refine J0 ?_ | refine J1 ?_ | refine J2 mixed rfl (by kernel_rfl) ?_ | refine J3 mixed rfl rfl (by kernel_rfl) ?_ | refine J4 ?_ | refine J5 ?_ | refine J6 ?_ | refine J7 ?_ | refine J8 rfl ?_ | refine J9 rfl ?_) | (refine M2 ?_; first | refine I0 ?_ | refine I1 ?_ | refine I2 ?_ | refine I3 ?_ | refine I4 ?_ | refine I5 ?_ | refine I6 rfl ?_ | refine I7 ?_ | refine I8 ?_ | refine z4 ?_) | (refine M3 ?_; first | refine O6 ?_ | refine z2 tok rfl ?_ | refine O8 rfl ?_ | refine O7 rfl ?_ rfl | refine O9 rfl ?_ rfl | refine U1 _ (U4 rfl rfl) rfl ?_ | refine U1 _ (U5 rfl rfl) rfl ?_ | refine U1 _ (U2 rfl) rfl ?_ | refine U1 _ (U3 tok rfl rfl rfl rfl rfl) rfl ?_) | (refine M4 ?_; first | refine M6 ?_ | refine U6 rfl (by kernel_rfl) ?_ | refine U7 (by kernel_rfl) ?_) | (refine M5 ?_; first | exact M7 | refine U8 rfl ?_ | refine U9 rfl rfl ?_ ?_))
    refine XE.retg tok Tryd.results99 rfl (by simp only [and_self, and_true]) (fun w' S => ?_)
    have : ms.findIdx? P = none := by
      rw [List.findIdx?_eq_none_iff]
      intro m hm
      obtain ⟨j, hj, e⟩ := List.mem_iff_getElem.1 hm
      exact h0 j m (by omega) (by rw [List.getElem?_eq_getElem hj, e])
    unfold idxL
    rw [this]
    exact ⟨rfl, S.toBelow⟩
theorem contInt {f : FuncId} {cap : List Value} {P : Int → Bool} {r : SV} {ms : List Int} {w : World} (hck : callOk Tryd.prog f = true) (hr : IntsAt w (Lt w.heap.size) r ms) (hn : ms.length ≤ 1000)
    (hc : ∀ m, m ∈ ms → ∀ w', Below w.heap.size w w' → Calls Tryd.prog f ([] ++ [Value.int .i64 m] ++ cap).toArray w' fun e w'' => e = .returned (.bool (P m)) ∧ Below w'.heap.size w' w'') :
    Calls Tryd.prog 74 #[svV r, .func (.func f) #[] cap.toArray] w fun e w' => e = .returned (.bool (ms.any P)) ∧ Below w.heap.size w w' := by
  obtain ⟨A, n, c⟩ := r
  simp only [svV]
  refine enter Tryd.func74 rfl Tryd.ntmps74 rfl ?_; simp only [frame, Nat.zero_add, Nat.reduceAdd]
  repeat (first | (refine M0 ?_; first | refine O0 ?_ | refine z1 tok rfl ?_ | refine O1 rfl ?_ rfl | refine O2 rfl ?_ | refine O3 rfl ?_ rfl | refine U0 _ (Ev.call (f := 99) (ck rfl) rfl (fun w5 S5 => (idxInt (f := f) (cap := cap) (P := P) (r := ⟨A, n, c⟩) (ms := ms) hck (hr.arg S5) hn (fun m hm w' hb => hc m hm w' (S5.toBelow.trans (hb.mono S5.size))) :))) rfl ?_ | refine O4 rfl rfl rfl (fun _ _ => ?_) | refine O5 tok rfl rfl rfl (fun _ _ => ?_) | refine U0 _ (U2 rfl) rfl ?_ | refine U0 _ (U3 tok rfl rfl rfl rfl rfl) rfl ?_ | refine z3 tok rfl ?_ | refine U0 _ (U4 rfl rfl) rfl ?_ | refine U0 _ (U5 rfl rfl) rfl ?_) | (refine M1 ?_; first | refine J0 ?_ | refine J1 ?_ | refine J2 mixed rfl (by kernel_rfl) ?_ | refine J3 mixed rfl rfl (by kernel_rfl) ?_ | refine J4 ?_ | refine J5 ?_ | refine J6 ?_ | refine J7 ?_ | refine J8 rfl ?_ | refine J9 rfl ?_) | (refine M2 ?_; first | refine I0 ?_ | refine I1 ?_ | refine I2 ?_ | refine I3 ?_ | refine I4 ?_ | refine I5 ?_ | refine I6 rfl ?_ | refine I7 ?_ | refine I8 ?_ | refine z4 ?_) | (refine M3 ?_; first | refine O6 ?_ | refine z2 tok rfl ?_ | refine O8 rfl ?_ | refine O7 rfl ?_ rfl | refine O9 rfl ?_ rfl | refine U1 _ (Ev.call (f := 99) (ck rfl) rfl (fun w5 S5 => (idxInt (f := f) (cap := cap) (P := P) (r := ⟨A, n, c⟩) (ms := ms) hck (hr.arg S5) hn (fun m hm w' hb => hc m hm w' (S5.toBelow.trans (hb.mono S5.size))) :))) rfl ?_ | refine U1 _ (U4 rfl rfl) rfl ?_ | refine U1 _ (U5 rfl rfl) rfl ?_ | refine U1 _ (U2 rfl) rfl ?_ | refine U1 _ (U3 tok rfl rfl rfl rfl rfl) rfl ?_) | (refine M4 ?_; first | refine M6 ?_ | refine U6 rfl (by kernel_rfl) ?_ | refine U7 (by kernel_rfl) ?_) | (refine M5 ?_; first | exact M7 | refine U8 rfl ?_ | refine U9 rfl rfl ?_ ?_))
  refine XE.retg tok Tryd.results74 rfl (by simp only [and_self, and_true]) (fun w' S => ?_)
  exact ⟨by rw [idxL_any]; rfl, S.toBelow⟩
set_option maxHeartbeats 4000000 in
theorem total1_any {p : BV} {b : Bas} {m : FloI} {g : Nat} {w : World} (h1 : w.heap[g]? = some (cel 25 (basC p b))) (hp : p.n2 = b.pols.length) (hr : m.r.n = m.f.taken.length) :
    Calls Tryd.prog 71 #[.agg ⟨m.c⟩, .pointer (some ⟨g, 0, none⟩)] w fun e w' => e = .returned (.bool (floShort b m.f)) ∧ Below w.heap.size w w' := by
  obtain ⟨f, ⟨A, n, c⟩⟩ := m
  obtain ⟨A1, n1, c1, A2, n2, c2⟩ := p
  simp only at hr hp ⊢
  subst hr hp
  have hl1 := (Array.getElem?_eq_some_iff.1 h1).1
  have hc1 : w.cell? ⟨g, 4, none⟩ = some (.slice A2 b.pols.length c2) := by simp [World.cell?, h1, basC]
  simp only [FloI.c, floC]
  refine enter Tryd.func71 rfl Tryd.ntmps71 rfl ?_; simp only [frame, Nat.zero_add, Nat.reduceAdd]
  repeat (first | (refine M0 ?_; first | refine O0 ?_ | refine z1 tok rfl ?_ | refine O1 rfl ?_ rfl | refine O2 rfl ?_ | refine O3 rfl ?_ rfl | refine U0 _ (Ev.load_old tok rfl rfl hl1 hc1) rfl ?_ | refine O4 rfl rfl rfl (fun _ _ => ?_) | refine O5 tok rfl rfl rfl (fun _ _ => ?_) | refine U0 _ (U2 rfl) rfl ?_ | refine U0 _ (U3 tok rfl rfl rfl rfl rfl) rfl ?_ | refine z3 tok rfl ?_ | refine U0 _ (U4 rfl rfl) rfl ?_ | refine U0 _ (U5 rfl rfl) rfl ?_) | (refine M1 ?_; first | refine J0 ?_ | refine J1 ?_ | refine J2 mixed rfl (by kernel_rfl) ?_ | refine J3 mixed rfl rfl (by kernel_rfl) ?_ | refine J4 ?_ | refine J5 ?_ | refine J6 ?_ | refine J7 ?_ | refine J8 rfl ?_ | refine J9 rfl ?_) | (refine M2 ?_; first | refine I0 ?_ | refine I1 ?_ | refine I2 ?_ | refine I3 ?_ | refine I4 ?_ | refine I5 ?_ | refine I6 rfl ?_ | refine I7 ?_ | refine I8 ?_ | refine z4 ?_) | (refine M3 ?_; first | refine O6 ?_ | refine z2 tok rfl ?_ | refine O8 rfl ?_ | refine O7 rfl ?_ rfl | refine O9 rfl ?_ rfl | refine U1 _ (Ev.load_old tok rfl rfl hl1 hc1) rfl ?_ | refine U1 _ (U4 rfl rfl) rfl ?_ | refine U1 _ (U5 rfl rfl) rfl ?_ | refine U1 _ (U2 rfl) rfl ?_ | refine U1 _ (U3 tok rfl rfl rfl rfl rfl) rfl ?_) | (refine M4 ?_; first | refine M6 ?_ | refine U6 rfl (by kernel_rfl) ?_ | refine U7 (by kernel_rfl) ?_) | (refine M5 ?_; first | exact M7 | refine U8 rfl ?_ | refine U9 rfl rfl ?_ ?_))
  refine XE.retg tok Tryd.results71 rfl (by simp only [and_self, and_true]) (fun w' S => ?_)
  refine ⟨?_, S.toBelow⟩
  have e : floShort b f = decide ((f.taken.length : Int) ≠ (b.pols.length : Int)) := decide_eq_decide.2 (by omega)
  rw [e]; rfl
theorem total2_any (n : Int) (w : World) :
    Calls Tryd.prog 72 #[.int .i64 n] w fun e w' => e = .returned (.bool (farB n)) ∧ Below w.heap.size w w' := by
  refine enter Tryd.func72 rfl Tryd.ntmps72 rfl ?_; simp only [frame, Nat.zero_add, Nat.reduceAdd]
  repeat (first | (refine M0 ?_; first | refine O0 ?_ | refine z1 tok rfl ?_ | refine O1 rfl ?_ rfl | refine O2 rfl ?_ | refine O3 rfl ?_ rfl | refine U0 _ (Ev.call (f := 51) (ck rfl) rfl (fun w S => out_any _ _ _ w)) rfl ?_ | refine O4 rfl rfl rfl (fun _ _ => ?_) | refine O5 tok rfl rfl rfl (fun _ _ => ?_) | refine U0 _ (U2 rfl) rfl ?_ | refine U0 _ (U3 tok rfl rfl rfl rfl rfl) rfl ?_ | refine z3 tok rfl ?_ | refine U0 _ (U4 rfl rfl) rfl ?_ | refine U0 _ (U5 rfl rfl) rfl ?_) | (refine M1 ?_; first | refine J0 ?_ | refine J1 ?_ | refine J2 mixed rfl (by kernel_rfl) ?_ | refine J3 mixed rfl rfl (by kernel_rfl) ?_ | refine J4 ?_ | refine J5 ?_ | refine J6 ?_ | refine J7 ?_ | refine J8 rfl ?_ | refine J9 rfl ?_) | (refine M2 ?_; first | refine I0 ?_ | refine I1 ?_ | refine I2 ?_ | refine I3 ?_ | refine I4 ?_ | refine I5 ?_ | refine I6 rfl ?_ | refine I7 ?_ | refine I8 ?_ | refine z4 ?_) | (refine M3 ?_; first | refine O6 ?_ | refine z2 tok rfl ?_ | refine O8 rfl ?_ | refine O7 rfl ?_ rfl | refine O9 rfl ?_ rfl | refine U1 _ (Ev.call (f := 51) (ck rfl) rfl (fun w S => out_any _ _ _ w)) rfl ?_ | refine U1 _ (U4 rfl rfl) rfl ?_ | refine U1 _ (U5 rfl rfl) rfl ?_ | refine U1 _ (U2 rfl) rfl ?_ | refine U1 _ (U3 tok rfl rfl rfl rfl rfl) rfl ?_) | (refine M4 ?_; first | refine M6 ?_ | refine U6 rfl (by kernel_rfl) ?_ | refine U7 (by kernel_rfl) ?_) | (refine M5 ?_; first | exact M7 | refine U8 rfl ?_ | refine U9 rfl rfl ?_ ?_))
  refine XE.retg tok Tryd.results72 rfl (by simp only [and_self, and_true]) (fun w' S => ?_)
  exact ⟨rfl, S.toBelow⟩
set_option maxHeartbeats 16000000 in
theorem total3_any {m : FloI} {g : Nat} {w : World} (h1 : w.heap[g]? = some (cel 108 [.func (.func 72) #[] #[]])) (hr : IntsAt w (Lt w.heap.size) m.r m.f.taken) (hn : m.f.taken.length ≤ 1000) :
    Calls Tryd.prog 73 #[.agg ⟨m.c⟩, .pointer (some ⟨g, 0, none⟩)] w fun e w' => e = .returned (.bool (floBad m.f)) ∧ Below w.heap.size w w' := by
  obtain ⟨f, ⟨A, n, c⟩⟩ := m
  simp only at hr hn ⊢
  have hl1 := (Array.getElem?_eq_some_iff.1 h1).1
  have hc1 : w.cell? ⟨g, 0, none⟩ = some (.func (.func 72) #[] #[]) := by simp [World.cell?, h1]
  have cc : ∀ (n : Int) (b : Bool), farB n = b → ∀ w, Calls Tryd.prog 72 #[.int .i64 n] w fun e w' => e = .returned (.bool b) ∧ Below w.heap.size w w' := fun n b e w => by subst e; exact total2_any n w
  simp only [FloI.c, floC]
  refine enter Tryd.func73 rfl Tryd.ntmps73 rfl ?_; simp only [frame, Nat.zero_add, Nat.reduceAdd]
  cases e0 : farB f.river with
  | true =>
    repeat (first | (refine M0 ?_; first | refine O0 ?_ | refine z1 tok rfl ?_ | refine O1 rfl ?_ rfl | refine O2 rfl ?_ | refine O3 rfl ?_ rfl | refine U0 _ (Ev.load_old tok rfl rfl hl1 hc1) rfl ?_ | refine U0 _ (Ev.callv (f := 72) (fst := []) (cap := []) (vs := [.int .i64 f.river]) (ck rfl) rfl rfl (fun w S => cc _ _ e0 w)) rfl ?_ | refine O4 rfl rfl rfl (fun _ _ => ?_) | refine O5 tok rfl rfl rfl (fun _ _ => ?_) | refine U0 _ (U2 rfl) rfl ?_ | refine U0 _ (U3 tok rfl rfl rfl rfl rfl) rfl ?_ | refine z3 tok rfl ?_ | refine U0 _ (U4 rfl rfl) rfl ?_ | refine U0 _ (U5 rfl rfl) rfl ?_) | (refine M1 ?_; first | refine J0 ?_ | refine J1 ?_ | refine J2 mixed rfl (by kernel_rfl) ?_ | refine J3 mixed rfl rfl (by kernel_rfl) ?_ | refine J4 ?_ | refine J5 ?_ | refine J6 ?_ | refine J7 ?_ | refine J8 rfl ?_ | refine J9 rfl ?_) | (refine M2 ?_; first | refine I0 ?_ | refine I1 ?_ | refine I2 ?_ | refine I3 ?_ | refine I4 ?_ | refine I5 ?_ | refine I6 rfl ?_ | refine I7 ?_ | refine I8 ?_ | refine z4 ?_) | (refine M3 ?_; first | refine O6 ?_ | refine z2 tok rfl ?_ | refine O8 rfl ?_ | refine O7 rfl ?_ rfl | refine O9 rfl ?_ rfl | refine U1 _ (Ev.load_old tok rfl rfl hl1 hc1) rfl ?_ | refine U1 _ (Ev.callv (f := 72) (fst := []) (cap := []) (vs := [.int .i64 f.river]) (ck rfl) rfl rfl (fun w S => cc _ _ e0 w)) rfl ?_ | refine U1 _ (U4 rfl rfl) rfl ?_ | refine U1 _ (U5 rfl rfl) rfl ?_ | refine U1 _ (U2 rfl) rfl ?_ | refine U1 _ (U3 tok rfl rfl rfl rfl rfl) rfl ?_) | (refine M4 ?_; first | refine M6 ?_ | refine U6 rfl (by kernel_rfl) ?_ | refine U7 (by kernel_rfl) ?_) | (refine M5 ?_; first | exact M7 | refine U8 rfl ?_ | refine U9 rfl rfl ?_ ?_))
    refine XE.retg tok Tryd.results73 rfl (by simp only [and_self, and_true]) (fun w' S => ?_)
    exact ⟨by rw [show floBad f = true by simp only [floBad, e0, Bool.true_or, Bool.false_or, Bool.or_true]]; rfl, S.toBelow⟩
  | false =>
  cases e1 : farB f.over with
  | true =>
    repeat (first | (refine M0 ?_; first | refine O0 ?_ | refine z1 tok rfl ?_ | refine O1 rfl ?_ rfl | refine O2 rfl ?_ | refine O3 rfl ?_ rfl | refine U0 _ (Ev.load_old tok rfl rfl hl1 hc1) rfl ?_ | refine U0 _ (Ev.callv (f := 72) (fst := []) (cap := []) (vs := [.int .i64 f.river]) (ck rfl) rfl rfl (fun w S => cc _ _ e0 w)) rfl ?_ | refine U0 _ (Ev.callv (f := 72) (fst := []) (cap := []) (vs := [.int .i64 f.over]) (ck rfl) rfl rfl (fun w S => cc _ _ e1 w)) rfl ?_ | refine O4 rfl rfl rfl (fun _ _ => ?_) | refine O5 tok rfl rfl rfl (fun _ _ => ?_) | refine U0 _ (U2 rfl) rfl ?_ | refine U0 _ (U3 tok rfl rfl rfl rfl rfl) rfl ?_ | refine z3 tok rfl ?_ | refine U0 _ (U4 rfl rfl) rfl ?_ | refine U0 _ (U5 rfl rfl) rfl ?_) | (refine M1 ?_; first | refine J0 ?_ | refine J1 ?_ | refine J2 mixed rfl (by kernel_rfl) ?_ | refine J3 mixed rfl rfl (by kernel_rfl) ?_ | refine J4 ?_ | refine J5 ?_ | refine J6 ?_ | refine J7 ?_ | refine J8 rfl ?_ | refine J9 rfl ?_) | (refine M2 ?_; first | refine I0 ?_ | refine I1 ?_ | refine I2 ?_ | refine I3 ?_ | refine I4 ?_ | refine I5 ?_ | refine I6 rfl ?_ | refine I7 ?_ | refine I8 ?_ | refine z4 ?_) | (refine M3 ?_; first | refine O6 ?_ | refine z2 tok rfl ?_ | refine O8 rfl ?_ | refine O7 rfl ?_ rfl | refine O9 rfl ?_ rfl | refine U1 _ (Ev.load_old tok rfl rfl hl1 hc1) rfl ?_ | refine U1 _ (Ev.callv (f := 72) (fst := []) (cap := []) (vs := [.int .i64 f.river]) (ck rfl) rfl rfl (fun w S => cc _ _ e0 w)) rfl ?_ | refine U1 _ (Ev.callv (f := 72) (fst := []) (cap := []) (vs := [.int .i64 f.over]) (ck rfl) rfl rfl (fun w S => cc _ _ e1 w)) rfl ?_ | refine U1 _ (U4 rfl rfl) rfl ?_ | refine U1 _ (U5 rfl rfl) rfl ?_ | refine U1 _ (U2 rfl) rfl ?_ | refine U1 _ (U3 tok rfl rfl rfl rfl rfl) rfl ?_) | (refine M4 ?_; first | refine M6 ?_ | refine U6 rfl (by kernel_rfl) ?_ | refine U7 (by kernel_rfl) ?_) | (refine M5 ?_; first | exact M7 | refine U8 rfl ?_ | refine U9 rfl rfl ?_ ?_))
    refine XE.retg tok Tryd.results73 rfl (by simp only [and_self, and_true]) (fun w' S => ?_)
    exact ⟨by rw [show floBad f = true by simp only [floBad, e0, e1, Bool.true_or, Bool.false_or, Bool.or_true]]; rfl, S.toBelow⟩
  | false =>
  cases e2 : farB f.leak with
  | true =>
    repeat (first | (refine M0 ?_; first | refine O0 ?_ | refine z1 tok rfl ?_ | refine O1 rfl ?_ rfl | refine O2 rfl ?_ | refine O3 rfl ?_ rfl | refine U0 _ (Ev.load_old tok rfl rfl hl1 hc1) rfl ?_ | refine U0 _ (Ev.callv (f := 72) (fst := []) (cap := []) (vs := [.int .i64 f.river]) (ck rfl) rfl rfl (fun w S => cc _ _ e0 w)) rfl ?_ | refine U0 _ (Ev.callv (f := 72) (fst := []) (cap := []) (vs := [.int .i64 f.over]) (ck rfl) rfl rfl (fun w S => cc _ _ e1 w)) rfl ?_ | refine U0 _ (Ev.callv (f := 72) (fst := []) (cap := []) (vs := [.int .i64 f.leak]) (ck rfl) rfl rfl (fun w S => cc _ _ e2 w)) rfl ?_ | refine O4 rfl rfl rfl (fun _ _ => ?_) | refine O5 tok rfl rfl rfl (fun _ _ => ?_) | refine U0 _ (U2 rfl) rfl ?_ | refine U0 _ (U3 tok rfl rfl rfl rfl rfl) rfl ?_ | refine z3 tok rfl ?_ | refine U0 _ (U4 rfl rfl) rfl ?_ | refine U0 _ (U5 rfl rfl) rfl ?_) | (refine M1 ?_; first | refine J0 ?_ | refine J1 ?_ | refine J2 mixed rfl (by kernel_rfl) ?_ | refine J3 mixed rfl rfl (by kernel_rfl) ?_ | refine J4 ?_ | refine J5 ?_ | refine J6 ?_ | refine J7 ?_ | refine J8 rfl ?_ | refine J9 rfl ?_) | (refine M2 ?_; first | refine I0 ?_ | refine I1 ?_ | refine I2 ?_ | refine I3 ?_ | refine I4 ?_ | refine I5 ?_ | refine I6 rfl ?_ | refine I7 ?_ | refine I8 ?_ | refine z4 ?_) | (refine M3 ?_; first | refine O6 ?_ | refine z2 tok rfl ?_ | refine O8 rfl ?_ | refine O7 rfl ?_ rfl | refine O9 rfl ?_ rfl | refine U1 _ (Ev.load_old tok rfl rfl hl1 hc1) rfl ?_ | refine U1 _ (Ev.callv (f := 72) (fst := []) (cap := []) (vs := [.int .i64 f.river]) (ck rfl) rfl rfl (fun w S => cc _ _ e0 w)) rfl ?_ | refine U1 _ (Ev.callv (f := 72) (fst := []) (cap := []) (vs := [.int .i64 f.over]) (ck rfl) rfl rfl (fun w S => cc _ _ e1 w)) rfl ?_ | refine U1 _ (Ev.callv (f := 72) (fst := []) (cap := []) (vs := [.int .i64 f.leak]) (ck rfl) rfl rfl (fun w S => cc _ _ e2 w)) rfl ?_ | refine U1 _ (U4 rfl rfl) rfl ?_ | refine U1 _ (U5 rfl rfl) rfl ?_ | refine U1 _ (U2 rfl) rfl ?_ | refine U1 _ (U3 tok rfl rfl rfl rfl rfl) rfl ?_) | (refine M4 ?_; first | refine M6 ?_ | refine U6 rfl (by kernel_rfl) ?_ | refine U7 (by kernel_rfl) ?_) | (refine M5 ?_; first | exact M7 | refine U8 rfl ?_ | refine U9 rfl rfl ?_ ?_))
    refine XE.retg tok Tryd.results73 rfl (by simp only [and_self, and_true]) (fun w' S => ?_)
    exact ⟨by rw [show floBad f = true by simp only [floBad, e0, e1, e2, Bool.true_or, Bool.false_or, Bool.or_true]]; rfl, S.toBelow⟩
  | false =>
  cases e3 : farB f.out with
  | true =>
    repeat (first | (refine M0 ?_; first | refine O0 ?_ | refine z1 tok rfl ?_ | refine O1 rfl ?_ rfl | refine O2 rfl ?_ | refine O3 rfl ?_ rfl | refine U0 _ (Ev.load_old tok rfl rfl hl1 hc1) rfl ?_ | refine U0 _ (Ev.callv (f := 72) (fst := []) (cap := []) (vs := [.int .i64 f.river]) (ck rfl) rfl rfl (fun w S => cc _ _ e0 w)) rfl ?_ | refine U0 _ (Ev.callv (f := 72) (fst := []) (cap := []) (vs := [.int .i64 f.over]) (ck rfl) rfl rfl (fun w S => cc _ _ e1 w)) rfl ?_ | refine U0 _ (Ev.callv (f := 72) (fst := []) (cap := []) (vs := [.int .i64 f.leak]) (ck rfl) rfl rfl (fun w S => cc _ _ e2 w)) rfl ?_ | refine U0 _ (Ev.callv (f := 72) (fst := []) (cap := []) (vs := [.int .i64 f.out]) (ck rfl) rfl rfl (fun w S => cc _ _ e3 w)) rfl ?_ | refine O4 rfl rfl rfl (fun _ _ => ?_) | refine O5 tok rfl rfl rfl (fun _ _ => ?_) | refine U0 _ (U2 rfl) rfl ?_ | refine U0 _ (U3 tok rfl rfl rfl rfl rfl) rfl ?_ | refine z3 tok rfl ?_ | refine U0 _ (U4 rfl rfl) rfl ?_ | refine U0 _ (U5 rfl rfl) rfl ?_) | (refine M1 ?_; first | refine J0 ?_ | refine J1 ?_ | refine J2 mixed rfl (by kernel_rfl) ?_ | refine J3 mixed rfl rfl (by kernel_rfl) ?_ | refine J4 ?_ | refine J5 ?_ | refine J6 ?_ | refine J7 ?_ | refine J8 rfl ?_ | refine J9 rfl ?_) | (refine M2 ?_; first | refine I0 ?_ | refine I1 ?_ | refine I2 ?_ | refine I3 ?_ | refine I4 ?_ | refine I5 ?_ | refine I6 rfl ?_ | refine I7 ?_ | refine I8 ?_ | refine z4 ?_) | (refine M3 ?_; first | refine O6 ?_ | refine z2 tok rfl ?_ | refine O8 rfl ?_ | refine O7 rfl ?_ rfl | refine O9 rfl ?_ rfl | refine U1 _ (Ev.load_old tok rfl rfl hl1 hc1) rfl ?_ | refine U1 _ (Ev.callv (f := 72) (fst := []) (cap := []) (vs := [.int .i64 f.river]) (ck rfl) rfl rfl (fun w S => cc _ _ e0 w)) rfl ?_ | refine U1 _ (Ev.callv (f := 72) (fst := []) (cap := []) (vs := [.int .i64 f.over]) (ck rfl) rfl rfl (fun w S => cc _ _ e1 w)) rfl ?_ | refine U1 _ (Ev.callv (f := 72) (fst := []) (cap := []) (vs := [.int .i64 f.leak]) (ck rfl) rfl rfl (fun w S => cc _ _ e2 w)) rfl ?_ | refine U1 _ (Ev.callv (f := 72) (fst := []) (cap := []) (vs := [.int .i64 f.out]) (ck rfl) rfl rfl (fun w S => cc _ _ e3 w)) rfl ?_ | refine U1 _ (U4 rfl rfl) rfl ?_ | refine U1 _ (U5 rfl rfl) rfl ?_ | refine U1 _ (U2 rfl) rfl ?_ | refine U1 _ (U3 tok rfl rfl rfl rfl rfl) rfl ?_) | (refine M4 ?_; first | refine M6 ?_ | refine U6 rfl (by kernel_rfl) ?_ | refine U7 (by kernel_rfl) ?_) | (refine M5 ?_; first | exact M7 | refine U8 rfl ?_ | refine U9 rfl rfl ?_ ?_))
    refine XE.retg tok Tryd.results73 rfl (by simp only [and_self, and_true]) (fun w' S => ?_)
    exact ⟨by rw [show floBad f = true by simp only [floBad, e0, e1, e2, e3, Bool.true_or, Bool.false_or, Bool.or_true]]; rfl, S.toBelow⟩
  | false =>
  repeat (first | (refine M0 ?_; first | refine O0 ?_ | refine z1 tok rfl ?_ | refine O1 rfl ?_ rfl | refine O2 rfl ?_ | refine O3 rfl ?_ rfl | refine U0 _ (Ev.load_old tok rfl rfl hl1 hc1) rfl ?_ | refine U0 _ (Ev.callv (f := 72) (fst := []) (cap := []) (vs := [.int .i64 f.river]) (ck rfl) rfl rfl (fun w S => cc _ _ e0 w)) rfl ?_ | refine U0 _ (Ev.callv (f := 72) (fst := []) (cap := []) (vs := [.int .i64 f.over]) (ck rfl) rfl rfl (fun w S => cc _ _ e1 w)) rfl ?_ | refine U0 _ (Ev.callv (f := 72) (fst := []) (cap := []) (vs := [.int .i64 f.leak]) (ck rfl) rfl rfl (fun w S => cc _ _ e2 w)) rfl ?_ | refine U0 _ (Ev.callv (f := 72) (fst := []) (cap := []) (vs := [.int .i64 f.out]) (ck rfl) rfl rfl (fun w S => cc _ _ e3 w)) rfl ?_ | refine U0 _ (Ev.call (f := 74) (ck rfl) rfl (fun w5 S5 => (contInt (f := 72) (cap := []) (P := farB) (r := ⟨A, n, c⟩) (ms := f.taken) (ck rfl) (hr.arg S5) hn (fun m hm w' hb => total2_any m w') :))) rfl ?_ | refine O4 rfl rfl rfl (fun _ _ => ?_) | refine O5 tok rfl rfl rfl (fun _ _ => ?_) | refine U0 _ (U2 rfl) rfl ?_ | refine U0 _ (U3 tok rfl rfl rfl rfl rfl) rfl ?_ | refine z3 tok rfl ?_ | refine U0 _ (U4 rfl rfl) rfl ?_ | refine U0 _ (U5 rfl rfl) rfl ?_) | (refine M1 ?_; first | refine J0 ?_ | refine J1 ?_ | refine J2 mixed rfl (by kernel_rfl) ?_ | refine J3 mixed rfl rfl (by kernel_rfl) ?_ | refine J4 ?_ | refine J5 ?_ | refine J6 ?_ | refine J7 ?_ | refine J8 rfl ?_ | refine J9 rfl ?_) | (refine M2 ?_; first | refine I0 ?_ | refine I1 ?_ | refine I2 ?_ | refine I3 ?_ | refine I4 ?_ | refine I5 ?_ | refine I6 rfl ?_ | refine I7 ?_ | refine I8 ?_ | refine z4 ?_) | (refine M3 ?_; first | refine O6 ?_ | refine z2 tok rfl ?_ | refine O8 rfl ?_ | refine O7 rfl ?_ rfl | refine O9 rfl ?_ rfl | refine U1 _ (Ev.load_old tok rfl rfl hl1 hc1) rfl ?_ | refine U1 _ (Ev.callv (f := 72) (fst := []) (cap := []) (vs := [.int .i64 f.river]) (ck rfl) rfl rfl (fun w S => cc _ _ e0 w)) rfl ?_ | refine U1 _ (Ev.callv (f := 72) (fst := []) (cap := []) (vs := [.int .i64 f.over]) (ck rfl) rfl rfl (fun w S => cc _ _ e1 w)) rfl ?_ | refine U1 _ (Ev.callv (f := 72) (fst := []) (cap := []) (vs := [.int .i64 f.leak]) (ck rfl) rfl rfl (fun w S => cc _ _ e2 w)) rfl ?_ | refine U1 _ (Ev.callv (f := 72) (fst := []) (cap := []) (vs := [.int .i64 f.out]) (ck rfl) rfl rfl (fun w S => cc _ _ e3 w)) rfl ?_ | refine U1 _ (Ev.call (f := 74) (ck rfl) rfl (fun w5 S5 => (contInt (f := 72) (cap := []) (P := farB) (r := ⟨A, n, c⟩) (ms := f.taken) (ck rfl) (hr.arg S5) hn (fun m hm w' hb => total2_any m w') :))) rfl ?_ | refine U1 _ (U4 rfl rfl) rfl ?_ | refine U1 _ (U5 rfl rfl) rfl ?_ | refine U1 _ (U2 rfl) rfl ?_ | refine U1 _ (U3 tok rfl rfl rfl rfl rfl) rfl ?_) | (refine M4 ?_; first | refine M6 ?_ | refine U6 rfl (by kernel_rfl) ?_ | refine U7 (by kernel_rfl) ?_) | (refine M5 ?_; first | exact M7 | refine U8 rfl ?_ | refine U9 rfl rfl ?_ ?_))
  refine XE.retg tok Tryd.results73 rfl (by simp only [and_self, and_true]) (fun w' S => ?_)
  exact ⟨by rw [show floBad f = f.taken.any farB by simp only [floBad, e0, e1, e2, e3, Bool.true_or, Bool.false_or, Bool.or_true]]; rfl, S.toBelow⟩
end Go.Proofs.YtoiepgcjinccpaaDoor.X
/-
  The walk of Total.
-/
namespace Go.Proofs.YtoiepgcjinccpaaDoor.X
open Go Go.RowKit Go.Proofs.YtoiepgcjinccpaaDoor.Bs
set_option linter.unusedVariables false
theorem int_zero : (Tryd.prog.info? 3).bind (·.zero) = some (.int .i64 0) := by kernel_rfl
theorem tak_0 (b : Bas) (l : List Flo) : ints (List.replicate b.pols.length 0) = ints (rg b.pols.length (takTo l 0)) := by
  congr 1
  apply List.ext_getElem (by simp [rg_len])
  intro i h1 h2
  simp [rg, takTo, sumTo]
set_option maxHeartbeats 16000000 in
theorem Total_any {p : BV} {b : Bas} {r : SV} {fs : List FloI} {w : World} (hb : BasAt w w.heap.size p b) (hr : ListAt floK w (Lt w.heap.size) r fs) :
    Calls Tryd.prog 42 #[basV p b, svV r] w (Made w (TotV b (fs.map (·.f)))) := by
  obtain ⟨A, n, c, A2, n2, c2⟩ := p
  have hn2 := hb.n2_eq
  simp only at hn2
  subst hn2
  obtain ⟨Ar, nr, cr⟩ := r
  have hnr := hr.len (by decide)
  have hmax := hr.max
  simp only at hnr hmax
  subst hnr
  obtain ⟨l, hl⟩ : ∃ l, l = fs.map (·.f) := ⟨_, rfl⟩
  have hll : l.length = fs.length := by rw [hl]; simp
  have hany : ∀ P : Flo → Bool, (fs.any fun m => P m.f) = l.any P := fun P => by rw [hl, List.any_map]; rfl
  have hlen : ∀ m, m ∈ fs → m.r.n = m.f.taken.length := fun m hm => (hr.ins m hm (hInts _ _) (.head _) : IntsAt _ _ _ _).len
  rw [← hl]
  simp only [basV, basC, svV]
  refine enter Tryd.func42 rfl Tryd.ntmps42 rfl ?_; simp only [frame, Nat.zero_add, Nat.reduceAdd]
  repeat (first | (refine M0 ?_; first | refine O0 ?_ | refine z1 tok rfl ?_ | refine O1 rfl ?_ rfl | refine O2 rfl ?_ | refine O3 rfl ?_ rfl | refine U0 _ (Ev.call (f := 50) (ck rfl) rfl (fun w S => (valid_any (p := ⟨A, n, c, A2, b.pols.length, c2⟩) (hb.sys S) :))) rfl ?_ | refine U0 _ (Ev.makeFunc rfl rfl) rfl ?_ | refine O4 rfl rfl rfl (fun _ _ => ?_) | refine O5 tok rfl rfl rfl (fun _ _ => ?_) | refine U0 _ (U2 rfl) rfl ?_ | refine U0 _ (U3 tok rfl rfl rfl rfl rfl) rfl ?_ | refine z3 tok rfl ?_ | refine U0 _ (U4 rfl rfl) rfl ?_ | refine U0 _ (U5 rfl rfl) rfl ?_) | (refine M1 ?_; first | refine J0 ?_ | refine J1 ?_ | refine J2 mixed rfl (by kernel_rfl) ?_ | refine J3 mixed rfl rfl (by kernel_rfl) ?_ | refine J4 ?_ | refine J5 ?_ | refine J6 ?_ | refine J7 ?_ | refine J8 rfl ?_ | refine J9 rfl ?_) | (refine M2 ?_; first | refine I0 ?_ | refine I1 ?_ | refine I2 ?_ | refine I3 ?_ | refine I4 ?_ | refine I5 ?_ | refine I6 rfl ?_ | refine I7 ?_ | refine I8 ?_ | refine z4 ?_) | (refine M3 ?_; first | refine O6 ?_ | refine z2 tok rfl ?_ | refine O8 rfl ?_ | refine O7 rfl ?_ rfl | refine O9 rfl ?_ rfl | refine U1 _ (Ev.call (f := 50) (ck rfl) rfl (fun w S => (valid_any (p := ⟨A, n, c, A2, b.pols.length, c2⟩) (hb.sys S) :))) rfl ?_ | refine U1 _ (Ev.makeFunc rfl rfl) rfl ?_ | refine U1 _ (U4 rfl rfl) rfl ?_ | refine U1 _ (U5 rfl rfl) rfl ?_ | refine U1 _ (U2 rfl) rfl ?_ | refine U1 _ (U3 tok rfl rfl rfl rfl rfl) rfl ?_) | (refine M4 ?_; first | refine M6 ?_ | refine U6 rfl (by kernel_rfl) ?_ | refine U7 (by kernel_rfl) ?_) | (refine M5 ?_; first | exact M7 | refine U8 rfl ?_ | refine U9 rfl rfl ?_ ?_))
  rename_i g2 hg2 g4 hg4 g8 hg8
  refine XC.cond _ rfl (fun h0 => ?_) (fun h0 => ?_)
  · repeat (first | (refine M0 ?_; first | refine O0 ?_ | refine z1 tok rfl ?_ | refine O1 rfl ?_ rfl | refine O2 rfl ?_ | refine O3 rfl ?_ rfl | refine O4 rfl rfl rfl (fun _ _ => ?_) | refine O5 tok rfl rfl rfl (fun _ _ => ?_) | refine U0 _ (U2 rfl) rfl ?_ | refine U0 _ (U3 tok rfl rfl rfl rfl rfl) rfl ?_ | refine z3 tok rfl ?_ | refine U0 _ (U4 rfl rfl) rfl ?_ | refine U0 _ (U5 rfl rfl) rfl ?_) | (refine M1 ?_; first | refine J0 ?_ | refine J1 ?_ | refine J2 mixed rfl (by kernel_rfl) ?_ | refine J3 mixed rfl rfl (by kernel_rfl) ?_ | refine J4 ?_ | refine J5 ?_ | refine J6 ?_ | refine J7 ?_ | refine J8 rfl ?_ | refine J9 rfl ?_) | (refine M2 ?_; first | refine I0 ?_ | refine I1 ?_ | refine I2 ?_ | refine I3 ?_ | refine I4 ?_ | refine I5 ?_ | refine I6 rfl ?_ | refine I7 ?_ | refine I8 ?_ | refine z4 ?_) | (refine M3 ?_; first | refine O6 ?_ | refine z2 tok rfl ?_ | refine O8 rfl ?_ | refine O7 rfl ?_ rfl | refine O9 rfl ?_ rfl | refine U1 _ (U4 rfl rfl) rfl ?_ | refine U1 _ (U5 rfl rfl) rfl ?_ | refine U1 _ (U2 rfl) rfl ?_ | refine U1 _ (U3 tok rfl rfl rfl rfl rfl) rfl ?_) | (refine M4 ?_; first | refine M6 ?_ | refine U6 rfl (by kernel_rfl) ?_ | refine U7 (by kernel_rfl) ?_) | (refine M5 ?_; first | exact M7 | refine U8 rfl ?_ | refine U9 rfl rfl ?_ ?_))
    refine XE.retg tok Tryd.results42 rfl (by simp only [and_self, and_true]) (fun w' S => ?_)
    exact TotV.err (tot_c (by simpa using h0)) rfl S.toBelow
  have hE : chkE b = 0 := by simpa using h0
  have ho := ok_of hE
  have hm6 := ho.m6
  repeat (first | (refine M0 ?_; first | refine O0 ?_ | refine z1 tok rfl ?_ | refine O1 rfl ?_ rfl | refine O2 rfl ?_ | refine O3 rfl ?_ rfl | refine O4 rfl rfl rfl (fun _ _ => ?_) | refine O5 tok rfl rfl rfl (fun _ _ => ?_) | refine U0 _ (U2 rfl) rfl ?_ | refine U0 _ (U3 tok rfl rfl rfl rfl rfl) rfl ?_ | refine z3 tok rfl ?_ | refine U0 _ (U4 rfl rfl) rfl ?_ | refine U0 _ (U5 rfl rfl) rfl ?_) | (refine M1 ?_; first | refine J0 ?_ | refine J1 ?_ | refine J2 mixed rfl (by kernel_rfl) ?_ | refine J3 mixed rfl rfl (by kernel_rfl) ?_ | refine J4 ?_ | refine J5 ?_ | refine J6 ?_ | refine J7 ?_ | refine J8 rfl ?_ | refine J9 rfl ?_) | (refine M2 ?_; first | refine I0 ?_ | refine I1 ?_ | refine I2 ?_ | refine I3 ?_ | refine I4 ?_ | refine I5 ?_ | refine I6 rfl ?_ | refine I7 ?_ | refine I8 ?_ | refine z4 ?_) | (refine M3 ?_; first | refine O6 ?_ | refine z2 tok rfl ?_ | refine O8 rfl ?_ | refine O7 rfl ?_ rfl | refine O9 rfl ?_ rfl | refine U1 _ (U4 rfl rfl) rfl ?_ | refine U1 _ (U5 rfl rfl) rfl ?_ | refine U1 _ (U2 rfl) rfl ?_ | refine U1 _ (U3 tok rfl rfl rfl rfl rfl) rfl ?_) | (refine M4 ?_; first | refine M6 ?_ | refine U6 rfl (by kernel_rfl) ?_ | refine U7 (by kernel_rfl) ?_) | (refine M5 ?_; first | exact M7 | refine U8 rfl ?_ | refine U9 rfl rfl ?_ ?_))
  refine XC.cond _ rfl (fun h1 => ?_) (fun h1 => ?_)
  · have h1' : 300 < l.length := by have := of_decide_eq_true h1; omega
    repeat (first | (refine M0 ?_; first | refine O0 ?_ | refine z1 tok rfl ?_ | refine O1 rfl ?_ rfl | refine O2 rfl ?_ | refine O3 rfl ?_ rfl | refine O4 rfl rfl rfl (fun _ _ => ?_) | refine O5 tok rfl rfl rfl (fun _ _ => ?_) | refine U0 _ (U2 rfl) rfl ?_ | refine U0 _ (U3 tok rfl rfl rfl rfl rfl) rfl ?_ | refine z3 tok rfl ?_ | refine U0 _ (U4 rfl rfl) rfl ?_ | refine U0 _ (U5 rfl rfl) rfl ?_) | (refine M1 ?_; first | refine J0 ?_ | refine J1 ?_ | refine J2 mixed rfl (by kernel_rfl) ?_ | refine J3 mixed rfl rfl (by kernel_rfl) ?_ | refine J4 ?_ | refine J5 ?_ | refine J6 ?_ | refine J7 ?_ | refine J8 rfl ?_ | refine J9 rfl ?_) | (refine M2 ?_; first | refine I0 ?_ | refine I1 ?_ | refine I2 ?_ | refine I3 ?_ | refine I4 ?_ | refine I5 ?_ | refine I6 rfl ?_ | refine I7 ?_ | refine I8 ?_ | refine z4 ?_) | (refine M3 ?_; first | refine O6 ?_ | refine z2 tok rfl ?_ | refine O8 rfl ?_ | refine O7 rfl ?_ rfl | refine O9 rfl ?_ rfl | refine U1 _ (U4 rfl rfl) rfl ?_ | refine U1 _ (U5 rfl rfl) rfl ?_ | refine U1 _ (U2 rfl) rfl ?_ | refine U1 _ (U3 tok rfl rfl rfl rfl rfl) rfl ?_) | (refine M4 ?_; first | refine M6 ?_ | refine U6 rfl (by kernel_rfl) ?_ | refine U7 (by kernel_rfl) ?_) | (refine M5 ?_; first | exact M7 | refine U8 rfl ?_ | refine U9 rfl rfl ?_ ?_))
    refine XE.retg tok Tryd.results42 rfl (by simp only [and_self, and_true]) (fun w' S => ?_)
    exact TotV.err (tot_3 hE h1') rfl S.toBelow
  have h300 : ¬ 300 < l.length := by have := of_decide_eq_false h1; omega
  repeat (first | (refine M0 ?_; first | refine O0 ?_ | refine z1 tok rfl ?_ | refine O1 rfl ?_ rfl | refine O2 rfl ?_ | refine O3 rfl ?_ rfl | refine O4 rfl rfl rfl (fun _ _ => ?_) | refine O5 tok rfl rfl rfl (fun _ _ => ?_) | refine U0 _ (U2 rfl) rfl ?_ | refine U0 _ (U3 tok rfl rfl rfl rfl rfl) rfl ?_ | refine z3 tok rfl ?_ | refine U0 _ (U4 rfl rfl) rfl ?_ | refine U0 _ (U5 rfl rfl) rfl ?_) | (refine M1 ?_; first | refine J0 ?_ | refine J1 ?_ | refine J4 ?_ | refine J5 ?_ | refine J6 ?_ | refine J7 ?_ | refine J8 rfl ?_ | refine J9 rfl ?_) | (refine M2 ?_; first | refine I0 ?_ | refine I1 ?_ | refine I2 ?_ | refine I3 ?_ | refine I4 ?_ | refine I5 ?_ | refine I6 rfl ?_ | refine I7 ?_ | refine I8 ?_ | refine z4 ?_) | (refine M3 ?_; first | refine O6 ?_ | refine z2 tok rfl ?_ | refine O8 rfl ?_ | refine O7 rfl ?_ rfl | refine O9 rfl ?_ rfl | refine U1 _ (U4 rfl rfl) rfl ?_ | refine U1 _ (U5 rfl rfl) rfl ?_ | refine U1 _ (U2 rfl) rfl ?_ | refine U1 _ (U3 tok rfl rfl rfl rfl rfl) rfl ?_) | (refine M4 ?_; first | refine M6 ?_ | refine U6 rfl (by kernel_rfl) ?_ | refine U7 (by kernel_rfl) ?_) | (refine M5 ?_; first | exact M7 | refine U8 rfl ?_ | refine U9 rfl rfl ?_ ?_))
  refine XL.step _ (Ev.call (f := 75) (ck rfl) rfl (fun w5 S5 => (contFlo (f := 71) (cap := [.pointer (some ⟨g2, 0, none⟩)]) (P := fun m => floShort b m.f) (r := ⟨Ar, fs.length, cr⟩) (ms := fs) (ck rfl) (hr.arg S5) (by omega) (fun m hm w6 hb6 => total1_any (p := ⟨A, n, c, A2, b.pols.length, c2⟩) (m := m) (g := g2) ((hb6.block g2 (S5.lt (e := (g2, _)) (.tail _ (.tail _ (.head _))))).trans (S5.own (g2, _) (.tail _ (.tail _ (.head _)))).2) rfl (hlen m hm)) :))) rfl ?_
  rw [hany (floShort b)]
  repeat (first | (refine M0 ?_; first | refine O0 ?_ | refine z1 tok rfl ?_ | refine O1 rfl ?_ rfl | refine O2 rfl ?_ | refine O3 rfl ?_ rfl | refine O4 rfl rfl rfl (fun _ _ => ?_) | refine O5 tok rfl rfl rfl (fun _ _ => ?_) | refine U0 _ (U2 rfl) rfl ?_ | refine U0 _ (U3 tok rfl rfl rfl rfl rfl) rfl ?_ | refine z3 tok rfl ?_ | refine U0 _ (U4 rfl rfl) rfl ?_ | refine U0 _ (U5 rfl rfl) rfl ?_) | (refine M1 ?_; first | refine J0 ?_ | refine J1 ?_ | refine J4 ?_ | refine J5 ?_ | refine J6 ?_ | refine J7 ?_ | refine J8 rfl ?_ | refine J9 rfl ?_) | (refine M2 ?_; first | refine I0 ?_ | refine I1 ?_ | refine I2 ?_ | refine I3 ?_ | refine I4 ?_ | refine I5 ?_ | refine I6 rfl ?_ | refine I7 ?_ | refine I8 ?_ | refine z4 ?_) | (refine M3 ?_; first | refine O6 ?_ | refine z2 tok rfl ?_ | refine O8 rfl ?_ | refine O7 rfl ?_ rfl | refine O9 rfl ?_ rfl | refine U1 _ (U4 rfl rfl) rfl ?_ | refine U1 _ (U5 rfl rfl) rfl ?_ | refine U1 _ (U2 rfl) rfl ?_ | refine U1 _ (U3 tok rfl rfl rfl rfl rfl) rfl ?_) | (refine M4 ?_; first | refine M6 ?_ | refine U6 rfl (by kernel_rfl) ?_ | refine U7 (by kernel_rfl) ?_) | (refine M5 ?_; first | exact M7 | refine U8 rfl ?_ | refine U9 rfl rfl ?_ ?_))
  refine XC.cond _ rfl (fun h2 => ?_) (fun h2 => ?_)
  · repeat (first | (refine M0 ?_; first | refine O0 ?_ | refine z1 tok rfl ?_ | refine O1 rfl ?_ rfl | refine O2 rfl ?_ | refine O3 rfl ?_ rfl | refine O4 rfl rfl rfl (fun _ _ => ?_) | refine O5 tok rfl rfl rfl (fun _ _ => ?_) | refine U0 _ (U2 rfl) rfl ?_ | refine U0 _ (U3 tok rfl rfl rfl rfl rfl) rfl ?_ | refine z3 tok rfl ?_ | refine U0 _ (U4 rfl rfl) rfl ?_ | refine U0 _ (U5 rfl rfl) rfl ?_) | (refine M1 ?_; first | refine J0 ?_ | refine J1 ?_ | refine J2 mixed rfl (by kernel_rfl) ?_ | refine J3 mixed rfl rfl (by kernel_rfl) ?_ | refine J4 ?_ | refine J5 ?_ | refine J6 ?_ | refine J7 ?_ | refine J8 rfl ?_ | refine J9 rfl ?_) | (refine M2 ?_; first | refine I0 ?_ | refine I1 ?_ | refine I2 ?_ | refine I3 ?_ | refine I4 ?_ | refine I5 ?_ | refine I6 rfl ?_ | refine I7 ?_ | refine I8 ?_ | refine z4 ?_) | (refine M3 ?_; first | refine O6 ?_ | refine z2 tok rfl ?_ | refine O8 rfl ?_ | refine O7 rfl ?_ rfl | refine O9 rfl ?_ rfl | refine U1 _ (U4 rfl rfl) rfl ?_ | refine U1 _ (U5 rfl rfl) rfl ?_ | refine U1 _ (U2 rfl) rfl ?_ | refine U1 _ (U3 tok rfl rfl rfl rfl rfl) rfl ?_) | (refine M4 ?_; first | refine M6 ?_ | refine U6 rfl (by kernel_rfl) ?_ | refine U7 (by kernel_rfl) ?_) | (refine M5 ?_; first | exact M7 | refine U8 rfl ?_ | refine U9 rfl rfl ?_ ?_))
    refine XE.retg tok Tryd.results42 rfl (by simp only [and_self, and_true]) (fun w' S => ?_)
    exact TotV.err (tot_2 hE h300 h2) rfl S.toBelow
  have htl : ∀ m, m ∈ fs → m.f.taken.length = b.pols.length := fun m hm => by
    have := List.any_eq_false.1 h2 m.f (by rw [hl]; exact List.mem_map.2 ⟨m, hm, rfl⟩)
    simpa [floShort] using this
  repeat (first | (refine M0 ?_; first | refine O0 ?_ | refine z1 tok rfl ?_ | refine O1 rfl ?_ rfl | refine O2 rfl ?_ | refine O3 rfl ?_ rfl | refine O4 rfl rfl rfl (fun _ _ => ?_) | refine O5 tok rfl rfl rfl (fun _ _ => ?_) | refine U0 _ (U2 rfl) rfl ?_ | refine U0 _ (U3 tok rfl rfl rfl rfl rfl) rfl ?_ | refine z3 tok rfl ?_ | refine U0 _ (U4 rfl rfl) rfl ?_ | refine U0 _ (U5 rfl rfl) rfl ?_) | (refine M1 ?_; first | refine J0 ?_ | refine J1 ?_ | refine J4 ?_ | refine J5 ?_ | refine J6 ?_ | refine J7 ?_ | refine J8 rfl ?_ | refine J9 rfl ?_) | (refine M2 ?_; first | refine I0 ?_ | refine I1 ?_ | refine I2 ?_ | refine I3 ?_ | refine I4 ?_ | refine I5 ?_ | refine I6 rfl ?_ | refine I7 ?_ | refine I8 ?_ | refine z4 ?_) | (refine M3 ?_; first | refine O6 ?_ | refine z2 tok rfl ?_ | refine O8 rfl ?_ | refine O7 rfl ?_ rfl | refine O9 rfl ?_ rfl | refine U1 _ (U4 rfl rfl) rfl ?_ | refine U1 _ (U5 rfl rfl) rfl ?_ | refine U1 _ (U2 rfl) rfl ?_ | refine U1 _ (U3 tok rfl rfl rfl rfl rfl) rfl ?_) | (refine M4 ?_; first | refine M6 ?_ | refine U6 rfl (by kernel_rfl) ?_ | refine U7 (by kernel_rfl) ?_) | (refine M5 ?_; first | exact M7 | refine U8 rfl ?_ | refine U9 rfl rfl ?_ ?_))
  refine XL.step _ (Ev.call (f := 75) (ck rfl) rfl (fun w5 S5 => (contFlo (f := 73) (cap := [.pointer (some ⟨g8, 0, none⟩)]) (P := fun m => floBad m.f) (r := ⟨Ar, fs.length, cr⟩) (ms := fs) (ck rfl) (hr.arg S5) (by omega) (fun m hm w6 hb6 => total3_any (m := m) (g := g8) ((hb6.block g8 (S5.lt (e := (g8, _)) (.head _))).trans (S5.own (g8, _) (.head _)).2) (IntsAt.mono (IntsAt.below ((hr.arg S5).ins m hm (hInts _ _) (.head _)) hb6) fun j hj => Nat.lt_of_lt_of_le hj hb6.size) (by rw [htl m hm]; omega)) :))) rfl ?_
  rw [hany floBad]
  repeat (first | (refine M0 ?_; first | refine O0 ?_ | refine z1 tok rfl ?_ | refine O1 rfl ?_ rfl | refine O2 rfl ?_ | refine O3 rfl ?_ rfl | refine O4 rfl rfl rfl (fun _ _ => ?_) | refine O5 tok rfl rfl rfl (fun _ _ => ?_) | refine U0 _ (U2 rfl) rfl ?_ | refine U0 _ (U3 tok rfl rfl rfl rfl rfl) rfl ?_ | refine z3 tok rfl ?_ | refine U0 _ (U4 rfl rfl) rfl ?_ | refine U0 _ (U5 rfl rfl) rfl ?_) | (refine M1 ?_; first | refine J0 ?_ | refine J1 ?_ | refine J4 ?_ | refine J5 ?_ | refine J6 ?_ | refine J7 ?_ | refine J8 rfl ?_ | refine J9 rfl ?_) | (refine M2 ?_; first | refine I0 ?_ | refine I1 ?_ | refine I2 ?_ | refine I3 ?_ | refine I4 ?_ | refine I5 ?_ | refine I6 rfl ?_ | refine I7 ?_ | refine I8 ?_ | refine z4 ?_) | (refine M3 ?_; first | refine O6 ?_ | refine z2 tok rfl ?_ | refine O8 rfl ?_ | refine O7 rfl ?_ rfl | refine O9 rfl ?_ rfl | refine U1 _ (U4 rfl rfl) rfl ?_ | refine U1 _ (U5 rfl rfl) rfl ?_ | refine U1 _ (U2 rfl) rfl ?_ | refine U1 _ (U3 tok rfl rfl rfl rfl rfl) rfl ?_) | (refine M4 ?_; first | refine M6 ?_ | refine U6 rfl (by kernel_rfl) ?_ | refine U7 (by kernel_rfl) ?_) | (refine M5 ?_; first | exact M7 | refine U8 rfl ?_ | refine U9 rfl rfl ?_ ?_))
  refine XC.cond _ rfl (fun h3 => ?_) (fun h3 => ?_)
  · repeat (first | (refine M0 ?_; first | refine O0 ?_ | refine z1 tok rfl ?_ | refine O1 rfl ?_ rfl | refine O2 rfl ?_ | refine O3 rfl ?_ rfl | refine O4 rfl rfl rfl (fun _ _ => ?_) | refine O5 tok rfl rfl rfl (fun _ _ => ?_) | refine U0 _ (U2 rfl) rfl ?_ | refine U0 _ (U3 tok rfl rfl rfl rfl rfl) rfl ?_ | refine z3 tok rfl ?_ | refine U0 _ (U4 rfl rfl) rfl ?_ | refine U0 _ (U5 rfl rfl) rfl ?_) | (refine M1 ?_; first | refine J0 ?_ | refine J1 ?_ | refine J2 mixed rfl (by kernel_rfl) ?_ | refine J3 mixed rfl rfl (by kernel_rfl) ?_ | refine J4 ?_ | refine J5 ?_ | refine J6 ?_ | refine J7 ?_ | refine J8 rfl ?_ | refine J9 rfl ?_) | (refine M2 ?_; first | refine I0 ?_ | refine I1 ?_ | refine I2 ?_ | refine I3 ?_ | refine I4 ?_ | refine I5 ?_ | refine I6 rfl ?_ | refine I7 ?_ | refine I8 ?_ | refine z4 ?_) | (refine M3 ?_; first | refine O6 ?_ | refine z2 tok rfl ?_ | refine O8 rfl ?_ | refine O7 rfl ?_ rfl | refine O9 rfl ?_ rfl | refine U1 _ (U4 rfl rfl) rfl ?_ | refine U1 _ (U5 rfl rfl) rfl ?_ | refine U1 _ (U2 rfl) rfl ?_ | refine U1 _ (U3 tok rfl rfl rfl rfl rfl) rfl ?_) | (refine M4 ?_; first | refine M6 ?_ | refine U6 rfl (by kernel_rfl) ?_ | refine U7 (by kernel_rfl) ?_) | (refine M5 ?_; first | exact M7 | refine U8 rfl ?_ | refine U9 rfl rfl ?_ ?_))
    refine XE.retg tok Tryd.results42 rfl (by simp only [and_self, and_true]) (fun w' S => ?_)
    exact TotV.err (tot_7 hE h300 h2 h3) rfl S.toBelow
  have hbd := totBd_of h300 h2 h3
  obtain ⟨hE2, hF2⟩ := tot_0 hE h300 h2 h3
  repeat (first | (refine M0 ?_; first | refine O0 ?_ | refine z1 tok rfl ?_ | refine O1 rfl ?_ rfl | refine O2 rfl ?_ | refine O3 rfl ?_ rfl | refine O4 rfl rfl rfl (fun _ _ => ?_) | refine O5 tok rfl rfl rfl (fun _ _ => ?_) | refine U0 _ (U2 rfl) rfl ?_ | refine U0 _ (U3 tok rfl rfl rfl rfl rfl) rfl ?_ | refine z3 tok rfl ?_ | refine U0 _ (U4 rfl rfl) rfl ?_ | refine U0 _ (U5 rfl rfl) rfl ?_) | (refine M1 ?_; first | refine J0 ?_ | refine J1 ?_ | refine J4 ?_ | refine J5 ?_ | refine J6 ?_ | refine J7 ?_ | refine J8 rfl ?_ | refine J9 rfl ?_) | (refine M2 ?_; first | refine I0 ?_ | refine I1 ?_ | refine I2 ?_ | refine I3 ?_ | refine I4 ?_ | refine I5 ?_ | refine I6 rfl ?_ | refine I7 ?_ | refine I8 ?_ | refine z4 ?_) | (refine M3 ?_; first | refine O6 ?_ | refine z2 tok rfl ?_ | refine O8 rfl ?_ | refine O7 rfl ?_ rfl | refine O9 rfl ?_ rfl | refine U1 _ (U4 rfl rfl) rfl ?_ | refine U1 _ (U5 rfl rfl) rfl ?_ | refine U1 _ (U2 rfl) rfl ?_ | refine U1 _ (U3 tok rfl rfl rfl rfl rfl) rfl ?_) | (refine M4 ?_; first | refine M6 ?_ | refine U6 rfl (by kernel_rfl) ?_ | refine U7 (by kernel_rfl) ?_) | (refine M5 ?_; first | exact M7 | refine U8 rfl ?_ | refine U9 rfl rfl ?_ ?_))
  refine XL.makeInts int_el int_zero rfl rfl rfl (by omega) (fun gT hgT => ?_)
  rw [tak_0 b l]
  repeat (first | (refine M0 ?_; first | refine O0 ?_ | refine z1 tok rfl ?_ | refine O1 rfl ?_ rfl | refine O2 rfl ?_ | refine O3 rfl ?_ rfl | refine O4 rfl rfl rfl (fun _ _ => ?_) | refine O5 tok rfl rfl rfl (fun _ _ => ?_) | refine U0 _ (U2 rfl) rfl ?_ | refine U0 _ (U3 tok rfl rfl rfl rfl rfl) rfl ?_ | refine z3 tok rfl ?_ | refine U0 _ (U4 rfl rfl) rfl ?_ | refine U0 _ (U5 rfl rfl) rfl ?_) | (refine M1 ?_; first | refine J0 ?_ | refine J1 ?_ | refine J4 ?_ | refine J5 ?_ | refine J6 ?_ | refine J7 ?_ | refine J8 rfl ?_ | refine J9 rfl ?_) | (refine M2 ?_; first | refine I0 ?_ | refine I1 ?_ | refine I2 ?_ | refine I3 ?_ | refine I4 ?_ | refine I5 ?_ | refine I6 rfl ?_ | refine I7 ?_ | refine I8 ?_ | refine z4 ?_) | (refine M3 ?_; first | refine O6 ?_ | refine z2 tok rfl ?_ | refine O8 rfl ?_ | refine O7 rfl ?_ rfl | refine O9 rfl ?_ rfl | refine U1 _ (U4 rfl rfl) rfl ?_ | refine U1 _ (U5 rfl rfl) rfl ?_ | refine U1 _ (U2 rfl) rfl ?_ | refine U1 _ (U3 tok rfl rfl rfl rfl rfl) rfl ?_) | (refine M4 ?_; first | refine M6 ?_ | refine U6 rfl (by kernel_rfl) ?_ | refine U7 (by kernel_rfl) ?_) | (refine M5 ?_; first | exact M7 | refine U8 rfl ?_ | refine U9 rfl rfl ?_ ?_))
  rename_i g10 hg10
  refine XC.loopk [4, 10, 44, 45] rfl (fun k : Nat => [(46, .int .i64 (k : Nat))]) (fun k => [(g10, cel 32 (floC ⟨some ⟨gT, 0, none⟩, b.pols.length, b.pols.length⟩ (totA b l k))), (gT, cel 3 (ints (rg b.pols.length (takTo l k)))), (g8, cel 108 [.func (.func 72) #[] #[]]), (g4, cel 32 [.int .i64 0, .int .i64 0, .int .i64 0, .int .i64 0, .slice none 0 0]), (g2, cel 25 [.slice A n c, .int .i64 b.leak, .int .i64 b.crest, .int .i64 b.over, .slice A2 b.pols.length c2])]) (fun _ => w)
    (fun k => k ≤ fs.length) (fun k => fs.length - k) 0 (Nat.zero_le _) (by repeat (first | exact Sub.nil | refine Sub.cons rfl ?_)) (fun _ h => h) ?_
  rintro k hk
  dsimp only [List.cons_append, List.nil_append]
  simp only [floC, totA]
  repeat (first | (refine M0 ?_; first | refine O0 ?_ | refine z1 tok rfl ?_ | refine O1 rfl ?_ rfl | refine O2 rfl ?_ | refine O3 rfl ?_ rfl | refine O4 rfl rfl rfl (fun _ _ => ?_) | refine O5 tok rfl rfl rfl (fun _ _ => ?_) | refine U0 _ (U2 rfl) rfl ?_ | refine U0 _ (U3 tok rfl rfl rfl rfl rfl) rfl ?_ | refine z3 tok rfl ?_ | refine U0 _ (U4 rfl rfl) rfl ?_ | refine U0 _ (U5 rfl rfl) rfl ?_) | (refine M1 ?_; first | refine J0 ?_ | refine J1 ?_ | refine J4 ?_ | refine J5 ?_ | refine J6 ?_ | refine J7 ?_ | refine J8 rfl ?_ | refine J9 rfl ?_) | (refine M2 ?_; first | refine I0 ?_ | refine I1 ?_ | refine I2 ?_ | refine I3 ?_ | refine I4 ?_ | refine I5 ?_ | refine I6 rfl ?_ | refine I7 ?_ | refine I8 ?_ | refine z4 ?_) | (refine M3 ?_; first | refine O6 ?_ | refine z2 tok rfl ?_ | refine O8 rfl ?_ | refine O7 rfl ?_ rfl | refine O9 rfl ?_ rfl | refine U1 _ (U4 rfl rfl) rfl ?_ | refine U1 _ (U5 rfl rfl) rfl ?_ | refine U1 _ (U2 rfl) rfl ?_ | refine U1 _ (U3 tok rfl rfl rfl rfl rfl) rfl ?_) | (refine M4 ?_; first | refine M6 ?_ | refine U6 rfl (by kernel_rfl) ?_ | refine U7 (by kernel_rfl) ?_) | (refine M5 ?_; first | exact M7 | refine U8 rfl ?_ | refine U9 rfl rfl ?_ ?_))
  refine XC.cond _ rfl (fun h4 => ?_) (fun h4 => ?_)
  rotate_left
  · have hkn : k = l.length := by have : ¬ (k < fs.length) := by simpa using h4
                                  omega
    subst hkn
    repeat (first | (refine M0 ?_; first | refine O0 ?_ | refine z1 tok rfl ?_ | refine O1 rfl ?_ rfl | refine O2 rfl ?_ | refine O3 rfl ?_ rfl | refine O4 rfl rfl rfl (fun _ _ => ?_) | refine O5 tok rfl rfl rfl (fun _ _ => ?_) | refine U0 _ (U2 rfl) rfl ?_ | refine U0 _ (U3 tok rfl rfl rfl rfl rfl) rfl ?_ | refine z3 tok rfl ?_ | refine U0 _ (U4 rfl rfl) rfl ?_ | refine U0 _ (U5 rfl rfl) rfl ?_) | (refine M1 ?_; first | refine J0 ?_ | refine J1 ?_ | refine J4 ?_ | refine J5 ?_ | refine J6 ?_ | refine J7 ?_ | refine J8 rfl ?_ | refine J9 rfl ?_) | (refine M2 ?_; first | refine I0 ?_ | refine I1 ?_ | refine I2 ?_ | refine I3 ?_ | refine I4 ?_ | refine I5 ?_ | refine I6 rfl ?_ | refine I7 ?_ | refine I8 ?_ | refine z4 ?_) | (refine M3 ?_; first | refine O6 ?_ | refine z2 tok rfl ?_ | refine O8 rfl ?_ | refine O7 rfl ?_ rfl | refine O9 rfl ?_ rfl | refine U1 _ (U4 rfl rfl) rfl ?_ | refine U1 _ (U5 rfl rfl) rfl ?_ | refine U1 _ (U2 rfl) rfl ?_ | refine U1 _ (U3 tok rfl rfl rfl rfl rfl) rfl ?_) | (refine M4 ?_; first | refine M6 ?_ | refine U6 rfl (by kernel_rfl) ?_ | refine U7 (by kernel_rfl) ?_) | (refine M5 ?_; first | exact M7 | refine U8 rfl ?_ | refine U9 rfl rfl ?_ ?_))
    refine XE.retg tok Tryd.results42 rfl (by simp only [and_self, and_true]) (fun w' S => ?_)
    refine TotV.made (r := ⟨some ⟨gT, 0, none⟩, b.pols.length, b.pols.length⟩) (by rw [hE2, hF2]; rfl) ?_ S.toBelow
    rw [hF2]
    have h5 := S.own (gT, _) (.tail _ (.head _))
    exact ⟨ReadsP.block h5.2 hgT (by simp [ints_len, rg_len, totA]), by simp only; omega⟩
  have hkn : k < fs.length := by simpa using h4
  obtain ⟨ad, rfl, hlt⟩ := hr.addr (by decide) (by omega)
  have hmk : fs[k]? = some fs[k] := List.getElem?_eq_getElem hkn
  have hq : IntsAt w (Lt w.heap.size) fs[k].r fs[k].f.taken := hr.ins _ (List.getElem_mem hkn) (hInts _ _) (.head _)
  have hqn := hlen _ (List.getElem_mem hkn)
  have hqt := htl _ (List.getElem_mem hkn)
  have hfl : fs[k].f = fl l k := by rw [hl, fl_map hkn]
  have hcell : ∀ j u, (floC fs[k].r fs[k].f)[j]? = some u → w.cell? ((ad.add (k * 5)).add j) = some u := hr.elem hmk
  obtain ⟨q, hqq⟩ : ∃ q, q = fs[k].r := ⟨_, rfl⟩
  obtain ⟨f, hff⟩ : ∃ f, f = fl l k := ⟨_, rfl⟩
  rw [← hqq, hfl, ← hff] at hcell
  rw [← hqq, hfl, ← hff] at hq
  rw [← hqq, hfl, ← hff] at hqn
  rw [hfl, ← hff] at hqt
  obtain ⟨Aq, nq, cq⟩ := q
  simp only at hqn
  have hnq : nq = b.pols.length := hqn.trans hqt
  subst hnq
  have hfine := hbd.fine k (by omega)
  rw [← hff] at hfine
  obtain ⟨f1, f2, f3, f4, f5⟩ := hfine
  have t1 := hbd.river (k := k) (by omega)
  have t2 := hbd.over (k := k) (by omega)
  have t3 := hbd.leak (k := k) (by omega)
  have t4 := hbd.out (k := k) (by omega)
  repeat (first | (refine M0 ?_; first | refine O0 ?_ | refine z1 tok rfl ?_ | refine O1 rfl ?_ rfl | refine O2 rfl ?_ | refine O3 rfl ?_ rfl | refine U0 _ (Ev.load_old_agg tok (floC ⟨Aq, b.pols.length, cq⟩ f) rfl rfl rfl (add_lt hlt) hcell) rfl ?_ | refine O4 rfl rfl rfl (fun _ _ => ?_) | refine O5 tok rfl rfl rfl (fun _ _ => ?_) | refine U0 _ (U2 rfl) rfl ?_ | refine U0 _ (U3 tok rfl rfl rfl rfl rfl) rfl ?_ | refine z3 tok rfl ?_ | refine U0 _ (U4 rfl rfl) rfl ?_ | refine U0 _ (U5 rfl rfl) rfl ?_) | (refine M1 ?_; first | refine J0 ?_ | refine J1 ?_ | refine J4 ?_ | refine J5 ?_ | refine J6 ?_ | refine J7 ?_ | refine J8 rfl ?_ | refine J9 rfl ?_) | (refine M2 ?_; first | refine I0 ?_ | refine I1 ?_ | refine I2 ?_ | refine I3 ?_ | refine I4 ?_ | refine I5 ?_ | refine I6 rfl ?_ | refine I7 ?_ | refine I8 ?_ | refine z4 ?_) | (refine M3 ?_; first | refine O6 ?_ | refine z2 tok rfl ?_ | refine O8 rfl ?_ | refine O7 rfl ?_ rfl | refine O9 rfl ?_ rfl | refine U1 _ (Ev.load_old_agg tok (floC ⟨Aq, b.pols.length, cq⟩ f) rfl rfl rfl (add_lt hlt) hcell) rfl ?_ | refine U1 _ (U4 rfl rfl) rfl ?_ | refine U1 _ (U5 rfl rfl) rfl ?_ | refine U1 _ (U2 rfl) rfl ?_ | refine U1 _ (U3 tok rfl rfl rfl rfl rfl) rfl ?_) | (refine M4 ?_; first | refine M6 ?_ | refine U6 rfl (by kernel_rfl) ?_ | refine U7 (by kernel_rfl) ?_) | (refine M5 ?_; first | exact M7 | refine U8 rfl ?_ | refine U9 rfl rfl ?_ ?_))
  rename_i g12 hg12
  have hfa : ∀ i, takTo l (k + 1) i = takTo l k i + f.t i := fun i => by rw [hff]; rfl
  refine XC.loopk [4, 10, 44, 45, 46] rfl (fun j : Nat => [(77, .int .i64 (j : Nat)), (76, .int .i64 (b.pols.length : Nat)), (75, .slice Aq b.pols.length cq)]) (fun j => [(g10, cel 32 [.int .i64 (sumTo (fun j => (fl l j).river) k + f.river), .int .i64 (sumTo (fun j => (fl l j).over) k + f.over), .int .i64 (sumTo (fun j => (fl l j).leak) k + f.leak), .int .i64 (sumTo (fun j => (fl l j).out) k + f.out), .slice (some ⟨gT, 0, none⟩) b.pols.length b.pols.length]), (gT, cel 3 (ints (mixL b.pols.length (takTo l k) (takTo l (k + 1)) j))), (g8, cel 108 [.func (.func 72) #[] #[]]), (g4, cel 32 [.int .i64 0, .int .i64 0, .int .i64 0, .int .i64 0, .slice none 0 0]), (g2, cel 25 [.slice A n c, .int .i64 b.leak, .int .i64 b.crest, .int .i64 b.over, .slice A2 b.pols.length c2])]) (fun _ => w)
    (fun j => j ≤ b.pols.length) (fun j => b.pols.length - j) 0 (Nat.zero_le _) (by repeat (first | exact Sub.nil | refine Sub.cons rfl ?_)) (fun _ h => by rw [mixL_0]; exact h.pop hg12) ?_
  rintro j hj
  dsimp only [List.cons_append, List.nil_append]
  repeat (first | (refine M0 ?_; first | refine O0 ?_ | refine z1 tok rfl ?_ | refine O1 rfl ?_ rfl | refine O2 rfl ?_ | refine O3 rfl ?_ rfl | refine O4 rfl rfl rfl (fun _ _ => ?_) | refine O5 tok rfl rfl rfl (fun _ _ => ?_) | refine U0 _ (U2 rfl) rfl ?_ | refine U0 _ (U3 tok rfl rfl rfl rfl rfl) rfl ?_ | refine z3 tok rfl ?_ | refine U0 _ (U4 rfl rfl) rfl ?_ | refine U0 _ (U5 rfl rfl) rfl ?_) | (refine M1 ?_; first | refine J0 ?_ | refine J1 ?_ | refine J4 ?_ | refine J5 ?_ | refine J6 ?_ | refine J7 ?_ | refine J8 rfl ?_ | refine J9 rfl ?_) | (refine M2 ?_; first | refine I0 ?_ | refine I1 ?_ | refine I2 ?_ | refine I3 ?_ | refine I4 ?_ | refine I5 ?_ | refine I6 rfl ?_ | refine I7 ?_ | refine I8 ?_ | refine z4 ?_) | (refine M3 ?_; first | refine O6 ?_ | refine z2 tok rfl ?_ | refine O8 rfl ?_ | refine O7 rfl ?_ rfl | refine O9 rfl ?_ rfl | refine U1 _ (U4 rfl rfl) rfl ?_ | refine U1 _ (U5 rfl rfl) rfl ?_ | refine U1 _ (U2 rfl) rfl ?_ | refine U1 _ (U3 tok rfl rfl rfl rfl rfl) rfl ?_) | (refine M4 ?_; first | refine M6 ?_ | refine U6 rfl (by kernel_rfl) ?_ | refine U7 (by kernel_rfl) ?_) | (refine M5 ?_; first | exact M7 | refine U8 rfl ?_ | refine U9 rfl rfl ?_ ?_))
  refine XC.cond _ rfl (fun h5 => ?_) (fun h5 => ?_)
  rotate_left
  · have hjn : j = b.pols.length := by have : ¬ (j < b.pols.length) := by simpa using h5
                                       omega
    subst hjn
    repeat (first | (refine M0 ?_; first | refine O0 ?_ | refine z1 tok rfl ?_ | refine O1 rfl ?_ rfl | refine O2 rfl ?_ | refine O3 rfl ?_ rfl | refine O4 rfl rfl rfl (fun _ _ => ?_) | refine O5 tok rfl rfl rfl (fun _ _ => ?_) | refine U0 _ (U2 rfl) rfl ?_ | refine U0 _ (U3 tok rfl rfl rfl rfl rfl) rfl ?_ | refine z3 tok rfl ?_ | refine U0 _ (U4 rfl rfl) rfl ?_ | refine U0 _ (U5 rfl rfl) rfl ?_) | (refine M1 ?_; first | refine J0 ?_ | refine J1 ?_ | refine J4 ?_ | refine J5 ?_ | refine J6 ?_ | refine J7 ?_ | refine J8 rfl ?_ | refine J9 rfl ?_) | (refine M2 ?_; first | refine I0 ?_ | refine I1 ?_ | refine I2 ?_ | refine I3 ?_ | refine I4 ?_ | refine I5 ?_ | refine I6 rfl ?_ | refine I7 ?_ | refine I8 ?_ | refine z4 ?_) | (refine M3 ?_; first | refine O6 ?_ | refine z2 tok rfl ?_ | refine O8 rfl ?_ | refine O7 rfl ?_ rfl | refine O9 rfl ?_ rfl | refine U1 _ (U4 rfl rfl) rfl ?_ | refine U1 _ (U5 rfl rfl) rfl ?_ | refine U1 _ (U2 rfl) rfl ?_ | refine U1 _ (U3 tok rfl rfl rfl rfl rfl) rfl ?_) | (refine M4 ?_; first | refine M6 ?_ | refine U6 rfl (by kernel_rfl) ?_ | refine U7 (by kernel_rfl) ?_) | (refine M5 ?_; first | exact M7 | refine U8 rfl ?_ | refine U9 rfl rfl ?_ ?_))
    refine XE.round (k + 1) hkn (by omega) (by repeat (first | exact Sub.nil | refine Sub.cons rfl ?_)) (fun _ h => ?_)
    rw [mixL_end, hff] at h
    exact h
  have hjn : j < b.pols.length := by simpa using h5
  obtain ⟨aq, rfl, hlq, hdq⟩ := hq.at_ (by omega)
  have hcq := hdq j (by omega)
  have t5 := hbd.tak (k := k) (by omega) hjn
  have t6 : -1000000000 ≤ at0 f.taken j ∧ at0 f.taken j ≤ 1000000000 := f5 j (by omega)
  have hml : j < (ints (mixL b.pols.length (takTo l k) (takTo l (k + 1)) j)).length := by rw [mixL_len]; exact hjn
  repeat (first | (refine M0 ?_; first | refine O0 ?_ | refine z1 tok rfl ?_ | refine O1 rfl ?_ rfl | refine O2 rfl ?_ | refine O3 rfl ?_ rfl | refine U0 _ (Ev.load_old tok rfl rfl (add_lt hlq) hcq) rfl ?_ | refine U0 _ (Ev.load_at tok 1 (v := .int .i64 (takTo l k j)) rfl rfl rfl (by simpa using mixL_at hjn)) rfl ?_ | refine O4 rfl rfl rfl (fun _ _ => ?_) | refine O5 tok rfl rfl rfl (fun _ _ => ?_) | refine U0 _ (U2 rfl) rfl ?_ | refine U0 _ (U3 tok rfl rfl rfl rfl rfl) rfl ?_ | refine z3 tok rfl ?_ | refine U0 _ (U4 rfl rfl) rfl ?_ | refine U0 _ (U5 rfl rfl) rfl ?_) | (refine M1 ?_; first | refine J0 ?_ | refine J1 ?_ | refine J4 ?_ | refine J5 ?_ | refine J6 ?_ | refine J7 ?_ | refine J8 rfl ?_ | refine J9 rfl ?_) | (refine M2 ?_; first | refine I0 ?_ | refine I1 ?_ | refine I2 ?_ | refine I3 ?_ | refine I4 ?_ | refine I5 ?_ | refine I6 rfl ?_ | refine I7 ?_ | refine I8 ?_ | refine z4 ?_) | (refine M3 ?_; first | refine O6 ?_ | refine z2 tok rfl ?_ | refine O8 rfl ?_ | refine O7 rfl ?_ rfl | refine O9 rfl ?_ rfl | refine U1 _ (Ev.load_old tok rfl rfl (add_lt hlq) hcq) rfl ?_ | refine U1 _ (Ev.load_at tok 1 (v := .int .i64 (takTo l k j)) rfl rfl rfl (by simpa using mixL_at hjn)) rfl ?_ | refine U1 _ (U4 rfl rfl) rfl ?_ | refine U1 _ (U5 rfl rfl) rfl ?_ | refine U1 _ (U2 rfl) rfl ?_ | refine U1 _ (U3 tok rfl rfl rfl rfl rfl) rfl ?_) | (refine M4 ?_; first | refine M6 ?_ | refine U6 rfl (by kernel_rfl) ?_ | refine U7 (by kernel_rfl) ?_) | (refine M5 ?_; first | exact M7 | refine U8 rfl ?_ | refine U9 rfl rfl ?_ ?_))
  refine XL.store_at tok 1 rfl rfl rfl rfl rfl (show 0 + (j : Int).toNat * 1 < (ints (mixL b.pols.length (takTo l k) (takTo l (k + 1)) j)).length by rw [Int.toNat_natCast]; omega) rfl ?_
  rw [show (ints (mixL b.pols.length (takTo l k) (takTo l (k + 1)) j)).set (0 + (j : Int).toNat * 1) (.int .i64 (takTo l k j + at0 f.taken j)) = ints (mixL b.pols.length (takTo l k) (takTo l (k + 1)) (j + 1)) by
    rw [Int.toNat_natCast, Nat.zero_add, Nat.mul_one, ← mixL_set hjn, hfa j]; rfl]
  repeat (first | (refine M0 ?_; first | refine O0 ?_ | refine z1 tok rfl ?_ | refine O1 rfl ?_ rfl | refine O2 rfl ?_ | refine O3 rfl ?_ rfl | refine O4 rfl rfl rfl (fun _ _ => ?_) | refine O5 tok rfl rfl rfl (fun _ _ => ?_) | refine U0 _ (U2 rfl) rfl ?_ | refine U0 _ (U3 tok rfl rfl rfl rfl rfl) rfl ?_ | refine z3 tok rfl ?_ | refine U0 _ (U4 rfl rfl) rfl ?_ | refine U0 _ (U5 rfl rfl) rfl ?_) | (refine M1 ?_; first | refine J0 ?_ | refine J1 ?_ | refine J4 ?_ | refine J5 ?_ | refine J6 ?_ | refine J7 ?_ | refine J8 rfl ?_ | refine J9 rfl ?_) | (refine M2 ?_; first | refine I0 ?_ | refine I1 ?_ | refine I2 ?_ | refine I3 ?_ | refine I4 ?_ | refine I5 ?_ | refine I6 rfl ?_ | refine I7 ?_ | refine I8 ?_ | refine z4 ?_) | (refine M3 ?_; first | refine O6 ?_ | refine z2 tok rfl ?_ | refine O8 rfl ?_ | refine O7 rfl ?_ rfl | refine O9 rfl ?_ rfl | refine U1 _ (U4 rfl rfl) rfl ?_ | refine U1 _ (U5 rfl rfl) rfl ?_ | refine U1 _ (U2 rfl) rfl ?_ | refine U1 _ (U3 tok rfl rfl rfl rfl rfl) rfl ?_) | (refine M4 ?_; first | refine M6 ?_ | refine U6 rfl (by kernel_rfl) ?_ | refine U7 (by kernel_rfl) ?_) | (refine M5 ?_; first | exact M7 | refine U8 rfl ?_ | refine U9 rfl rfl ?_ ?_))
  exact XE.round (j + 1) hjn (by omega) (by repeat (first | exact Sub.nil | refine Sub.cons rfl ?_)) (fun _ h => h)
end Go.Proofs.YtoiepgcjinccpaaDoor.X
