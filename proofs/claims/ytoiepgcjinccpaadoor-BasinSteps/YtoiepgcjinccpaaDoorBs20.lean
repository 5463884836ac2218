/-
  The walks of passed and of Stay.
-/
import Derived.Test.YtoiepgcjinccpaaDoorBs19
namespace Go.Proofs.YtoiepgcjinccpaaDoor.X
open Go Go.RowKit Go.Proofs.YtoiepgcjinccpaaDoor.Bs
set_option linter.unusedVariables false
/-- the level of volume v is above lim. -/
def overB (b : Bas) (lim v : Int) : Bool := decide (lim * den b v < num b v)
theorem lim_in {b : Bas} (ho : Ok b) {lim : Int} (hl : -20000 ≤ lim ∧ lim ≤ 20000) (v : Int) : i64in (lim * den b v) := by
  have hd := den_pos ho.rowsOk v
  unfold i64in
  have h1 : -(20000 * den b v) ≤ lim * den b v := by
    have := Int.mul_le_mul_of_nonneg_right hl.1 (show 0 ≤ den b v by omega)
    omega
  have h2 : lim * den b v ≤ 20000 * den b v := Int.mul_le_mul_of_nonneg_right hl.2 (show 0 ≤ den b v by omega)
  omega
section
variable {p : BV} {b : Bas} {lim : Int} {w : World} {gb gl : Nat}
set_option maxHeartbeats 4000000 in
theorem passed1_any {m : Mom} (h1 : w.heap[gb]? = some (cel 25 (basC p b))) (h2 : w.heap[gl]? = some (cel 3 [.int .i64 lim])) (hb : BasAt w w.heap.size p b) (ho : Ok b) (hv : (b.row 0).vol ≤ m.s.vol ∧ m.s.vol ≤ 1000000000) (hl : -20000 ≤ lim ∧ lim ≤ 20000) :
    Calls Tryd.prog 93 #[.agg ⟨m.c⟩, .pointer (some ⟨gb, 0, none⟩), .pointer (some ⟨gl, 0, none⟩)] w fun e w' => e = .returned (.bool (overB b lim m.s.vol)) ∧ Below w.heap.size w w' := by
  have hl1 := (Array.getElem?_eq_some_iff.1 h1).1
  have hl2 := (Array.getElem?_eq_some_iff.1 h2).1
  have hk := lim_in ho hl m.s.vol
  simp only [basC] at h1
  have hc1 : ∀ j u, (basC p b)[j]? = some u → w.cell? ((⟨gb, 0, none⟩ : Addr).add j) = some u := fun j u hj => by
    rw [add_off]; simpa [World.cell?, h1, basC] using hj
  have hc2 : w.cell? ⟨gl, 0, none⟩ = some (.int .i64 lim) := by simp [World.cell?, h2]
  simp only [Mom.c, momC, staC, floC, List.cons_append, List.nil_append]
  refine enter Tryd.func93 rfl Tryd.ntmps93 rfl ?_; simp only [frame, Nat.zero_add, Nat.reduceAdd]
  repeat (first | (refine M0 ?_; first | refine O0 ?_ | refine z1 tok rfl ?_ | refine O1 rfl ?_ rfl | refine O2 rfl ?_ | refine O3 rfl ?_ rfl | refine U0 _ (Ev.load_old_agg tok (basC p b) rfl rfl rfl hl1 hc1) rfl ?_ | refine U0 _ (Ev.load_old tok rfl rfl hl2 hc2) rfl ?_ | refine U0 _ (Ev.call (f := 67) (ck rfl) rfl (fun w S => (exact_any (hb.sys S) ho.rowsOk hv :))) rfl ?_ | refine U0 _ (Ev.call (f := 94) (ck rfl) rfl (fun w S => (above_any (n := num b m.s.vol) (d := den b m.s.vol) hk w :))) rfl ?_ | refine O4 rfl rfl rfl (fun _ _ => ?_) | refine O5 tok rfl rfl rfl (fun _ _ => ?_) | refine U0 _ (U2 rfl) rfl ?_ | refine U0 _ (U3 tok rfl rfl rfl rfl rfl) rfl ?_ | refine z3 tok rfl ?_ | refine U0 _ (U4 rfl rfl) rfl ?_ | refine U0 _ (U5 rfl rfl) rfl ?_) | (refine M1 ?_; first | refine J0 ?_ | refine J1 ?_ | refine J2 mixed rfl (by kernel_rfl) ?_ | refine J3 mixed rfl rfl (by kernel_rfl) ?_ | refine J4 ?_ | refine J5 ?_ | refine J6 ?_ | refine J7 ?_ | refine J8 rfl ?_ | refine J9 rfl ?_) | (refine M2 ?_; first | refine I0 ?_ | refine I1 ?_ | refine I2 ?_ | refine I3 ?_ | refine I4 ?_ | refine I5 ?_ | refine I6 rfl ?_ | refine I7 ?_ | refine I8 ?_ | refine z4 ?_) | (refine M3 ?_; first | refine O6 ?_ | refine z2 tok rfl ?_ | refine O8 rfl ?_ | refine O7 rfl ?_ rfl | refine O9 rfl ?_ rfl | refine U1 _ (Ev.load_old_agg tok (basC p b) rfl rfl rfl hl1 hc1) rfl ?_ | refine U1 _ (Ev.load_old tok rfl rfl hl2 hc2) rfl ?_ | refine U1 _ (Ev.call (f := 67) (ck rfl) rfl (fun w S => (exact_any (hb.sys S) ho.rowsOk hv :))) rfl ?_ | refine U1 _ (Ev.call (f := 94) (ck rfl) rfl (fun w S => (above_any (n := num b m.s.vol) (d := den b m.s.vol) hk w :))) rfl ?_ | refine U1 _ (U4 rfl rfl) rfl ?_ | refine U1 _ (U5 rfl rfl) rfl ?_ | refine U1 _ (U2 rfl) rfl ?_ | refine U1 _ (U3 tok rfl rfl rfl rfl rfl) rfl ?_) | (refine M4 ?_; first | refine M6 ?_ | refine U6 rfl (by kernel_rfl) ?_ | refine U7 (by kernel_rfl) ?_) | (refine M5 ?_; first | exact M7 | refine U8 rfl ?_ | refine U9 rfl rfl ?_ ?_))
  refine XE.retg tok Tryd.results93 rfl (by simp only [and_self, and_true]) (fun w' S => ?_)
  exact ⟨rfl, S.toBelow⟩
theorem MomRow.len {ok : Nat → Prop} {r : SV} {ms : List Mom} (h : MomRow w ok r ms) : r.n = ms.length := by
  have := h.rd.len
  rw [flat_len Mom.c 7 Mom.c_len] at this
  omega
theorem MomRow.mom {ok : Nat → Prop} {ad : Addr} {n c : Nat} {ms : List Mom} (h : MomRow w ok ⟨some ad, n, c⟩ ms) {k : Nat} {m : Mom} (hk : ms[k]? = some m) : ∀ j u, m.c[j]? = some u → w.cell? ((ad.add (k * 7)).add j) = some u := fun j u hj => by
  have hn := h.len
  have hkl := (List.getElem?_eq_some_iff.1 hk).1
  obtain ⟨ad', e, _, h1⟩ := h.rd.at_ (by simp only at hn ⊢; omega)
  cases e
  have hj3 : j < 7 := (List.getElem?_eq_some_iff.1 hj).1
  have e2 := flat_at Mom.c 7 Mom.c_len ms k j m hk hj3
  have := h1 (k * 7 + j) u (e2.trans hj)
  rw [add_add]
  exact this
set_option maxHeartbeats 4000000 in
theorem index_any {r : SV} {ms : List Mom} (hr : MomRow w (Lt w.heap.size) r ms) (h1 : w.heap[gb]? = some (cel 25 (basC p b))) (h2 : w.heap[gl]? = some (cel 3 [.int .i64 lim])) (hb : BasAt w w.heap.size p b) (ho : Ok b)
    (hv : ∀ m, m ∈ ms → (b.row 0).vol ≤ m.s.vol ∧ m.s.vol ≤ 1000000000) (hl : -20000 ≤ lim ∧ lim ≤ 20000) :
    Calls Tryd.prog 60 #[svV r, .func (.func 93) #[] #[.pointer (some ⟨gb, 0, none⟩), .pointer (some ⟨gl, 0, none⟩)]] w fun e w' => e = .returned (.int .i64 (match ms.findIdx? fun m => overB b lim m.s.vol with | some i => ((i : Nat) : Int) | none => -1)) ∧ Below w.heap.size w w' := by
  obtain ⟨A, n, c⟩ := r
  have hn := hr.len
  simp only at hn
  subst hn
  have hmax := hr.max
  simp only at hmax
  simp only [svV]
  refine enter Tryd.func60 rfl Tryd.ntmps60 rfl ?_; simp only [frame, Nat.zero_add, Nat.reduceAdd]
  repeat (first | (refine M0 ?_; first | refine O0 ?_ | refine z1 tok rfl ?_ | refine O1 rfl ?_ rfl | refine O2 rfl ?_ | refine O3 rfl ?_ rfl | refine O4 rfl rfl rfl (fun _ _ => ?_) | refine O5 tok rfl rfl rfl (fun _ _ => ?_) | refine U0 _ (U2 rfl) rfl ?_ | refine U0 _ (U3 tok rfl rfl rfl rfl rfl) rfl ?_ | refine z3 tok rfl ?_ | refine U0 _ (U4 rfl rfl) rfl ?_ | refine U0 _ (U5 rfl rfl) rfl ?_) | (refine M1 ?_; first | refine J0 ?_ | refine J1 ?_ | refine J2 mixed rfl (by kernel_rfl) ?_ | refine J3 mixed rfl rfl (by kernel_rfl) ?_ | refine J4 ?_ | refine J5 ?_ | refine J6 ?_ | refine J7 ?_ | refine J8 rfl ?_ | refine J9 rfl ?_) | (refine M2 ?_; first | refine I0 ?_ | refine I1 ?_ | refine I2 ?_ | refine I3 ?_ | refine I4 ?_ | refine I5 ?_ | refine I6 rfl ?_ | refine I7 ?_ | refine I8 ?_ | refine z4 ?_) | (refine M3 ?_; first | refine O6 ?_ | refine z2 tok rfl ?_ | refine O8 rfl ?_ | refine O7 rfl ?_ rfl | refine O9 rfl ?_ rfl | refine U1 _ (U4 rfl rfl) rfl ?_ | refine U1 _ (U5 rfl rfl) rfl ?_ | refine U1 _ (U2 rfl) rfl ?_ | refine U1 _ (U3 tok rfl rfl rfl rfl rfl) rfl ?_) | (refine M4 ?_; first | refine M6 ?_ | refine U6 rfl (by kernel_rfl) ?_ | refine U7 (by kernel_rfl) ?_) | (refine M5 ?_; first | exact M7 | refine U8 rfl ?_ | refine U9 rfl rfl ?_ ?_))
  refine XC.loopk [0, 1, 7] rfl (fun k : Nat => [(8, .int .i64 (k : Nat))]) (fun _ => []) (fun _ => w) (fun k => k ≤ ms.length ∧ ∀ j m, j < k → ms[j]? = some m → overB b lim m.s.vol = false) (fun k => ms.length - k) 0 ⟨Nat.zero_le _, fun j m h => absurd h (by omega)⟩ (by repeat (first | exact Sub.nil | refine Sub.cons rfl ?_)) (fun _ h => h) ?_
  rintro k ⟨hk, h0⟩
  dsimp only [List.cons_append, List.nil_append]
  repeat (first | (refine M0 ?_; first | refine O0 ?_ | refine z1 tok rfl ?_ | refine O1 rfl ?_ rfl | refine O2 rfl ?_ | refine O3 rfl ?_ rfl | refine O4 rfl rfl rfl (fun _ _ => ?_) | refine O5 tok rfl rfl rfl (fun _ _ => ?_) | refine U0 _ (U2 rfl) rfl ?_ | refine U0 _ (U3 tok rfl rfl rfl rfl rfl) rfl ?_ | refine z3 tok rfl ?_ | refine U0 _ (U4 rfl rfl) rfl ?_ | refine U0 _ (U5 rfl rfl) rfl ?_) | (refine M1 ?_; first | refine J0 ?_ | refine J1 ?_ | refine J2 mixed rfl (by kernel_rfl) ?_ | refine J3 mixed rfl rfl (by kernel_rfl) ?_ | refine J4 ?_ | refine J5 ?_ | refine J6 ?_ | refine J7 ?_ | refine J8 rfl ?_ | refine J9 rfl ?_) | (refine M2 ?_; first | refine I0 ?_ | refine I1 ?_ | refine I2 ?_ | refine I3 ?_ | refine I4 ?_ | refine I5 ?_ | refine I6 rfl ?_ | refine I7 ?_ | refine I8 ?_ | refine z4 ?_) | (refine M3 ?_; first | refine O6 ?_ | refine z2 tok rfl ?_ | refine O8 rfl ?_ | refine O7 rfl ?_ rfl | refine O9 rfl ?_ rfl | refine U1 _ (U4 rfl rfl) rfl ?_ | refine U1 _ (U5 rfl rfl) rfl ?_ | refine U1 _ (U2 rfl) rfl ?_ | refine U1 _ (U3 tok rfl rfl rfl rfl rfl) rfl ?_) | (refine M4 ?_; first | refine M6 ?_ | refine U6 rfl (by kernel_rfl) ?_ | refine U7 (by kernel_rfl) ?_) | (refine M5 ?_; first | exact M7 | refine U8 rfl ?_ | refine U9 rfl rfl ?_ ?_))
  refine XC.cond _ rfl (fun h3 => ?_) (fun h3 => ?_)
  · have hkn : k < ms.length := by simpa using h3
    obtain ⟨ad, rfl, hlt, _⟩ := hr.rd.at_ (by simp only; omega)
    have hmk : ms[k]? = some ms[k] := List.getElem?_eq_getElem hkn
    have hcell := hr.mom hmk
    have hvk := hv ms[k] (List.getElem_mem hkn)
    repeat (first | (refine M0 ?_; first | refine O0 ?_ | refine z1 tok rfl ?_ | refine O1 rfl ?_ rfl | refine O2 rfl ?_ | refine O3 rfl ?_ rfl | refine U0 _ (Ev.load_old_agg tok ms[k].c rfl rfl rfl (add_lt hlt) hcell) rfl ?_ | refine U0 _ (Ev.callv (f := 93) (fst := []) (cap := [.pointer (some ⟨gb, 0, none⟩), .pointer (some ⟨gl, 0, none⟩)]) (ck rfl) rfl rfl (fun w S => (passed1_any (p := p) (b := b) (lim := lim) (m := ms[k]) ((S.toBelow.block gb (Array.getElem?_eq_some_iff.1 h1).1).trans h1) ((S.toBelow.block gl (Array.getElem?_eq_some_iff.1 h2).1).trans h2) (hb.sys S) ho hvk hl :))) rfl ?_ | refine O4 rfl rfl rfl (fun _ _ => ?_) | refine O5 tok rfl rfl rfl (fun _ _ => ?_) | refine U0 _ (U2 rfl) rfl ?_ | refine U0 _ (U3 tok rfl rfl rfl rfl rfl) rfl ?_ | refine z3 tok rfl ?_ | refine U0 _ (U4 rfl rfl) rfl ?_ | refine U0 _ (U5 rfl rfl) rfl ?_) | (refine M1 ?_; first | refine J0 ?_ | refine J1 ?_ | refine J2 mixed rfl (by kernel_rfl) ?_ | refine J3 mixed rfl rfl (by kernel_rfl) ?_ | refine J4 ?_ | refine J5 ?_ | refine J6 ?_ | refine J7 ?_ | refine J8 rfl ?_ | refine J9 rfl ?_) | (refine M2 ?_; first | refine I0 ?_ | refine I1 ?_ | refine I2 ?_ | refine I3 ?_ | refine I4 ?_ | refine I5 ?_ | refine I6 rfl ?_ | refine I7 ?_ | refine I8 ?_ | refine z4 ?_) | (refine M3 ?_; first | refine O6 ?_ | refine z2 tok rfl ?_ | refine O8 rfl ?_ | refine O7 rfl ?_ rfl | refine O9 rfl ?_ rfl | refine U1 _ (Ev.load_old_agg tok ms[k].c rfl rfl rfl (add_lt hlt) hcell) rfl ?_ | refine U1 _ (Ev.callv (f := 93) (fst := []) (cap := [.pointer (some ⟨gb, 0, none⟩), .pointer (some ⟨gl, 0, none⟩)]) (ck rfl) rfl rfl (fun w S => (passed1_any (p := p) (b := b) (lim := lim) (m := ms[k]) ((S.toBelow.block gb (Array.getElem?_eq_some_iff.1 h1).1).trans h1) ((S.toBelow.block gl (Array.getElem?_eq_some_iff.1 h2).1).trans h2) (hb.sys S) ho hvk hl :))) rfl ?_ | refine U1 _ (U4 rfl rfl) rfl ?_ | refine U1 _ (U5 rfl rfl) rfl ?_ | refine U1 _ (U2 rfl) rfl ?_ | refine U1 _ (U3 tok rfl rfl rfl rfl rfl) rfl ?_) | (refine M4 ?_; first | refine M6 ?_ | refine U6 rfl (by kernel_rfl) ?_ | refine U7 (by kernel_rfl) ?_) | (refine M5 ?_; first | exact M7 | refine U8 rfl ?_ | refine U9 rfl rfl ?_ ?_))
    refine XC.cond _ rfl (fun h4 => ?_) (fun h4 => ?_)
    · repeat (first | (refine M0 ?_; first | refine O0 ?_ | refine z1 tok rfl ?_ | refine O1 rfl ?_ rfl | refine O2 rfl ?_ | refine O3 rfl ?_ rfl | refine O4 rfl rfl rfl (fun _ _ => ?_) | refine O5 tok rfl rfl rfl (fun _ _ => ?_) | refine U0 _ (U2 rfl) rfl ?_ | refine U0 _ (U3 tok rfl rfl rfl rfl rfl) rfl ?_ | refine z3 tok rfl ?_ | refine U0 _ (U4 rfl rfl) rfl ?_ | refine U0 _ (U5 rfl rfl) rfl ?_) | (refine M1 ?_; first | refine J0 ?_ | refine J1 ?_ | refine J2 mixed rfl (by kernel_rfl) ?_ | refine J3 mixed rfl rfl (by kernel_rfl) ?_ | refine J4 ?_ | refine J5 ?_ | refine J6 ?_ | refine J7 ?_ | refine J8 rfl ?_ | refine J9 rfl ?_) | (refine M2 ?_; first | refine I0 ?_ | refine I1 ?_ | refine I2 ?_ | refine I3 ?_ | refine I4 ?_ | refine I5 ?_ | refine I6 rfl ?_ | refine I7 ?_ | refine I8 ?_ | refine z4 ?_) | (refine M3 ?_; first | refine O6 ?_ | refine z2 tok rfl ?_ | refine O8 rfl ?_ | refine O7 rfl ?_ rfl | refine O9 rfl ?_ rfl | refine U1 _ (U4 rfl rfl) rfl ?_ | refine U1 _ (U5 rfl rfl) rfl ?_ | refine U1 _ (U2 rfl) rfl ?_ | refine U1 _ (U3 tok rfl rfl rfl rfl rfl) rfl ?_) | (refine M4 ?_; first | refine M6 ?_ | refine U6 rfl (by kernel_rfl) ?_ | refine U7 (by kernel_rfl) ?_) | (refine M5 ?_; first | exact M7 | refine U8 rfl ?_ | refine U9 rfl rfl ?_ ?_))
      refine XE.retg tok Tryd.results60 rfl (by simp only [and_self, and_true]) (fun w' S => ?_)
      have : ms.findIdx? (fun m => overB b lim m.s.vol) = some k := by
        rw [List.findIdx?_eq_some_iff_getElem]
        exact ⟨hkn, h4, fun j hj => by simpa using h0 j _ hj (List.getElem?_eq_getElem (by omega))⟩
      rw [this]
      exact ⟨rfl, S.toBelow⟩
    · repeat (first | (refine M0 ?_; first | refine O0 ?_ | refine z1 tok rfl ?_ | refine O1 rfl ?_ rfl | refine O2 rfl ?_ | refine O3 rfl ?_ rfl | refine O4 rfl rfl rfl (fun _ _ => ?_) | refine O5 tok rfl rfl rfl (fun _ _ => ?_) | refine U0 _ (U2 rfl) rfl ?_ | refine U0 _ (U3 tok rfl rfl rfl rfl rfl) rfl ?_ | refine z3 tok rfl ?_ | refine U0 _ (U4 rfl rfl) rfl ?_ | refine U0 _ (U5 rfl rfl) rfl ?_) | (refine M1 ?_; first | refine J0 ?_ | refine J1 ?_ | refine J2 mixed rfl (by kernel_rfl) ?_ | refine J3 mixed rfl rfl (by kernel_rfl) ?_ | refine J4 ?_ | refine J5 ?_ | refine J6 ?_ | refine J7 ?_ | refine J8 rfl ?_ | refine J9 rfl ?_) | (refine M2 ?_; first | refine I0 ?_ | refine I1 ?_ | refine I2 ?_ | refine I3 ?_ | refine I4 ?_ | refine I5 ?_ | refine I6 rfl ?_ | refine I7 ?_ | refine I8 ?_ | refine z4 ?_) | (refine M3 ?_; first | refine O6 ?_ | refine z2 tok rfl ?_ | refine O8 rfl ?_ | refine O7 rfl ?_ rfl | refine O9 rfl ?_ rfl | refine U1 _ (U4 rfl rfl) rfl ?_ | refine U1 _ (U5 rfl rfl) rfl ?_ | refine U1 _ (U2 rfl) rfl ?_ | refine U1 _ (U3 tok rfl rfl rfl rfl rfl) rfl ?_) | (refine M4 ?_; first | refine M6 ?_ | refine U6 rfl (by kernel_rfl) ?_ | refine U7 (by kernel_rfl) ?_) | (refine M5 ?_; first | exact M7 | refine U8 rfl ?_ | refine U9 rfl rfl ?_ ?_))
      refine XE.round (k + 1) ⟨hkn, fun j m hj hm => ?_⟩ (by omega) (by repeat (first | exact Sub.nil | refine Sub.cons rfl ?_)) (fun _ h => h)
      rcases Nat.lt_or_ge j k with h5 | h5
      · exact h0 j m h5 hm
      · have : j = k := by omega
        subst this
        rw [hmk] at hm
        cases hm
        exact h4
  · have hkn : ¬ k < ms.length := by simpa using h3
    repeat (first | (refine M0 ?_; first | refine O0 ?_ | refine z1 tok rfl ?_ | refine O1 rfl ?_ rfl | refine O2 rfl ?_ | refine O3 rfl ?_ rfl | refine O4 rfl rfl rfl (fun _ _ => ?_) | refine O5 tok rfl rfl rfl (fun _ _ => ?_) | refine U0 _ (U2 rfl) rfl ?_ | refine U0 _ (U3 tok rfl rfl rfl rfl rfl) rfl ?_ | refine z3 tok rfl ?_ | refine U0 _ (U4 rfl rfl) rfl ?_ | refine U0 _ (U5 rfl rfl) rfl ?_) | (refine M1 ?_; first | refine J0 ?_ | refine J1 ?_ | refine J2 mixed rfl (by kernel_rfl) ?_ | refine J3 mixed rfl rfl (by kernel_rfl) ?_ | refine J4 ?_ | refine J5 ?_ | refine J6 ?_ | refine J7 ?_ | refine J8 rfl ?_ | refine J9 rfl ?_) | (refine M2 ?_; first | refine I0 ?_ | refine I1 ?_ | refine I2 ?_ | refine I3 ?_ | refine I4 ?_ | refine I5 ?_ | refine I6 rfl ?_ | refine I7 ?_ | refine I8 ?_ | refine z4 ?_) | (refine M3 ?_; first | refine O6 ?_ | refine z2 tok rfl ?_ | refine O8 rfl ?_ | refine O7 rfl ?_ rfl | refine O9 rfl ?_ rfl | refine U1 _ (U4 rfl rfl) rfl ?_ | refine U1 _ (U5 rfl rfl) rfl ?_ | refine U1 _ (U2 rfl) rfl ?_ | refine U1 _ (U3 tok rfl rfl rfl rfl rfl) rfl ?_) | (refine M4 ?_; first | refine M6 ?_ | refine U6 rfl (by kernel_rfl) ?_ | refine U7 (by kernel_rfl) ?_) | (refine M5 ?_; first | exact M7 | refine U8 rfl ?_ | refine U9 rfl rfl ?_ ?_))
    refine XE.retg tok Tryd.results60 rfl (by simp only [and_self, and_true]) (fun w' S => ?_)
    have : ms.findIdx? (fun m => overB b lim m.s.vol) = none := by
      rw [List.findIdx?_eq_none_iff]
      intro m hm
      obtain ⟨j, hj, e⟩ := List.mem_iff_getElem.1 hm
      exact h0 j m (by omega) (by rw [List.getElem?_eq_getElem hj, e])
    rw [this]
    exact ⟨rfl, S.toBelow⟩
/-- the first moment whose level is above lim. -/
def firstOver (b : Bas) (lim : Int) (ms : List Mom) : Nat := ms.findIdx fun m => overB b lim m.s.vol
theorem first_some {b : Bas} {lim : Int} {ms : List Mom} {i : Nat} (h : ms.findIdx? (fun m => overB b lim m.s.vol) = some i) : firstOver b lim ms = i ∧ i < ms.length := by
  have h1 := List.findIdx?_eq_some_iff_getElem.1 h
  obtain ⟨hi, h2, h3⟩ := h1
  refine ⟨?_, hi⟩
  unfold firstOver
  rw [List.findIdx_eq hi]
  exact ⟨h2, fun j hj => by simpa using h3 j hj⟩
theorem first_none {b : Bas} {lim : Int} {ms : List Mom} (h : ms.findIdx? (fun m => overB b lim m.s.vol) = none) : firstOver b lim ms = ms.length := by
  rw [List.findIdx?_eq_none_iff] at h
  unfold firstOver
  exact List.findIdx_eq_length.2 fun m hm => by simpa using h m hm
set_option maxHeartbeats 4000000 in
theorem passed_any {r : SV} {ms : List Mom} (hr : MomRow w (Lt w.heap.size) r ms) (hb : BasAt w w.heap.size p b) (ho : Ok b)
    (hv : ∀ m, m ∈ ms → (b.row 0).vol ≤ m.s.vol ∧ m.s.vol ≤ 1000000000) (hl : -20000 ≤ lim ∧ lim ≤ 20000) :
    Calls Tryd.prog 57 #[basV p b, svV r, .int .i64 lim] w fun e w' => e = .returned (.int .i64 ((firstOver b lim ms : Nat) : Int)) ∧ Below w.heap.size w w' := by
  have hmax := hr.max
  have hn := hr.len
  simp only [basV, basC, svV]
  refine enter Tryd.func57 rfl Tryd.ntmps57 rfl ?_; simp only [frame, Nat.zero_add, Nat.reduceAdd]
  repeat (first | (refine M0 ?_; first | refine O0 ?_ | refine z1 tok rfl ?_ | refine O1 rfl ?_ rfl | refine O2 rfl ?_ | refine O3 rfl ?_ rfl | refine U0 _ (Ev.makeFunc rfl rfl) rfl ?_ | refine O4 rfl rfl rfl (fun _ _ => ?_) | refine O5 tok rfl rfl rfl (fun _ _ => ?_) | refine U0 _ (U2 rfl) rfl ?_ | refine U0 _ (U3 tok rfl rfl rfl rfl rfl) rfl ?_ | refine z3 tok rfl ?_ | refine U0 _ (U4 rfl rfl) rfl ?_ | refine U0 _ (U5 rfl rfl) rfl ?_) | (refine M1 ?_; first | refine J0 ?_ | refine J1 ?_ | refine J2 mixed rfl (by kernel_rfl) ?_ | refine J3 mixed rfl rfl (by kernel_rfl) ?_ | refine J4 ?_ | refine J5 ?_ | refine J6 ?_ | refine J7 ?_ | refine J8 rfl ?_ | refine J9 rfl ?_) | (refine M2 ?_; first | refine I0 ?_ | refine I1 ?_ | refine I2 ?_ | refine I3 ?_ | refine I4 ?_ | refine I5 ?_ | refine I6 rfl ?_ | refine I7 ?_ | refine I8 ?_ | refine z4 ?_) | (refine M3 ?_; first | refine O6 ?_ | refine z2 tok rfl ?_ | refine O8 rfl ?_ | refine O7 rfl ?_ rfl | refine O9 rfl ?_ rfl | refine U1 _ (Ev.makeFunc rfl rfl) rfl ?_ | refine U1 _ (U4 rfl rfl) rfl ?_ | refine U1 _ (U5 rfl rfl) rfl ?_ | refine U1 _ (U2 rfl) rfl ?_ | refine U1 _ (U3 tok rfl rfl rfl rfl rfl) rfl ?_) | (refine M4 ?_; first | refine M6 ?_ | refine U6 rfl (by kernel_rfl) ?_ | refine U7 (by kernel_rfl) ?_) | (refine M5 ?_; first | exact M7 | refine U8 rfl ?_ | refine U9 rfl rfl ?_ ?_))
  rename_i g3 hg3 g5 hg5
  repeat (first | (refine M0 ?_; first | refine O0 ?_ | refine z1 tok rfl ?_ | refine O1 rfl ?_ rfl | refine O2 rfl ?_ | refine O3 rfl ?_ rfl | refine U0 _ (Ev.callv (f := 60) (fst := []) (cap := []) (ck rfl) rfl rfl (fun w S => (index_any (p := p) (b := b) (lim := lim) (gb := g3) (gl := g5) (r := r) (ms := ms) ⟨hr.rd.arg S, hr.max, fun m hm => ⟨(hr.ins m hm).1.arg S, (hr.ins m hm).2.arg S⟩⟩ (S.own (g3, _) (List.mem_cons_of_mem _ List.mem_cons_self)).2 (S.own (g5, _) List.mem_cons_self).2 (hb.sys S) ho hv hl :))) rfl ?_ | refine O4 rfl rfl rfl (fun _ _ => ?_) | refine O5 tok rfl rfl rfl (fun _ _ => ?_) | refine U0 _ (U2 rfl) rfl ?_ | refine U0 _ (U3 tok rfl rfl rfl rfl rfl) rfl ?_ | refine z3 tok rfl ?_ | refine U0 _ (U4 rfl rfl) rfl ?_ | refine U0 _ (U5 rfl rfl) rfl ?_) | (refine M1 ?_; first | refine J0 ?_ | refine J1 ?_ | refine J2 mixed rfl (by kernel_rfl) ?_ | refine J3 mixed rfl rfl (by kernel_rfl) ?_ | refine J4 ?_ | refine J5 ?_ | refine J6 ?_ | refine J7 ?_ | refine J8 rfl ?_ | refine J9 rfl ?_) | (refine M2 ?_; first | refine I0 ?_ | refine I1 ?_ | refine I2 ?_ | refine I3 ?_ | refine I4 ?_ | refine I5 ?_ | refine I6 rfl ?_ | refine I7 ?_ | refine I8 ?_ | refine z4 ?_) | (refine M3 ?_; first | refine O6 ?_ | refine z2 tok rfl ?_ | refine O8 rfl ?_ | refine O7 rfl ?_ rfl | refine O9 rfl ?_ rfl | refine U1 _ (Ev.callv (f := 60) (fst := []) (cap := []) (ck rfl) rfl rfl (fun w S => (index_any (p := p) (b := b) (lim := lim) (gb := g3) (gl := g5) (r := r) (ms := ms) ⟨hr.rd.arg S, hr.max, fun m hm => ⟨(hr.ins m hm).1.arg S, (hr.ins m hm).2.arg S⟩⟩ (S.own (g3, _) (List.mem_cons_of_mem _ List.mem_cons_self)).2 (S.own (g5, _) List.mem_cons_self).2 (hb.sys S) ho hv hl :))) rfl ?_ | refine U1 _ (U4 rfl rfl) rfl ?_ | refine U1 _ (U5 rfl rfl) rfl ?_ | refine U1 _ (U2 rfl) rfl ?_ | refine U1 _ (U3 tok rfl rfl rfl rfl rfl) rfl ?_) | (refine M4 ?_; first | refine M6 ?_ | refine U6 rfl (by kernel_rfl) ?_ | refine U7 (by kernel_rfl) ?_) | (refine M5 ?_; first | exact M7 | refine U8 rfl ?_ | refine U9 rfl rfl ?_ ?_))
  cases hx : ms.findIdx? fun m => overB b lim m.s.vol with
  | none =>
    refine XC.cond_t rfl ?_
    repeat (first | (refine M0 ?_; first | refine O0 ?_ | refine z1 tok rfl ?_ | refine O1 rfl ?_ rfl | refine O2 rfl ?_ | refine O3 rfl ?_ rfl | refine O4 rfl rfl rfl (fun _ _ => ?_) | refine O5 tok rfl rfl rfl (fun _ _ => ?_) | refine U0 _ (U2 rfl) rfl ?_ | refine U0 _ (U3 tok rfl rfl rfl rfl rfl) rfl ?_ | refine z3 tok rfl ?_ | refine U0 _ (U4 rfl rfl) rfl ?_ | refine U0 _ (U5 rfl rfl) rfl ?_) | (refine M1 ?_; first | refine J0 ?_ | refine J1 ?_ | refine J2 mixed rfl (by kernel_rfl) ?_ | refine J3 mixed rfl rfl (by kernel_rfl) ?_ | refine J4 ?_ | refine J5 ?_ | refine J6 ?_ | refine J7 ?_ | refine J8 rfl ?_ | refine J9 rfl ?_) | (refine M2 ?_; first | refine I0 ?_ | refine I1 ?_ | refine I2 ?_ | refine I3 ?_ | refine I4 ?_ | refine I5 ?_ | refine I6 rfl ?_ | refine I7 ?_ | refine I8 ?_ | refine z4 ?_) | (refine M3 ?_; first | refine O6 ?_ | refine z2 tok rfl ?_ | refine O8 rfl ?_ | refine O7 rfl ?_ rfl | refine O9 rfl ?_ rfl | refine U1 _ (U4 rfl rfl) rfl ?_ | refine U1 _ (U5 rfl rfl) rfl ?_ | refine U1 _ (U2 rfl) rfl ?_ | refine U1 _ (U3 tok rfl rfl rfl rfl rfl) rfl ?_) | (refine M4 ?_; first | refine M6 ?_ | refine U6 rfl (by kernel_rfl) ?_ | refine U7 (by kernel_rfl) ?_) | (refine M5 ?_; first | exact M7 | refine U8 rfl ?_ | refine U9 rfl rfl ?_ ?_))
    refine XE.retg tok Tryd.results57 rfl (by simp only [and_self, and_true]) (fun w' S => ?_)
    rw [first_none hx, ← hn]
    exact ⟨rfl, S.toBelow⟩
  | some i =>
    obtain ⟨e1, e2⟩ := first_some hx
    refine XC.cond _ rfl (fun h4 => absurd h4 (by simp)) (fun h4 => ?_)
    repeat (first | (refine M0 ?_; first | refine O0 ?_ | refine z1 tok rfl ?_ | refine O1 rfl ?_ rfl | refine O2 rfl ?_ | refine O3 rfl ?_ rfl | refine O4 rfl rfl rfl (fun _ _ => ?_) | refine O5 tok rfl rfl rfl (fun _ _ => ?_) | refine U0 _ (U2 rfl) rfl ?_ | refine U0 _ (U3 tok rfl rfl rfl rfl rfl) rfl ?_ | refine z3 tok rfl ?_ | refine U0 _ (U4 rfl rfl) rfl ?_ | refine U0 _ (U5 rfl rfl) rfl ?_) | (refine M1 ?_; first | refine J0 ?_ | refine J1 ?_ | refine J2 mixed rfl (by kernel_rfl) ?_ | refine J3 mixed rfl rfl (by kernel_rfl) ?_ | refine J4 ?_ | refine J5 ?_ | refine J6 ?_ | refine J7 ?_ | refine J8 rfl ?_ | refine J9 rfl ?_) | (refine M2 ?_; first | refine I0 ?_ | refine I1 ?_ | refine I2 ?_ | refine I3 ?_ | refine I4 ?_ | refine I5 ?_ | refine I6 rfl ?_ | refine I7 ?_ | refine I8 ?_ | refine z4 ?_) | (refine M3 ?_; first | refine O6 ?_ | refine z2 tok rfl ?_ | refine O8 rfl ?_ | refine O7 rfl ?_ rfl | refine O9 rfl ?_ rfl | refine U1 _ (U4 rfl rfl) rfl ?_ | refine U1 _ (U5 rfl rfl) rfl ?_ | refine U1 _ (U2 rfl) rfl ?_ | refine U1 _ (U3 tok rfl rfl rfl rfl rfl) rfl ?_) | (refine M4 ?_; first | refine M6 ?_ | refine U6 rfl (by kernel_rfl) ?_ | refine U7 (by kernel_rfl) ?_) | (refine M5 ?_; first | exact M7 | refine U8 rfl ?_ | refine U9 rfl rfl ?_ ?_))
    refine XE.retg tok Tryd.results57 rfl (by simp only [and_self, and_true]) (fun w' S => ?_)
    rw [e1]
    exact ⟨rfl, S.toBelow⟩
end
/-- what Stay answers: the hour and the fault. -/
noncomputable def stayE (b : Bas) (s : Sta) (ts : List Tick) (lim : Int) : Int := if runE b s ts ≠ 0 then runE b s ts else if outB lim (b.row 0).level 20000 = true then 7 else 0
noncomputable def stayN (b : Bas) (s : Sta) (ts : List Tick) (lim : Int) : Int := if stayE b s ts lim ≠ 0 then 0 else (((momsAt b s ts ts.length).findIdx fun x => overB b lim x.1.vol : Nat) : Int)
theorem stay_run {b : Bas} {s : Sta} {ts : List Tick} {lim : Int} (h : runE b s ts ≠ 0) : stayE b s ts lim = runE b s ts ∧ stayN b s ts lim = 0 := by
  have : stayE b s ts lim = runE b s ts := by unfold stayE; rw [if_pos h]
  exact ⟨this, by unfold stayN; rw [this, if_pos h]⟩
theorem stay_out {b : Bas} {s : Sta} {ts : List Tick} {lim : Int} (h : runE b s ts = 0) (h1 : outB lim (b.row 0).level 20000 = true) : stayE b s ts lim = 7 ∧ stayN b s ts lim = 0 := by
  have : stayE b s ts lim = 7 := by unfold stayE; rw [if_neg (by simp [h]), if_pos h1]
  exact ⟨this, by unfold stayN; rw [this, if_pos (by decide)]⟩
theorem stay_in {b : Bas} {s : Sta} {ts : List Tick} {lim : Int} (h : runE b s ts = 0) (h1 : outB lim (b.row 0).level 20000 = false) : stayE b s ts lim = 0 ∧ stayN b s ts lim = (((momsAt b s ts ts.length).findIdx fun x => overB b lim x.1.vol : Nat) : Int) := by
  have : stayE b s ts lim = 0 := by unfold stayE; rw [if_neg (by simp [h]), if_neg (by simp [h1])]
  exact ⟨this, by unfold stayN; rw [this, if_neg (by simp)]⟩
theorem momsAt_ok {b : Bas} {s : Sta} {ts : List Tick} (ho : Ok b) (hs : StaOk b s) (h : ∀ k, k < ts.length → errAt b s ts k = 0) {ms : List Mom} (hms : ms.map Mom.p = momsAt b s ts ts.length) : ∀ m, m ∈ ms → (b.row 0).vol ≤ m.s.vol ∧ m.s.vol ≤ 1000000000 := by
  intro m hm
  have h1 : m.p ∈ momsAt b s ts ts.length := by rw [← hms]; exact List.mem_map.2 ⟨m, hm, rfl⟩
  unfold momsAt at h1
  obtain ⟨i, hi, e⟩ := List.mem_map.1 h1
  have hi' : i < ts.length := by simpa using hi
  have := (staAt_ok ho hs (ts := ts) (i + 1) fun j hj => h j (by omega)).vol
  have e2 : staAt b s ts (i + 1) = m.s := congrArg Prod.fst e
  rw [e2] at this
  exact this
theorem first_moms {b : Bas} {s : Sta} {ts : List Tick} {lim : Int} {ms : List Mom} (hms : ms.map Mom.p = momsAt b s ts ts.length) : firstOver b lim ms = (momsAt b s ts ts.length).findIdx fun x => overB b lim x.1.vol := by
  rw [← hms, List.findIdx_map]
  rfl
set_option maxHeartbeats 8000000 in
theorem Stay_any {p : BV} {b : Bas} {q r : SV} {s : Sta} {ts : List Tick} {lim : Int} {w : World} (hL : Laid w) (hb : BasAt w w.heap.size p b) (hq : IntsAt w (Lt w.heap.size) q s.fil) (ht : TksAt w (Lt w.heap.size) r ts) :
    Calls Tryd.prog 27 #[basV p b, staV q s, svV r, .int .i64 lim] w fun e w' => e = .returned (.tuple ⟨[.int .i64 (stayN b s ts lim), .int .i64 (stayE b s ts lim)]⟩) ∧ Below w.heap.size w w' := by
  simp only [basV, basC, staV, staC, svV]
  refine enter Tryd.func27 rfl Tryd.ntmps27 rfl ?_; simp only [frame, Nat.zero_add, Nat.reduceAdd]
  repeat (first | (refine M0 ?_; first | refine O0 ?_ | refine z1 tok rfl ?_ | refine O1 rfl ?_ rfl | refine O2 rfl ?_ | refine O3 rfl ?_ rfl | refine O4 rfl rfl rfl (fun _ _ => ?_) | refine O5 tok rfl rfl rfl (fun _ _ => ?_) | refine U0 _ (U2 rfl) rfl ?_ | refine U0 _ (U3 tok rfl rfl rfl rfl rfl) rfl ?_ | refine z3 tok rfl ?_ | refine U0 _ (U4 rfl rfl) rfl ?_ | refine U0 _ (U5 rfl rfl) rfl ?_) | (refine M1 ?_; first | refine J0 ?_ | refine J1 ?_ | refine J2 mixed rfl (by kernel_rfl) ?_ | refine J3 mixed rfl rfl (by kernel_rfl) ?_ | refine J4 ?_ | refine J5 ?_ | refine J6 ?_ | refine J7 ?_ | refine J8 rfl ?_ | refine J9 rfl ?_) | (refine M2 ?_; first | refine I0 ?_ | refine I1 ?_ | refine I2 ?_ | refine I3 ?_ | refine I4 ?_ | refine I5 ?_ | refine I6 rfl ?_ | refine I7 ?_ | refine I8 ?_ | refine z4 ?_) | (refine M3 ?_; first | refine O6 ?_ | refine z2 tok rfl ?_ | refine O8 rfl ?_ | refine O7 rfl ?_ rfl | refine O9 rfl ?_ rfl | refine U1 _ (U4 rfl rfl) rfl ?_ | refine U1 _ (U5 rfl rfl) rfl ?_ | refine U1 _ (U2 rfl) rfl ?_ | refine U1 _ (U3 tok rfl rfl rfl rfl rfl) rfl ?_) | (refine M4 ?_; first | refine M6 ?_ | refine U6 rfl (by kernel_rfl) ?_ | refine U7 (by kernel_rfl) ?_) | (refine M5 ?_; first | exact M7 | refine U8 rfl ?_ | refine U9 rfl rfl ?_ ?_))
  refine XL.call (fst := []) (cap := []) (ck rfl) rfl rfl rfl (List.Sublist.refl _) (fun w1 v w2 => RunR b s ts w1 v w2)
    (fun w1 S1 => (run_any (p := p) (q := q) (r := r) (hL.below S1.toBelow) (hb.sys S1) (hq.arg S1) (ht.arg S1)).mono fun e w' ⟨v, h, h4⟩ => ⟨v, h, h4, h4.2⟩) (fun w1 v w2 S1 hR hB S2 => ?_)
  rcases hR.1 with ⟨h1, rfl⟩ | ⟨h1, hE, h3, h4, rm, ms, rfl, hrow, hms⟩
  · repeat (first | (refine M0 ?_; first | refine O0 ?_ | refine z1 tok rfl ?_ | refine O1 rfl ?_ rfl | refine O2 rfl ?_ | refine O3 rfl ?_ rfl | refine O4 rfl rfl rfl (fun _ _ => ?_) | refine O5 tok rfl rfl rfl (fun _ _ => ?_) | refine U0 _ (U2 rfl) rfl ?_ | refine U0 _ (U3 tok rfl rfl rfl rfl rfl) rfl ?_ | refine z3 tok rfl ?_ | refine U0 _ (U4 rfl rfl) rfl ?_ | refine U0 _ (U5 rfl rfl) rfl ?_) | (refine M1 ?_; first | refine J0 ?_ | refine J1 ?_ | refine J2 mixed rfl (by kernel_rfl) ?_ | refine J3 mixed rfl rfl (by kernel_rfl) ?_ | refine J4 ?_ | refine J5 ?_ | refine J6 ?_ | refine J7 ?_ | refine J8 rfl ?_ | refine J9 rfl ?_) | (refine M2 ?_; first | refine I0 ?_ | refine I1 ?_ | refine I2 ?_ | refine I3 ?_ | refine I4 ?_ | refine I5 ?_ | refine I6 rfl ?_ | refine I7 ?_ | refine I8 ?_ | refine z4 ?_) | (refine M3 ?_; first | refine O6 ?_ | refine z2 tok rfl ?_ | refine O8 rfl ?_ | refine O7 rfl ?_ rfl | refine O9 rfl ?_ rfl | refine U1 _ (U4 rfl rfl) rfl ?_ | refine U1 _ (U5 rfl rfl) rfl ?_ | refine U1 _ (U2 rfl) rfl ?_ | refine U1 _ (U3 tok rfl rfl rfl rfl rfl) rfl ?_) | (refine M4 ?_; first | refine M6 ?_ | refine U6 rfl (by kernel_rfl) ?_ | refine U7 (by kernel_rfl) ?_) | (refine M5 ?_; first | exact M7 | refine U8 rfl ?_ | refine U9 rfl rfl ?_ ?_))
    refine XC.cond _ rfl (fun h5 => ?_) (fun h5 => absurd h1 (by simpa using h5))
    repeat (first | (refine M0 ?_; first | refine O0 ?_ | refine z1 tok rfl ?_ | refine O1 rfl ?_ rfl | refine O2 rfl ?_ | refine O3 rfl ?_ rfl | refine O4 rfl rfl rfl (fun _ _ => ?_) | refine O5 tok rfl rfl rfl (fun _ _ => ?_) | refine U0 _ (U2 rfl) rfl ?_ | refine U0 _ (U3 tok rfl rfl rfl rfl rfl) rfl ?_ | refine z3 tok rfl ?_ | refine U0 _ (U4 rfl rfl) rfl ?_ | refine U0 _ (U5 rfl rfl) rfl ?_) | (refine M1 ?_; first | refine J0 ?_ | refine J1 ?_ | refine J2 mixed rfl (by kernel_rfl) ?_ | refine J3 mixed rfl rfl (by kernel_rfl) ?_ | refine J4 ?_ | refine J5 ?_ | refine J6 ?_ | refine J7 ?_ | refine J8 rfl ?_ | refine J9 rfl ?_) | (refine M2 ?_; first | refine I0 ?_ | refine I1 ?_ | refine I2 ?_ | refine I3 ?_ | refine I4 ?_ | refine I5 ?_ | refine I6 rfl ?_ | refine I7 ?_ | refine I8 ?_ | refine z4 ?_) | (refine M3 ?_; first | refine O6 ?_ | refine z2 tok rfl ?_ | refine O8 rfl ?_ | refine O7 rfl ?_ rfl | refine O9 rfl ?_ rfl | refine U1 _ (U4 rfl rfl) rfl ?_ | refine U1 _ (U5 rfl rfl) rfl ?_ | refine U1 _ (U2 rfl) rfl ?_ | refine U1 _ (U3 tok rfl rfl rfl rfl rfl) rfl ?_) | (refine M4 ?_; first | refine M6 ?_ | refine U6 rfl (by kernel_rfl) ?_ | refine U7 (by kernel_rfl) ?_) | (refine M5 ?_; first | exact M7 | refine U8 rfl ?_ | refine U9 rfl rfl ?_ ?_))
    refine XE.retg tok Tryd.results27 rfl (by simp only [and_self, and_true]) (fun w' S => ?_)
    obtain ⟨e1, e2⟩ := stay_run (lim := lim) h1
    rw [e1, e2]
    exact ⟨rfl, S2.toBelow.trans S.toBelow⟩
  · obtain ⟨ho, hs⟩ := staOk_of hE
    have hbb := hb.below S2.toBelow
    simp only [svV]
    repeat (first | (refine M0 ?_; first | refine O0 ?_ | refine z1 tok rfl ?_ | refine O1 rfl ?_ rfl | refine O2 rfl ?_ | refine O3 rfl ?_ rfl | refine U0 _ (Ev.call (f := 56) (ck rfl) rfl (fun w S => (beyond_any (p := p) (hbb.sys S) ho.rowsOk lim :))) rfl ?_ | refine O4 rfl rfl rfl (fun _ _ => ?_) | refine O5 tok rfl rfl rfl (fun _ _ => ?_) | refine U0 _ (U2 rfl) rfl ?_ | refine U0 _ (U3 tok rfl rfl rfl rfl rfl) rfl ?_ | refine z3 tok rfl ?_ | refine U0 _ (U4 rfl rfl) rfl ?_ | refine U0 _ (U5 rfl rfl) rfl ?_) | (refine M1 ?_; first | refine J0 ?_ | refine J1 ?_ | refine J2 mixed rfl (by kernel_rfl) ?_ | refine J3 mixed rfl rfl (by kernel_rfl) ?_ | refine J4 ?_ | refine J5 ?_ | refine J6 ?_ | refine J7 ?_ | refine J8 rfl ?_ | refine J9 rfl ?_) | (refine M2 ?_; first | refine I0 ?_ | refine I1 ?_ | refine I2 ?_ | refine I3 ?_ | refine I4 ?_ | refine I5 ?_ | refine I6 rfl ?_ | refine I7 ?_ | refine I8 ?_ | refine z4 ?_) | (refine M3 ?_; first | refine O6 ?_ | refine z2 tok rfl ?_ | refine O8 rfl ?_ | refine O7 rfl ?_ rfl | refine O9 rfl ?_ rfl | refine U1 _ (Ev.call (f := 56) (ck rfl) rfl (fun w S => (beyond_any (p := p) (hbb.sys S) ho.rowsOk lim :))) rfl ?_ | refine U1 _ (U4 rfl rfl) rfl ?_ | refine U1 _ (U5 rfl rfl) rfl ?_ | refine U1 _ (U2 rfl) rfl ?_ | refine U1 _ (U3 tok rfl rfl rfl rfl rfl) rfl ?_) | (refine M4 ?_; first | refine M6 ?_ | refine U6 rfl (by kernel_rfl) ?_ | refine U7 (by kernel_rfl) ?_) | (refine M5 ?_; first | exact M7 | refine U8 rfl ?_ | refine U9 rfl rfl ?_ ?_))
    refine XC.cond _ rfl (fun h5 => ?_) (fun h5 => ?_)
    · repeat (first | (refine M0 ?_; first | refine O0 ?_ | refine z1 tok rfl ?_ | refine O1 rfl ?_ rfl | refine O2 rfl ?_ | refine O3 rfl ?_ rfl | refine O4 rfl rfl rfl (fun _ _ => ?_) | refine O5 tok rfl rfl rfl (fun _ _ => ?_) | refine U0 _ (U2 rfl) rfl ?_ | refine U0 _ (U3 tok rfl rfl rfl rfl rfl) rfl ?_ | refine z3 tok rfl ?_ | refine U0 _ (U4 rfl rfl) rfl ?_ | refine U0 _ (U5 rfl rfl) rfl ?_) | (refine M1 ?_; first | refine J0 ?_ | refine J1 ?_ | refine J2 mixed rfl (by kernel_rfl) ?_ | refine J3 mixed rfl rfl (by kernel_rfl) ?_ | refine J4 ?_ | refine J5 ?_ | refine J6 ?_ | refine J7 ?_ | refine J8 rfl ?_ | refine J9 rfl ?_) | (refine M2 ?_; first | refine I0 ?_ | refine I1 ?_ | refine I2 ?_ | refine I3 ?_ | refine I4 ?_ | refine I5 ?_ | refine I6 rfl ?_ | refine I7 ?_ | refine I8 ?_ | refine z4 ?_) | (refine M3 ?_; first | refine O6 ?_ | refine z2 tok rfl ?_ | refine O8 rfl ?_ | refine O7 rfl ?_ rfl | refine O9 rfl ?_ rfl | refine U1 _ (U4 rfl rfl) rfl ?_ | refine U1 _ (U5 rfl rfl) rfl ?_ | refine U1 _ (U2 rfl) rfl ?_ | refine U1 _ (U3 tok rfl rfl rfl rfl rfl) rfl ?_) | (refine M4 ?_; first | refine M6 ?_ | refine U6 rfl (by kernel_rfl) ?_ | refine U7 (by kernel_rfl) ?_) | (refine M5 ?_; first | exact M7 | refine U8 rfl ?_ | refine U9 rfl rfl ?_ ?_))
      refine XE.retg tok Tryd.results27 rfl (by simp only [and_self, and_true]) (fun w' S => ?_)
      obtain ⟨e1, e2⟩ := stay_out h1 h5
      rw [e1, e2]
      exact ⟨rfl, S2.toBelow.trans S.toBelow⟩
    · have h6 := outB_f.1 h5
      have h7 := ho.rowsOk.level 0 (by have := ho.rowsOk.n2; omega)
      have hl : -20000 ≤ lim ∧ lim ≤ 20000 := by omega
      have hk : Keep (Btw w1.heap.size w2.heap.size) w2 _ := Keep.made S1 (Nat.le_refl _)
      repeat (first | (refine M0 ?_; first | refine O0 ?_ | refine z1 tok rfl ?_ | refine O1 rfl ?_ rfl | refine O2 rfl ?_ | refine O3 rfl ?_ rfl | refine U0 _ (Ev.call (f := 57) (ck rfl) rfl (fun w S => (passed_any (p := p) (r := rm) (ms := ms) ⟨hrow.rd.sys S hk, hrow.max, fun m hm => ⟨(hrow.ins m hm).1.sys S hk, (hrow.ins m hm).2.sys S hk⟩⟩ (hbb.sys S) ho (momsAt_ok ho hs h4 hms) hl :))) rfl ?_ | refine O4 rfl rfl rfl (fun _ _ => ?_) | refine O5 tok rfl rfl rfl (fun _ _ => ?_) | refine U0 _ (U2 rfl) rfl ?_ | refine U0 _ (U3 tok rfl rfl rfl rfl rfl) rfl ?_ | refine z3 tok rfl ?_ | refine U0 _ (U4 rfl rfl) rfl ?_ | refine U0 _ (U5 rfl rfl) rfl ?_) | (refine M1 ?_; first | refine J0 ?_ | refine J1 ?_ | refine J2 mixed rfl (by kernel_rfl) ?_ | refine J3 mixed rfl rfl (by kernel_rfl) ?_ | refine J4 ?_ | refine J5 ?_ | refine J6 ?_ | refine J7 ?_ | refine J8 rfl ?_ | refine J9 rfl ?_) | (refine M2 ?_; first | refine I0 ?_ | refine I1 ?_ | refine I2 ?_ | refine I3 ?_ | refine I4 ?_ | refine I5 ?_ | refine I6 rfl ?_ | refine I7 ?_ | refine I8 ?_ | refine z4 ?_) | (refine M3 ?_; first | refine O6 ?_ | refine z2 tok rfl ?_ | refine O8 rfl ?_ | refine O7 rfl ?_ rfl | refine O9 rfl ?_ rfl | refine U1 _ (Ev.call (f := 57) (ck rfl) rfl (fun w S => (passed_any (p := p) (r := rm) (ms := ms) ⟨hrow.rd.sys S hk, hrow.max, fun m hm => ⟨(hrow.ins m hm).1.sys S hk, (hrow.ins m hm).2.sys S hk⟩⟩ (hbb.sys S) ho (momsAt_ok ho hs h4 hms) hl :))) rfl ?_ | refine U1 _ (U4 rfl rfl) rfl ?_ | refine U1 _ (U5 rfl rfl) rfl ?_ | refine U1 _ (U2 rfl) rfl ?_ | refine U1 _ (U3 tok rfl rfl rfl rfl rfl) rfl ?_) | (refine M4 ?_; first | refine M6 ?_ | refine U6 rfl (by kernel_rfl) ?_ | refine U7 (by kernel_rfl) ?_) | (refine M5 ?_; first | exact M7 | refine U8 rfl ?_ | refine U9 rfl rfl ?_ ?_))
      refine XE.retg tok Tryd.results27 rfl (by simp only [and_self, and_true]) (fun w' S => ?_)
      obtain ⟨e1, e2⟩ := stay_in h1 h5
      rw [e1, e2, ← first_moms hms]
      exact ⟨rfl, S2.toBelow.trans S.toBelow⟩
end Go.Proofs.YtoiepgcjinccpaaDoor.X
