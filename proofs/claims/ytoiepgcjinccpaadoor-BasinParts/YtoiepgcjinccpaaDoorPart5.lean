/-
  The walks of the document's stay and Stay; of both Floods.
-/
import Derived.Test.YtoiepgcjinccpaaDoorPart4
import Derived.Test.YtoiepgcjinccpaaDoorPart3
import Derived.Laws.StructEq
import Derived.Laws.MakeOwn
set_option linter.unusedVariables false
set_option linter.unusedSimpArgs false
namespace Go.Proofs.YtoiepgcjinccpaaDoor.Bs
def Flo.t (f : Flo) (i : Nat) : Int := f.taken[i]?.getD 0
/-- the first tick in which polder i takes water, or -1. -/
def firstF (fs : List Flo) (i : Nat) : Int := match fs.findIdx? fun f => decide (0 < f.t i) with
  | some k => ((k : Nat) : Int)
  | none => -1
noncomputable def floods (b : Bas) (s : Sta) (ts : List Tick) : List Int := if runE b s ts ≠ 0 then [] else (List.range b.pols.length).map (firstF (runF b s ts))
end Go.Proofs.YtoiepgcjinccpaaDoor.Bs
namespace Go.Proofs.YtoiepgcjinccpaaDoor.X
open Go Go.RowKit Go.Proofs.YtoiepgcjinccpaaDoor.Bs
set_option linter.unusedVariables false
theorem over_find {b : Bas} {lim : Int} {l : List StaI} {k : Nat} (hk : k ≤ l.length) (h0 : ∀ j, (hj : j < l.length) → j < k → overB b lim l[j].s.vol = false) (h : (hk' : k < l.length) → overB b lim l[k].s.vol = true) : l.findIdx (fun a => overB b lim a.s.vol) = k := by
  rcases Nat.lt_or_ge k l.length with h1 | h1
  · rw [List.findIdx_eq h1]
    exact ⟨h h1, fun j hj => by simpa using h0 j (by omega) hj⟩
  · have : k = l.length := by omega
    subst this
    exact List.findIdx_eq_length.2 fun a ha => by
      obtain ⟨j, hj, rfl⟩ := List.mem_iff_getElem.1 ha
      simpa using h0 j hj hj
set_option maxHeartbeats 4000000 in
theorem refstay_any {p : BV} {b : Bas} {r : SV} {l : List StaI} {lim : Int} {w : World} (hb : BasAt w w.heap.size p b) (ho : Ok b) (hr : ListAt staK w (Lt w.heap.size) r l) (hv : ∀ a, a ∈ l → (b.row 0).vol ≤ a.s.vol ∧ a.s.vol ≤ 1000000000) (hl : -20000 ≤ lim ∧ lim ≤ 20000) (hn : l.length ≤ 1000) :
    Calls Tryd.prog 59 #[basV p b, svV r, .int .i64 lim] w fun e w' => e = .returned (.int .i64 ((l.findIdx fun a => overB b lim a.s.vol : Nat) : Int)) ∧ Below w.heap.size w w' := by
  obtain ⟨A, n, c⟩ := r
  have hln := hr.len (by decide)
  simp only at hln
  subst hln
  simp only [basV, basC, svV]
  refine enter Tryd.func59 rfl Tryd.ntmps59 rfl ?_; simp only [frame, Nat.zero_add, Nat.reduceAdd]
  repeat (first | (refine M0 ?_; first | refine O0 ?_ | refine z1 tok rfl ?_ | refine O1 rfl ?_ rfl | refine O2 rfl ?_ | refine O3 rfl ?_ rfl | refine O4 rfl rfl rfl (fun _ _ => ?_) | refine O5 tok rfl rfl rfl (fun _ _ => ?_) | refine U0 _ (U2 rfl) rfl ?_ | refine U0 _ (U3 tok rfl rfl rfl rfl rfl) rfl ?_ | refine z3 tok rfl ?_ | refine U0 _ (U4 rfl rfl) rfl ?_ | refine U0 _ (U5 rfl rfl) rfl ?_) | (refine M1 ?_; first | refine J0 ?_ | refine J1 ?_ | refine J2 mixed rfl (by kernel_rfl) ?_ | refine J3 mixed rfl rfl (by kernel_rfl) ?_ | refine J4 ?_ | refine J5 ?_ | refine J6 ?_ | refine J7 ?_ | refine J8 rfl ?_ | refine J9 rfl ?_) | (refine M2 ?_; first | refine I0 ?_ | refine I1 ?_ | refine I2 ?_ | refine I3 ?_ | refine I4 ?_ | refine I5 ?_ | refine I6 rfl ?_ | refine I7 ?_ | refine I8 ?_ | refine z4 ?_) | (refine M3 ?_; first | refine O6 ?_ | refine z2 tok rfl ?_ | refine O8 rfl ?_ | refine O7 rfl ?_ rfl | refine O9 rfl ?_ rfl | refine U1 _ (U4 rfl rfl) rfl ?_ | refine U1 _ (U5 rfl rfl) rfl ?_ | refine U1 _ (U2 rfl) rfl ?_ | refine U1 _ (U3 tok rfl rfl rfl rfl rfl) rfl ?_) | (refine M4 ?_; first | refine M6 ?_ | refine U6 rfl (by kernel_rfl) ?_ | refine U7 (by kernel_rfl) ?_) | (refine M5 ?_; first | exact M7 | refine U8 rfl ?_ | refine U9 rfl rfl ?_ ?_))
  refine XC.loopk [1, 2, 3] rfl (fun k : Nat => [(7, .int .i64 (k : Nat))]) (fun _ => [_]) (fun _ => w) (fun k => k ≤ l.length ∧ ∀ j, (hj : j < l.length) → j < k → overB b lim l[j].s.vol = false) (fun k => l.length - k) 0 ⟨Nat.zero_le _, fun j _ h => absurd h (by omega)⟩ (by repeat (first | exact Sub.nil | refine Sub.cons rfl ?_)) (fun _ h => h) ?_
  rintro k ⟨hk, h0⟩
  dsimp only [List.cons_append, List.nil_append]
  repeat (first | (refine M0 ?_; first | refine O0 ?_ | refine z1 tok rfl ?_ | refine O1 rfl ?_ rfl | refine O2 rfl ?_ | refine O3 rfl ?_ rfl | refine O4 rfl rfl rfl (fun _ _ => ?_) | refine O5 tok rfl rfl rfl (fun _ _ => ?_) | refine U0 _ (U2 rfl) rfl ?_ | refine U0 _ (U3 tok rfl rfl rfl rfl rfl) rfl ?_ | refine z3 tok rfl ?_ | refine U0 _ (U4 rfl rfl) rfl ?_ | refine U0 _ (U5 rfl rfl) rfl ?_) | (refine M1 ?_; first | refine J0 ?_ | refine J1 ?_ | refine J2 mixed rfl (by kernel_rfl) ?_ | refine J3 mixed rfl rfl (by kernel_rfl) ?_ | refine J4 ?_ | refine J5 ?_ | refine J6 ?_ | refine J7 ?_ | refine J8 rfl ?_ | refine J9 rfl ?_) | (refine M2 ?_; first | refine I0 ?_ | refine I1 ?_ | refine I2 ?_ | refine I3 ?_ | refine I4 ?_ | refine I5 ?_ | refine I6 rfl ?_ | refine I7 ?_ | refine I8 ?_ | refine z4 ?_) | (refine M3 ?_; first | refine O6 ?_ | refine z2 tok rfl ?_ | refine O8 rfl ?_ | refine O7 rfl ?_ rfl | refine O9 rfl ?_ rfl | refine U1 _ (U4 rfl rfl) rfl ?_ | refine U1 _ (U5 rfl rfl) rfl ?_ | refine U1 _ (U2 rfl) rfl ?_ | refine U1 _ (U3 tok rfl rfl rfl rfl rfl) rfl ?_) | (refine M4 ?_; first | refine M6 ?_ | refine U6 rfl (by kernel_rfl) ?_ | refine U7 (by kernel_rfl) ?_) | (refine M5 ?_; first | exact M7 | refine U8 rfl ?_ | refine U9 rfl rfl ?_ ?_))
  refine XC.cond _ rfl (fun h3 => ?_) (fun h3 => ?_)
  · have hkn : k < l.length := by simpa using h3
    obtain ⟨ad, rfl, hlt⟩ := hr.addr (by decide) (by omega)
    have hcell := hr.elem (List.getElem?_eq_getElem hkn) 0 (.int .i64 l[k].s.vol) rfl
    have hvk := hv _ (List.getElem_mem hkn)
    have hmul := lim_in ho hl l[k].s.vol
    repeat (first | (refine M0 ?_; first | refine O0 ?_ | refine z1 tok rfl ?_ | refine O1 rfl ?_ rfl | refine O2 rfl ?_ | refine O3 rfl ?_ rfl | refine U0 _ (Ev.load_old tok rfl rfl (add_lt2 hlt) hcell) rfl ?_ | refine U0 _ (Ev.call (f := 68) (ck rfl) rfl (fun w S => (refExact_any (hb.sys S) ho.rowsOk hvk :))) rfl ?_ | refine O4 rfl rfl rfl (fun _ _ => ?_) | refine O5 tok rfl rfl rfl (fun _ _ => ?_) | refine U0 _ (U2 rfl) rfl ?_ | refine U0 _ (U3 tok rfl rfl rfl rfl rfl) rfl ?_ | refine z3 tok rfl ?_ | refine U0 _ (U4 rfl rfl) rfl ?_ | refine U0 _ (U5 rfl rfl) rfl ?_) | (refine M1 ?_; first | refine J0 ?_ | refine J1 ?_ | refine J2 mixed rfl (by kernel_rfl) ?_ | refine J3 mixed rfl rfl (by kernel_rfl) ?_ | refine J4 ?_ | refine J5 ?_ | refine J6 ?_ | refine J7 ?_ | refine J8 rfl ?_ | refine J9 rfl ?_) | (refine M2 ?_; first | refine I0 ?_ | refine I1 ?_ | refine I2 ?_ | refine I3 ?_ | refine I4 ?_ | refine I5 ?_ | refine I6 rfl ?_ | refine I7 ?_ | refine I8 ?_ | refine z4 ?_) | (refine M3 ?_; first | refine O6 ?_ | refine z2 tok rfl ?_ | refine O8 rfl ?_ | refine O7 rfl ?_ rfl | refine O9 rfl ?_ rfl | refine U1 _ (Ev.load_old tok rfl rfl (add_lt2 hlt) hcell) rfl ?_ | refine U1 _ (Ev.call (f := 68) (ck rfl) rfl (fun w S => (refExact_any (hb.sys S) ho.rowsOk hvk :))) rfl ?_ | refine U1 _ (U4 rfl rfl) rfl ?_ | refine U1 _ (U5 rfl rfl) rfl ?_ | refine U1 _ (U2 rfl) rfl ?_ | refine U1 _ (U3 tok rfl rfl rfl rfl rfl) rfl ?_) | (refine M4 ?_; first | refine M6 ?_ | refine U6 rfl (by kernel_rfl) ?_ | refine U7 (by kernel_rfl) ?_) | (refine M5 ?_; first | exact M7 | refine U8 rfl ?_ | refine U9 rfl rfl ?_ ?_))
    refine XC.cond _ rfl (fun h4 => ?_) (fun h4 => ?_)
    · repeat (first | (refine M0 ?_; first | refine O0 ?_ | refine z1 tok rfl ?_ | refine O1 rfl ?_ rfl | refine O2 rfl ?_ | refine O3 rfl ?_ rfl | refine O4 rfl rfl rfl (fun _ _ => ?_) | refine O5 tok rfl rfl rfl (fun _ _ => ?_) | refine U0 _ (U2 rfl) rfl ?_ | refine U0 _ (U3 tok rfl rfl rfl rfl rfl) rfl ?_ | refine z3 tok rfl ?_ | refine U0 _ (U4 rfl rfl) rfl ?_ | refine U0 _ (U5 rfl rfl) rfl ?_) | (refine M1 ?_; first | refine J0 ?_ | refine J1 ?_ | refine J2 mixed rfl (by kernel_rfl) ?_ | refine J3 mixed rfl rfl (by kernel_rfl) ?_ | refine J4 ?_ | refine J5 ?_ | refine J6 ?_ | refine J7 ?_ | refine J8 rfl ?_ | refine J9 rfl ?_) | (refine M2 ?_; first | refine I0 ?_ | refine I1 ?_ | refine I2 ?_ | refine I3 ?_ | refine I4 ?_ | refine I5 ?_ | refine I6 rfl ?_ | refine I7 ?_ | refine I8 ?_ | refine z4 ?_) | (refine M3 ?_; first | refine O6 ?_ | refine z2 tok rfl ?_ | refine O8 rfl ?_ | refine O7 rfl ?_ rfl | refine O9 rfl ?_ rfl | refine U1 _ (U4 rfl rfl) rfl ?_ | refine U1 _ (U5 rfl rfl) rfl ?_ | refine U1 _ (U2 rfl) rfl ?_ | refine U1 _ (U3 tok rfl rfl rfl rfl rfl) rfl ?_) | (refine M4 ?_; first | refine M6 ?_ | refine U6 rfl (by kernel_rfl) ?_ | refine U7 (by kernel_rfl) ?_) | (refine M5 ?_; first | exact M7 | refine U8 rfl ?_ | refine U9 rfl rfl ?_ ?_))
      refine XE.retg tok Tryd.results59 rfl (by simp only [and_self, and_true]) (fun w' S => ?_)
      rw [over_find hk h0 fun _ => h4]
      exact ⟨rfl, S.toBelow⟩
    · repeat (first | (refine M0 ?_; first | refine O0 ?_ | refine z1 tok rfl ?_ | refine O1 rfl ?_ rfl | refine O2 rfl ?_ | refine O3 rfl ?_ rfl | refine O4 rfl rfl rfl (fun _ _ => ?_) | refine O5 tok rfl rfl rfl (fun _ _ => ?_) | refine U0 _ (U2 rfl) rfl ?_ | refine U0 _ (U3 tok rfl rfl rfl rfl rfl) rfl ?_ | refine z3 tok rfl ?_ | refine U0 _ (U4 rfl rfl) rfl ?_ | refine U0 _ (U5 rfl rfl) rfl ?_) | (refine M1 ?_; first | refine J0 ?_ | refine J1 ?_ | refine J2 mixed rfl (by kernel_rfl) ?_ | refine J3 mixed rfl rfl (by kernel_rfl) ?_ | refine J4 ?_ | refine J5 ?_ | refine J6 ?_ | refine J7 ?_ | refine J8 rfl ?_ | refine J9 rfl ?_) | (refine M2 ?_; first | refine I0 ?_ | refine I1 ?_ | refine I2 ?_ | refine I3 ?_ | refine I4 ?_ | refine I5 ?_ | refine I6 rfl ?_ | refine I7 ?_ | refine I8 ?_ | refine z4 ?_) | (refine M3 ?_; first | refine O6 ?_ | refine z2 tok rfl ?_ | refine O8 rfl ?_ | refine O7 rfl ?_ rfl | refine O9 rfl ?_ rfl | refine U1 _ (U4 rfl rfl) rfl ?_ | refine U1 _ (U5 rfl rfl) rfl ?_ | refine U1 _ (U2 rfl) rfl ?_ | refine U1 _ (U3 tok rfl rfl rfl rfl rfl) rfl ?_) | (refine M4 ?_; first | refine M6 ?_ | refine U6 rfl (by kernel_rfl) ?_ | refine U7 (by kernel_rfl) ?_) | (refine M5 ?_; first | exact M7 | refine U8 rfl ?_ | refine U9 rfl rfl ?_ ?_))
      refine XE.round (k + 1) ⟨hkn, fun j hj h5 => ?_⟩ (by omega) (by repeat (first | exact Sub.nil | refine Sub.cons rfl ?_)) (fun _ h => h)
      rcases Nat.lt_or_ge j k with h6 | h6
      · exact h0 j hj h6
      · have : j = k := by omega
        subst this
        exact h4
  · have hkn : ¬ k < l.length := by simpa using h3
    repeat (first | (refine M0 ?_; first | refine O0 ?_ | refine z1 tok rfl ?_ | refine O1 rfl ?_ rfl | refine O2 rfl ?_ | refine O3 rfl ?_ rfl | refine O4 rfl rfl rfl (fun _ _ => ?_) | refine O5 tok rfl rfl rfl (fun _ _ => ?_) | refine U0 _ (U2 rfl) rfl ?_ | refine U0 _ (U3 tok rfl rfl rfl rfl rfl) rfl ?_ | refine z3 tok rfl ?_ | refine U0 _ (U4 rfl rfl) rfl ?_ | refine U0 _ (U5 rfl rfl) rfl ?_) | (refine M1 ?_; first | refine J0 ?_ | refine J1 ?_ | refine J2 mixed rfl (by kernel_rfl) ?_ | refine J3 mixed rfl rfl (by kernel_rfl) ?_ | refine J4 ?_ | refine J5 ?_ | refine J6 ?_ | refine J7 ?_ | refine J8 rfl ?_ | refine J9 rfl ?_) | (refine M2 ?_; first | refine I0 ?_ | refine I1 ?_ | refine I2 ?_ | refine I3 ?_ | refine I4 ?_ | refine I5 ?_ | refine I6 rfl ?_ | refine I7 ?_ | refine I8 ?_ | refine z4 ?_) | (refine M3 ?_; first | refine O6 ?_ | refine z2 tok rfl ?_ | refine O8 rfl ?_ | refine O7 rfl ?_ rfl | refine O9 rfl ?_ rfl | refine U1 _ (U4 rfl rfl) rfl ?_ | refine U1 _ (U5 rfl rfl) rfl ?_ | refine U1 _ (U2 rfl) rfl ?_ | refine U1 _ (U3 tok rfl rfl rfl rfl rfl) rfl ?_) | (refine M4 ?_; first | refine M6 ?_ | refine U6 rfl (by kernel_rfl) ?_ | refine U7 (by kernel_rfl) ?_) | (refine M5 ?_; first | exact M7 | refine U8 rfl ?_ | refine U9 rfl rfl ?_ ?_))
    refine XE.retg tok Tryd.results59 rfl (by simp only [and_self, and_true]) (fun w' S => ?_)
    rw [over_find (Nat.le_refl _) (fun j hj h5 => h0 j hj (by omega)) fun h => absurd h (by omega)]
    exact ⟨rfl, S.toBelow⟩
theorem runS_find {b : Bas} {s : Sta} {ts : List Tick} {lim : Int} {l : List StaI} (h : l.map (·.s) = runS b s ts) (h0 : runE b s ts = 0) : (l.findIdx fun a => overB b lim a.s.vol) = (momsAt b s ts ts.length).findIdx fun x => overB b lim x.1.vol := by
  have h1 : (l.map (·.s)).findIdx (fun a => overB b lim a.vol) = ((momsAt b s ts ts.length).map (·.1)).findIdx (fun a => overB b lim a.vol) := by rw [h, (run_0 h0).1]
  rw [List.findIdx_map, List.findIdx_map] at h1
  exact h1
theorem runS_ok {b : Bas} {s : Sta} {ts : List Tick} (ho : Ok b) (hs : StaOk b s) (h : ∀ k, k < ts.length → errAt b s ts k = 0) {l : List StaI} (hl : l.map (·.s) = runS b s ts) : ∀ a, a ∈ l → StaOk b a.s := by
  intro a ha
  have h1 : a.s ∈ runS b s ts := by rw [← hl]; exact List.mem_map.2 ⟨a, ha, rfl⟩
  unfold runS at h1
  split at h1
  · cases h1
  · obtain ⟨i, hi, e⟩ := List.mem_map.1 h1
    rw [← e]
    exact staAt_ok ho hs (i + 1) fun j hj => h j (by have := List.mem_range.1 hi; omega)
theorem runE_0 {b : Bas} {s : Sta} {ts : List Tick} (h : runE b s ts = 0) : staErr b s = 0 ∧ ts.length ≤ 300 ∧ ∀ k, k < ts.length → errAt b s ts k = 0 := by
  unfold runE at h
  split at h
  · rename_i h1; exact absurd h h1
  · rename_i h1
    split at h
    · cases h
    · rename_i h2
      split at h
      · rename_i h3; exact ⟨by simpa using h1, by omega, badAt_errs h3⟩
      · rename_i k h3; exact absurd h (badAt_err h3)
theorem runS_len {b : Bas} {s : Sta} {ts : List Tick} (h : runE b s ts = 0) : (runS b s ts).length = ts.length := by simp [runS, h]
set_option maxHeartbeats 8000000 in
theorem refStay_any {p : BV} {b : Bas} {q r : SV} {s : Sta} {ts : List Tick} {lim : Int} {w : World} (hb : BasAt w w.heap.size p b) (hq : IntsAt w (Lt w.heap.size) q s.fil) (ht : TksAt w (Lt w.heap.size) r ts) :
    Calls Tryd.prog 28 #[basV p b, staV q s, svV r, .int .i64 lim] w fun e w' => e = .returned (.tuple ⟨[.int .i64 (stayN b s ts lim), .int .i64 (stayE b s ts lim)]⟩) ∧ Below w.heap.size w w' := by
  simp only [basV, basC, staV, staC, svV]
  refine enter Tryd.func28 rfl Tryd.ntmps28 rfl ?_; simp only [frame, Nat.zero_add, Nat.reduceAdd]
  repeat (first | (refine M0 ?_; first | refine O0 ?_ | refine z1 tok rfl ?_ | refine O1 rfl ?_ rfl | refine O2 rfl ?_ | refine O3 rfl ?_ rfl | refine O4 rfl rfl rfl (fun _ _ => ?_) | refine O5 tok rfl rfl rfl (fun _ _ => ?_) | refine U0 _ (U2 rfl) rfl ?_ | refine U0 _ (U3 tok rfl rfl rfl rfl rfl) rfl ?_ | refine z3 tok rfl ?_ | refine U0 _ (U4 rfl rfl) rfl ?_ | refine U0 _ (U5 rfl rfl) rfl ?_) | (refine M1 ?_; first | refine J0 ?_ | refine J1 ?_ | refine J2 mixed rfl (by kernel_rfl) ?_ | refine J3 mixed rfl rfl (by kernel_rfl) ?_ | refine J4 ?_ | refine J5 ?_ | refine J6 ?_ | refine J7 ?_ | refine J8 rfl ?_ | refine J9 rfl ?_) | (refine M2 ?_; first | refine I0 ?_ | refine I1 ?_ | refine I2 ?_ | refine I3 ?_ | refine I4 ?_ | refine I5 ?_ | refine I6 rfl ?_ | refine I7 ?_ | refine I8 ?_ | refine z4 ?_) | (refine M3 ?_; first | refine O6 ?_ | refine z2 tok rfl ?_ | refine O8 rfl ?_ | refine O7 rfl ?_ rfl | refine O9 rfl ?_ rfl | refine U1 _ (U4 rfl rfl) rfl ?_ | refine U1 _ (U5 rfl rfl) rfl ?_ | refine U1 _ (U2 rfl) rfl ?_ | refine U1 _ (U3 tok rfl rfl rfl rfl rfl) rfl ?_) | (refine M4 ?_; first | refine M6 ?_ | refine U6 rfl (by kernel_rfl) ?_ | refine U7 (by kernel_rfl) ?_) | (refine M5 ?_; first | exact M7 | refine U8 rfl ?_ | refine U9 rfl rfl ?_ ?_))
  refine XL.callF (RunV b s ts) (ck rfl) rfl rfl (Fam.start (ks := []) (Nat.le_refl w.heap.size)) (fun _ h => by cases h) (Below.refl w.heap.size w) (fun w1 S1 _ _ => refRun_any (p := p) (q := q) (r := r) (hb.sys S1) (hq.arg S1) (ht.arg S1)) (fun w2 v new hR hF2 hB2 hk2 => ?_)
  obtain ⟨r1, r2, l1, l2, rfl, rfl, e1, e2⟩ := hR
  simp only [svV]
  repeat (first | (refine M0 ?_; first | refine O0 ?_ | refine z1 tok rfl ?_ | refine O1 rfl ?_ rfl | refine O2 rfl ?_ | refine O3 rfl ?_ rfl | refine O4 rfl rfl rfl (fun _ _ => ?_) | refine O5 tok rfl rfl rfl (fun _ _ => ?_) | refine U0 _ (U2 rfl) rfl ?_ | refine U0 _ (U3 tok rfl rfl rfl rfl rfl) rfl ?_ | refine z3 tok rfl ?_ | refine U0 _ (U4 rfl rfl) rfl ?_ | refine U0 _ (U5 rfl rfl) rfl ?_) | (refine M1 ?_; first | refine J0 ?_ | refine J1 ?_ | refine J2 mixed rfl (by kernel_rfl) ?_ | refine J3 mixed rfl rfl (by kernel_rfl) ?_ | refine J4 ?_ | refine J5 ?_ | refine J6 ?_ | refine J7 ?_ | refine J8 rfl ?_ | refine J9 rfl ?_) | (refine M2 ?_; first | refine I0 ?_ | refine I1 ?_ | refine I2 ?_ | refine I3 ?_ | refine I4 ?_ | refine I5 ?_ | refine I6 rfl ?_ | refine I7 ?_ | refine I8 ?_ | refine z4 ?_) | (refine M3 ?_; first | refine O6 ?_ | refine z2 tok rfl ?_ | refine O8 rfl ?_ | refine O7 rfl ?_ rfl | refine O9 rfl ?_ rfl | refine U1 _ (U4 rfl rfl) rfl ?_ | refine U1 _ (U5 rfl rfl) rfl ?_ | refine U1 _ (U2 rfl) rfl ?_ | refine U1 _ (U3 tok rfl rfl rfl rfl rfl) rfl ?_) | (refine M4 ?_; first | refine M6 ?_ | refine U6 rfl (by kernel_rfl) ?_ | refine U7 (by kernel_rfl) ?_) | (refine M5 ?_; first | exact M7 | refine U8 rfl ?_ | refine U9 rfl rfl ?_ ?_))
  refine XL.split _ _ rfl (fun h0 => ?_) (fun h0 => ?_) <;> rw [h0]
  rotate_left
  · have hE : runE b s ts ≠ 0 := by simpa using h0
    obtain ⟨e3, e4⟩ := stay_run (lim := lim) hE
    repeat (first | (refine M0 ?_; first | refine O0 ?_ | refine z1 tok rfl ?_ | refine O1 rfl ?_ rfl | refine O2 rfl ?_ | refine O3 rfl ?_ rfl | refine O4 rfl rfl rfl (fun _ _ => ?_) | refine O5 tok rfl rfl rfl (fun _ _ => ?_) | refine U0 _ (U2 rfl) rfl ?_ | refine U0 _ (U3 tok rfl rfl rfl rfl rfl) rfl ?_ | refine z3 tok rfl ?_ | refine U0 _ (U4 rfl rfl) rfl ?_ | refine U0 _ (U5 rfl rfl) rfl ?_) | (refine M1 ?_; first | refine J0 ?_ | refine J1 ?_ | refine J2 mixed rfl (by kernel_rfl) ?_ | refine J3 mixed rfl rfl (by kernel_rfl) ?_ | refine J4 ?_ | refine J5 ?_ | refine J6 ?_ | refine J7 ?_ | refine J8 rfl ?_ | refine J9 rfl ?_) | (refine M2 ?_; first | refine I0 ?_ | refine I1 ?_ | refine I2 ?_ | refine I3 ?_ | refine I4 ?_ | refine I5 ?_ | refine I6 rfl ?_ | refine I7 ?_ | refine I8 ?_ | refine z4 ?_) | (refine M3 ?_; first | refine O6 ?_ | refine z2 tok rfl ?_ | refine O8 rfl ?_ | refine O7 rfl ?_ rfl | refine O9 rfl ?_ rfl | refine U1 _ (U4 rfl rfl) rfl ?_ | refine U1 _ (U5 rfl rfl) rfl ?_ | refine U1 _ (U2 rfl) rfl ?_ | refine U1 _ (U3 tok rfl rfl rfl rfl rfl) rfl ?_) | (refine M4 ?_; first | refine M6 ?_ | refine U6 rfl (by kernel_rfl) ?_ | refine U7 (by kernel_rfl) ?_) | (refine M5 ?_; first | exact M7 | refine U8 rfl ?_ | refine U9 rfl rfl ?_ ?_))
    refine XC.cond _ rfl (fun h1 => ?_) (fun h1 => absurd hE (by simpa using h1))
    repeat (first | (refine M0 ?_; first | refine O0 ?_ | refine z1 tok rfl ?_ | refine O1 rfl ?_ rfl | refine O2 rfl ?_ | refine O3 rfl ?_ rfl | refine O4 rfl rfl rfl (fun _ _ => ?_) | refine O5 tok rfl rfl rfl (fun _ _ => ?_) | refine U0 _ (U2 rfl) rfl ?_ | refine U0 _ (U3 tok rfl rfl rfl rfl rfl) rfl ?_ | refine z3 tok rfl ?_ | refine U0 _ (U4 rfl rfl) rfl ?_ | refine U0 _ (U5 rfl rfl) rfl ?_) | (refine M1 ?_; first | refine J0 ?_ | refine J1 ?_ | refine J2 mixed rfl (by kernel_rfl) ?_ | refine J3 mixed rfl rfl (by kernel_rfl) ?_ | refine J4 ?_ | refine J5 ?_ | refine J6 ?_ | refine J7 ?_ | refine J8 rfl ?_ | refine J9 rfl ?_) | (refine M2 ?_; first | refine I0 ?_ | refine I1 ?_ | refine I2 ?_ | refine I3 ?_ | refine I4 ?_ | refine I5 ?_ | refine I6 rfl ?_ | refine I7 ?_ | refine I8 ?_ | refine z4 ?_) | (refine M3 ?_; first | refine O6 ?_ | refine z2 tok rfl ?_ | refine O8 rfl ?_ | refine O7 rfl ?_ rfl | refine O9 rfl ?_ rfl | refine U1 _ (U4 rfl rfl) rfl ?_ | refine U1 _ (U5 rfl rfl) rfl ?_ | refine U1 _ (U2 rfl) rfl ?_ | refine U1 _ (U3 tok rfl rfl rfl rfl rfl) rfl ?_) | (refine M4 ?_; first | refine M6 ?_ | refine U6 rfl (by kernel_rfl) ?_ | refine U7 (by kernel_rfl) ?_) | (refine M5 ?_; first | exact M7 | refine U8 rfl ?_ | refine U9 rfl rfl ?_ ?_))
    refine XE.retg tok Tryd.results28 rfl (by simp only [and_self, and_true]) (fun w' S => ?_)
    rw [e3, e4]
    exact ⟨rfl, hB2.trans S.toBelow⟩
  have hE : runE b s ts = 0 := by simpa using h0
  obtain ⟨hs0, h300, herr⟩ := runE_0 hE
  obtain ⟨ho, hs⟩ := staOk_of hs0
  have hb2 := hb.below hB2
  repeat (first | (refine M0 ?_; first | refine O0 ?_ | refine z1 tok rfl ?_ | refine O1 rfl ?_ rfl | refine O2 rfl ?_ | refine O3 rfl ?_ rfl | refine U0 _ (Ev.call (f := 58) (ck rfl) rfl (fun w S => (limited_any (p := p) (hb2.sys S) ho.rowsOk lim :))) rfl ?_ | refine O4 rfl rfl rfl (fun _ _ => ?_) | refine O5 tok rfl rfl rfl (fun _ _ => ?_) | refine U0 _ (U2 rfl) rfl ?_ | refine U0 _ (U3 tok rfl rfl rfl rfl rfl) rfl ?_ | refine z3 tok rfl ?_ | refine U0 _ (U4 rfl rfl) rfl ?_ | refine U0 _ (U5 rfl rfl) rfl ?_) | (refine M1 ?_; first | refine J0 ?_ | refine J1 ?_ | refine J2 mixed rfl (by kernel_rfl) ?_ | refine J3 mixed rfl rfl (by kernel_rfl) ?_ | refine J4 ?_ | refine J5 ?_ | refine J6 ?_ | refine J7 ?_ | refine J8 rfl ?_ | refine J9 rfl ?_) | (refine M2 ?_; first | refine I0 ?_ | refine I1 ?_ | refine I2 ?_ | refine I3 ?_ | refine I4 ?_ | refine I5 ?_ | refine I6 rfl ?_ | refine I7 ?_ | refine I8 ?_ | refine z4 ?_) | (refine M3 ?_; first | refine O6 ?_ | refine z2 tok rfl ?_ | refine O8 rfl ?_ | refine O7 rfl ?_ rfl | refine O9 rfl ?_ rfl | refine U1 _ (Ev.call (f := 58) (ck rfl) rfl (fun w S => (limited_any (p := p) (hb2.sys S) ho.rowsOk lim :))) rfl ?_ | refine U1 _ (U4 rfl rfl) rfl ?_ | refine U1 _ (U5 rfl rfl) rfl ?_ | refine U1 _ (U2 rfl) rfl ?_ | refine U1 _ (U3 tok rfl rfl rfl rfl rfl) rfl ?_) | (refine M4 ?_; first | refine M6 ?_ | refine U6 rfl (by kernel_rfl) ?_ | refine U7 (by kernel_rfl) ?_) | (refine M5 ?_; first | exact M7 | refine U8 rfl ?_ | refine U9 rfl rfl ?_ ?_))
  refine XC.cond _ rfl (fun h1 => ?_) (fun h1 => ?_)
  · have h5 : outB lim (b.row 0).level 20000 = true := by simpa using h1
    obtain ⟨e3, e4⟩ := stay_out hE h5
    repeat (first | (refine M0 ?_; first | refine O0 ?_ | refine z1 tok rfl ?_ | refine O1 rfl ?_ rfl | refine O2 rfl ?_ | refine O3 rfl ?_ rfl | refine O4 rfl rfl rfl (fun _ _ => ?_) | refine O5 tok rfl rfl rfl (fun _ _ => ?_) | refine U0 _ (U2 rfl) rfl ?_ | refine U0 _ (U3 tok rfl rfl rfl rfl rfl) rfl ?_ | refine z3 tok rfl ?_ | refine U0 _ (U4 rfl rfl) rfl ?_ | refine U0 _ (U5 rfl rfl) rfl ?_) | (refine M1 ?_; first | refine J0 ?_ | refine J1 ?_ | refine J2 mixed rfl (by kernel_rfl) ?_ | refine J3 mixed rfl rfl (by kernel_rfl) ?_ | refine J4 ?_ | refine J5 ?_ | refine J6 ?_ | refine J7 ?_ | refine J8 rfl ?_ | refine J9 rfl ?_) | (refine M2 ?_; first | refine I0 ?_ | refine I1 ?_ | refine I2 ?_ | refine I3 ?_ | refine I4 ?_ | refine I5 ?_ | refine I6 rfl ?_ | refine I7 ?_ | refine I8 ?_ | refine z4 ?_) | (refine M3 ?_; first | refine O6 ?_ | refine z2 tok rfl ?_ | refine O8 rfl ?_ | refine O7 rfl ?_ rfl | refine O9 rfl ?_ rfl | refine U1 _ (U4 rfl rfl) rfl ?_ | refine U1 _ (U5 rfl rfl) rfl ?_ | refine U1 _ (U2 rfl) rfl ?_ | refine U1 _ (U3 tok rfl rfl rfl rfl rfl) rfl ?_) | (refine M4 ?_; first | refine M6 ?_ | refine U6 rfl (by kernel_rfl) ?_ | refine U7 (by kernel_rfl) ?_) | (refine M5 ?_; first | exact M7 | refine U8 rfl ?_ | refine U9 rfl rfl ?_ ?_))
    refine XE.retg tok Tryd.results28 rfl (by simp only [and_self, and_true]) (fun w' S => ?_)
    rw [e3, e4]
    exact ⟨rfl, hB2.trans S.toBelow⟩
  · have h5 : outB lim (b.row 0).level 20000 = false := by simpa using h1
    obtain ⟨e3, e4⟩ := stay_in hE h5
    have h6 := outB_f.1 h5
    have h7 := ho.rowsOk.level 0 (by have := ho.rowsOk.n2; omega)
    have hl : -20000 ≤ lim ∧ lim ≤ 20000 := by omega
    have hln : l1.length ≤ 1000 := by
      have := congrArg List.length e1
      rw [runS_len hE] at this
      simp at this
      omega
    repeat (first | (refine M0 ?_; first | refine O0 ?_ | refine z1 tok rfl ?_ | refine O1 rfl ?_ rfl | refine O2 rfl ?_ | refine O3 rfl ?_ rfl | refine O4 rfl rfl rfl (fun _ _ => ?_) | refine O5 tok rfl rfl rfl (fun _ _ => ?_) | refine U0 _ (U2 rfl) rfl ?_ | refine U0 _ (U3 tok rfl rfl rfl rfl rfl) rfl ?_ | refine z3 tok rfl ?_ | refine U0 _ (U4 rfl rfl) rfl ?_ | refine U0 _ (U5 rfl rfl) rfl ?_) | (refine M1 ?_; first | refine J0 ?_ | refine J1 ?_ | refine J2 mixed rfl (by kernel_rfl) ?_ | refine J3 mixed rfl rfl (by kernel_rfl) ?_ | refine J4 ?_ | refine J5 ?_ | refine J6 ?_ | refine J7 ?_ | refine J8 rfl ?_ | refine J9 rfl ?_) | (refine M2 ?_; first | refine I0 ?_ | refine I1 ?_ | refine I2 ?_ | refine I3 ?_ | refine I4 ?_ | refine I5 ?_ | refine I6 rfl ?_ | refine I7 ?_ | refine I8 ?_ | refine z4 ?_) | (refine M3 ?_; first | refine O6 ?_ | refine z2 tok rfl ?_ | refine O8 rfl ?_ | refine O7 rfl ?_ rfl | refine O9 rfl ?_ rfl | refine U1 _ (U4 rfl rfl) rfl ?_ | refine U1 _ (U5 rfl rfl) rfl ?_ | refine U1 _ (U2 rfl) rfl ?_ | refine U1 _ (U3 tok rfl rfl rfl rfl rfl) rfl ?_) | (refine M4 ?_; first | refine M6 ?_ | refine U6 rfl (by kernel_rfl) ?_ | refine U7 (by kernel_rfl) ?_) | (refine M5 ?_; first | exact M7 | refine U8 rfl ?_ | refine U9 rfl rfl ?_ ?_))
    refine XC.cond _ rfl (fun h2 => absurd hE (by simpa using h2)) (fun h2 => ?_)
    repeat (first | (refine M0 ?_; first | refine O0 ?_ | refine z1 tok rfl ?_ | refine O1 rfl ?_ rfl | refine O2 rfl ?_ | refine O3 rfl ?_ rfl | refine U0 _ (Ev.call (f := 59) (ck rfl) rfl (fun w S => (refstay_any (p := p) (r := r1) (l := l1) (lim := lim) (hb2.sys S) ho (Held.lt (x := hList staK r1 l1) ((hF2.sys S (by intro e he; repeat (first | (cases he; done) | (rcases List.mem_cons.1 he with rfl | he; · first | (right; assumption) | (left; simp <;> fail))))).get (.head _))) (fun a ha => (runS_ok ho hs herr e1 a ha).vol) hl hln :))) rfl ?_ | refine O4 rfl rfl rfl (fun _ _ => ?_) | refine O5 tok rfl rfl rfl (fun _ _ => ?_) | refine U0 _ (U2 rfl) rfl ?_ | refine U0 _ (U3 tok rfl rfl rfl rfl rfl) rfl ?_ | refine z3 tok rfl ?_ | refine U0 _ (U4 rfl rfl) rfl ?_ | refine U0 _ (U5 rfl rfl) rfl ?_) | (refine M1 ?_; first | refine J0 ?_ | refine J1 ?_ | refine J2 mixed rfl (by kernel_rfl) ?_ | refine J3 mixed rfl rfl (by kernel_rfl) ?_ | refine J4 ?_ | refine J5 ?_ | refine J6 ?_ | refine J7 ?_ | refine J8 rfl ?_ | refine J9 rfl ?_) | (refine M2 ?_; first | refine I0 ?_ | refine I1 ?_ | refine I2 ?_ | refine I3 ?_ | refine I4 ?_ | refine I5 ?_ | refine I6 rfl ?_ | refine I7 ?_ | refine I8 ?_ | refine z4 ?_) | (refine M3 ?_; first | refine O6 ?_ | refine z2 tok rfl ?_ | refine O8 rfl ?_ | refine O7 rfl ?_ rfl | refine O9 rfl ?_ rfl | refine U1 _ (Ev.call (f := 59) (ck rfl) rfl (fun w S => (refstay_any (p := p) (r := r1) (l := l1) (lim := lim) (hb2.sys S) ho (Held.lt (x := hList staK r1 l1) ((hF2.sys S (by intro e he; repeat (first | (cases he; done) | (rcases List.mem_cons.1 he with rfl | he; · first | (right; assumption) | (left; simp <;> fail))))).get (.head _))) (fun a ha => (runS_ok ho hs herr e1 a ha).vol) hl hln :))) rfl ?_ | refine U1 _ (U4 rfl rfl) rfl ?_ | refine U1 _ (U5 rfl rfl) rfl ?_ | refine U1 _ (U2 rfl) rfl ?_ | refine U1 _ (U3 tok rfl rfl rfl rfl rfl) rfl ?_) | (refine M4 ?_; first | refine M6 ?_ | refine U6 rfl (by kernel_rfl) ?_ | refine U7 (by kernel_rfl) ?_) | (refine M5 ?_; first | exact M7 | refine U8 rfl ?_ | refine U9 rfl rfl ?_ ?_))
    refine XE.retg tok Tryd.results28 rfl (by simp only [and_self, and_true]) (fun w' S => ?_)
    rw [e3, e4, runS_find e1 hE]
    exact ⟨rfl, hB2.trans S.toBelow⟩
end Go.Proofs.YtoiepgcjinccpaaDoor.X
/-
  The walks of both Floods.
-/
namespace Go.Proofs.YtoiepgcjinccpaaDoor.Bs
theorem flo_len {b : Bas} {s : Sta} {ts : List Tick} {f : Flo} (h : f ∈ runF b s ts) : f.taken.length = b.pols.length := by
  unfold runF at h
  split at h
  · cases h
  · rename_i h0
    have h1 := X.runE_0 (by simpa using h0 : runE b s ts = 0)
    obtain ⟨i, hi, rfl⟩ := List.mem_map.1 h
    have h2 : stepE b (staAt b s ts i) (tk ts i) = 0 := h1.2.2 i (List.mem_range.1 hi)
    show (outF b (staAt b s ts i) (tk ts i)).taken.length = _
    rw [outF_0 h2]
    simp [stepF, rg_len]
/-- the first tick from m on in which polder i takes water. -/
def firstG (fs : List Flo) (i m : Nat) : Int := match (fs.drop m).findIdx? fun f => decide (0 < f.t i) with
  | some k => (((m + k : Nat)) : Int)
  | none => -1
theorem firstG_0 (fs : List Flo) (i : Nat) : firstG fs i 0 = firstF fs i := by
  unfold firstG firstF
  rw [List.drop_zero]
  cases fs.findIdx? fun f => decide (0 < f.t i) with
  | none => rfl
  | some k => simp
theorem firstG_len (fs : List Flo) (i : Nat) : firstG fs i fs.length = -1 := by
  unfold firstG
  simp
theorem firstG_y {fs : List Flo} {i m : Nat} (hm : m < fs.length) (h : 0 < fs[m].t i) : firstG fs i m = (m : Nat) := by
  unfold firstG
  rw [List.drop_eq_getElem_cons hm, List.findIdx?_cons]
  simp [h]
theorem firstG_n {fs : List Flo} {i m : Nat} (hm : m < fs.length) (h : ¬ 0 < fs[m].t i) : firstG fs i m = firstG fs i (m + 1) := by
  unfold firstG
  rw [List.drop_eq_getElem_cons hm, List.findIdx?_cons]
  simp only [h, decide_false, Bool.false_eq_true, if_false]
  cases (fs.drop (m + 1)).findIdx? fun f => decide (0 < f.t i) with
  | none => rfl
  | some k => simp only [Option.map_some]; congr 1; omega
end Go.Proofs.YtoiepgcjinccpaaDoor.Bs
namespace Go.Proofs.YtoiepgcjinccpaaDoor.X
open Go Go.RowKit Go.Proofs.YtoiepgcjinccpaaDoor.Bs
set_option linter.unusedVariables false
def intK : Kind Int := ⟨3, 1, fun k => [.int .i64 k], fun _ => [], fun _ => rfl⟩
theorem intK_el : elemOk Tryd.prog 26 intK.ty intK.m 8 = true := by kernel_rfl
theorem ints_flat' (l : List Int) : l.flatMap intK.c = ints l := by
  unfold ints
  induction l with
  | nil => rfl
  | cons a l ih => rw [List.flatMap_cons, ih]; rfl
theorem ListAt.ints {w : World} {ok : Nat → Prop} {r : SV} {l : List Int} (h : ListAt intK w ok r l) : IntsAt w ok r l := ⟨by have := h.rd; rw [ints_flat'] at this; exact this, h.max⟩
/-- what run leaves. -/
def MomV (b : Bas) (s : Sta) (ts : List Tick) (v : Value) (new : List Held) : Prop :=
  ∃ (rm : SV) (ms : List Mom), v = .tuple ⟨[svV rm, .int .i64 (runE b s ts)]⟩ ∧ new = [hList momK rm ms] ∧ ms.length ≤ 300 ∧ ms.map (·.s) = runS b s ts ∧ ms.map (·.f) = runF b s ts
theorem run_made {p : BV} {b : Bas} {q r : SV} {s : Sta} {ts : List Tick} {w : World} (hL : Laid w) (hb : BasAt w w.heap.size p b) (hq : IntsAt w (Lt w.heap.size) q s.fil) (ht : TksAt w (Lt w.heap.size) r ts) :
    Calls Tryd.prog 55 #[basV p b, staV q s, svV r] w (Made w (MomV b s ts)) := by
  refine (run_any hL hb hq ht).mono fun e w' ⟨v, h1, h2, h3⟩ => ?_
  rcases h2 with ⟨h4, rfl⟩ | ⟨h4, hE, h5, h6, rm, ms, rfl, hrow, hms⟩
  · obtain ⟨e1, e2⟩ := run_n h4
    refine ⟨_, _, h1, ⟨⟨none, 0, 0⟩, [], rfl, rfl, by simp, e1.symm, e2.symm⟩, fun x hx => ?_, h3⟩
    rw [List.mem_singleton] at hx
    subst hx
    exact ListAt.nil
  · obtain ⟨e1, e2⟩ := run_0 h4
    have hl := congrArg List.length hms
    simp [momsAt] at hl
    refine ⟨_, _, h1, ⟨rm, ms, by rw [h4], rfl, by omega, ?_, ?_⟩, fun x hx => ?_, h3⟩
    · rw [e1, ← hms, List.map_map]; rfl
    · rw [e2, ← hms, List.map_map]; rfl
    · rw [List.mem_singleton] at hx
      subst hx
      exact hrow.list
/-- what Floods leaves. -/
def FloodV (b : Bas) (s : Sta) (ts : List Tick) (v : Value) (new : List Held) : Prop := ∃ r : SV, v = .tuple ⟨[svV r, .int .i64 (runE b s ts)]⟩ ∧ new = [hInts r (floods b s ts)]
theorem FloodV.made {b : Bas} {s : Sta} {ts : List Tick} {w w' : World} {r : SV} {e : Ending} (he : e = .returned (.tuple ⟨[svV r, .int .i64 (runE b s ts)]⟩)) (h : IntsAt w' (Btw w.heap.size w'.heap.size) r (floods b s ts)) (hB : Below w.heap.size w w') : Made w (FloodV b s ts) e w' :=
  ⟨_, _, he, ⟨r, rfl, rfl⟩, fun x hx => by rw [List.mem_singleton] at hx; subst hx; exact h, hB⟩
theorem floods_n {b : Bas} {s : Sta} {ts : List Tick} (h : runE b s ts ≠ 0) : floods b s ts = [] := by simp [floods, h]
theorem floods_0 {b : Bas} {s : Sta} {ts : List Tick} (h : runE b s ts = 0) : floods b s ts = (List.range b.pols.length).map (firstF (runF b s ts)) := by simp [floods, h]
set_option maxHeartbeats 4000000 in
theorem floods1_any {m : Mom} {gi i : Nat} {w : World} (h1 : w.heap[gi]? = some (cel 3 [.int .i64 (i : Nat)])) (hr : IntsAt w (Lt w.heap.size) m.r m.f.taken) (hi : i < m.f.taken.length) :
    Calls Tryd.prog 61 #[.agg ⟨m.c⟩, .pointer (some ⟨gi, 0, none⟩)] w fun e w' => e = .returned (.bool (decide (0 < m.f.t i))) ∧ Below w.heap.size w w' := by
  obtain ⟨s, f, q, ⟨A, n, c⟩⟩ := m
  simp only at hr hi ⊢
  have hn := hr.len
  have hmax := hr.max
  simp only at hn hmax
  subst hn
  obtain ⟨ad, rfl, hlt, hcells⟩ := hr.at_ (by omega)
  have hcell := hcells i hi
  have hl1 := (Array.getElem?_eq_some_iff.1 h1).1
  have hc1 : w.cell? ⟨gi, 0, none⟩ = some (.int .i64 (i : Nat)) := by simp [World.cell?, h1]
  simp only [Mom.c, momC, staC, floC, List.cons_append, List.nil_append]
  refine enter Tryd.func61 rfl Tryd.ntmps61 rfl ?_; simp only [frame, Nat.zero_add, Nat.reduceAdd]
  repeat (first | (refine M0 ?_; first | refine O0 ?_ | refine z1 tok rfl ?_ | refine O1 rfl ?_ rfl | refine O2 rfl ?_ | refine O3 rfl ?_ rfl | refine U0 _ (Ev.load_old tok rfl rfl hl1 hc1) rfl ?_ | refine U0 _ (Ev.load_old tok rfl rfl (add_lt hlt) hcell) rfl ?_ | refine O4 rfl rfl rfl (fun _ _ => ?_) | refine O5 tok rfl rfl rfl (fun _ _ => ?_) | refine U0 _ (U2 rfl) rfl ?_ | refine U0 _ (U3 tok rfl rfl rfl rfl rfl) rfl ?_ | refine z3 tok rfl ?_ | refine U0 _ (U4 rfl rfl) rfl ?_ | refine U0 _ (U5 rfl rfl) rfl ?_) | (refine M1 ?_; first | refine J0 ?_ | refine J1 ?_ | refine J2 mixed rfl (by kernel_rfl) ?_ | refine J3 mixed rfl rfl (by kernel_rfl) ?_ | refine J4 ?_ | refine J5 ?_ | refine J6 ?_ | refine J7 ?_ | refine J8 rfl ?_ | refine J9 rfl ?_) | (refine M2 ?_; first | refine I0 ?_ | refine I1 ?_ | refine I2 ?_ | refine I3 ?_ | refine I4 ?_ | refine I5 ?_ | refine I6 rfl ?_ | refine I7 ?_ | refine I8 ?_ | refine z4 ?_) | (refine M3 ?_; first | refine O6 ?_ | refine z2 tok rfl ?_ | refine O8 rfl ?_ | refine O7 rfl ?_ rfl | refine O9 rfl ?_ rfl | refine U1 _ (Ev.load_old tok rfl rfl hl1 hc1) rfl ?_ | refine U1 _ (Ev.load_old tok rfl rfl (add_lt hlt) hcell) rfl ?_ | refine U1 _ (U4 rfl rfl) rfl ?_ | refine U1 _ (U5 rfl rfl) rfl ?_ | refine U1 _ (U2 rfl) rfl ?_ | refine U1 _ (U3 tok rfl rfl rfl rfl rfl) rfl ?_) | (refine M4 ?_; first | refine M6 ?_ | refine U6 rfl (by kernel_rfl) ?_ | refine U7 (by kernel_rfl) ?_) | (refine M5 ?_; first | exact M7 | refine U8 rfl ?_ | refine U9 rfl rfl ?_ ?_))
  refine XE.retg tok Tryd.results61 rfl (by simp only [and_self, and_true]) (fun w' S => ?_)
  exact ⟨rfl, S.toBelow⟩
def idxV (ms : List Mom) (P : Mom → Bool) : Int := match ms.findIdx? P with
  | some i => ((i : Nat) : Int)
  | none => -1
theorem idxV_first {b : Bas} {s : Sta} {ts : List Tick} {ms : List Mom} (h : ms.map (·.f) = runF b s ts) (k : Nat) : idxV ms (fun m => decide (0 < m.f.t k)) = firstF (runF b s ts) k := by
  rw [← h]
  unfold idxV firstF
  rw [List.findIdx?_map]
  rfl
set_option maxHeartbeats 4000000 in
theorem index_gen {f : FuncId} {cap : List Value} {P : Mom → Bool} {r : SV} {ms : List Mom} {w : World} (hck : callOk Tryd.prog f = true) (hr : ListAt momK w (Lt w.heap.size) r ms) (hn : ms.length ≤ 1000)
    (hc : ∀ m, m ∈ ms → ∀ w', Below w.heap.size w w' → Calls Tryd.prog f ([] ++ [Value.agg ⟨m.c⟩] ++ cap).toArray w' fun e w'' => e = .returned (.bool (P m)) ∧ Below w'.heap.size w' w'') :
    Calls Tryd.prog 60 #[svV r, .func (.func f) #[] cap.toArray] w fun e w' => e = .returned (.int .i64 (idxV ms P)) ∧ Below w.heap.size w w' := by
  obtain ⟨A, n, c⟩ := r
  have hln := hr.len (by decide)
  simp only at hln
  subst hln
  simp only [svV]
  refine enter Tryd.func60 rfl Tryd.ntmps60 rfl ?_; simp only [frame, Nat.zero_add, Nat.reduceAdd]
  repeat (first | (refine M0 ?_; first | refine O0 ?_ | refine z1 tok rfl ?_ | refine O1 rfl ?_ rfl | refine O2 rfl ?_ | refine O3 rfl ?_ rfl | refine O4 rfl rfl rfl (fun _ _ => ?_) | refine O5 tok rfl rfl rfl (fun _ _ => ?_) | refine U0 _ (U2 rfl) rfl ?_ | refine U0 _ (U3 tok rfl rfl rfl rfl rfl) rfl ?_ | refine z3 tok rfl ?_ | refine U0 _ (U4 rfl rfl) rfl ?_ | refine U0 _ (U5 rfl rfl) rfl ?_) | (refine M1 ?_; first | refine J0 ?_ | refine J1 ?_ | refine J2 mixed rfl (by kernel_rfl) ?_ | refine J3 mixed rfl rfl (by kernel_rfl) ?_ | refine J4 ?_ | refine J5 ?_ | refine J6 ?_ | refine J7 ?_ | refine J8 rfl ?_ | refine J9 rfl ?_) | (refine M2 ?_; first | refine I0 ?_ | refine I1 ?_ | refine I2 ?_ | refine I3 ?_ | refine I4 ?_ | refine I5 ?_ | refine I6 rfl ?_ | refine I7 ?_ | refine I8 ?_ | refine z4 ?_) | (refine M3 ?_; first | refine O6 ?_ | refine z2 tok rfl ?_ | refine O8 rfl ?_ | refine O7 rfl ?_ rfl | refine O9 rfl ?_ rfl | refine U1 _ (U4 rfl rfl) rfl ?_ | refine U1 _ (U5 rfl rfl) rfl ?_ | refine U1 _ (U2 rfl) rfl ?_ | refine U1 _ (U3 tok rfl rfl rfl rfl rfl) rfl ?_) | (refine M4 ?_; first | refine M6 ?_ | refine U6 rfl (by kernel_rfl) ?_ | refine U7 (by kernel_rfl) ?_) | (refine M5 ?_; first | exact M7 | refine U8 rfl ?_ | refine U9 rfl rfl ?_ ?_))
  refine XC.loopk [0, 1, 7] rfl (fun k : Nat => [(8, .int .i64 (k : Nat))]) (fun _ => []) (fun _ => w) (fun k => k ≤ ms.length ∧ ∀ j m, j < k → ms[j]? = some m → P m = false) (fun k => ms.length - k) 0 ⟨Nat.zero_le _, fun j m h => absurd h (by omega)⟩ (by repeat (first | exact Sub.nil | refine Sub.cons rfl ?_)) (fun _ h => h) ?_
  rintro k ⟨hk, h0⟩
  dsimp only [List.cons_append, List.nil_append]
  repeat (first | (refine M0 ?_; first | refine O0 ?_ | refine z1 tok rfl ?_ | refine O1 rfl ?_ rfl | refine O2 rfl ?_ | refine O3 rfl ?_ rfl | refine O4 rfl rfl rfl (fun _ _ => ?_) | refine O5 tok rfl rfl rfl (fun _ _ => ?_) | refine U0 _ (U2 rfl) rfl ?_ | refine U0 _ (U3 tok rfl rfl rfl rfl rfl) rfl ?_ | refine z3 tok rfl ?_ | refine U0 _ (U4 rfl rfl) rfl ?_ | refine U0 _ (U5 rfl rfl) rfl ?_) | (refine M1 ?_; first | refine J0 ?_ | refine J1 ?_ | refine J2 mixed rfl (by kernel_rfl) ?_ | refine J3 mixed rfl rfl (by kernel_rfl) ?_ | refine J4 ?_ | refine J5 ?_ | refine J6 ?_ | refine J7 ?_ | refine J8 rfl ?_ | refine J9 rfl ?_) | (refine M2 ?_; first | refine I0 ?_ | refine I1 ?_ | refine I2 ?_ | refine I3 ?_ | refine I4 ?_ | refine I5 ?_ | refine I6 rfl ?_ | refine I7 ?_ | refine I8 ?_ | refine z4 ?_) | (refine M3 ?_; first | refine O6 ?_ | refine z2 tok rfl ?_ | refine O8 rfl ?_ | refine O7 rfl ?_ rfl | refine O9 rfl ?_ rfl | refine U1 _ (U4 rfl rfl) rfl ?_ | refine U1 _ (U5 rfl rfl) rfl ?_ | refine U1 _ (U2 rfl) rfl ?_ | refine U1 _ (U3 tok rfl rfl rfl rfl rfl) rfl ?_) | (refine M4 ?_; first | refine M6 ?_ | refine U6 rfl (by kernel_rfl) ?_ | refine U7 (by kernel_rfl) ?_) | (refine M5 ?_; first | exact M7 | refine U8 rfl ?_ | refine U9 rfl rfl ?_ ?_))
  refine XC.cond _ rfl (fun h3 => ?_) (fun h3 => ?_)
  · have hkn : k < ms.length := by simpa using h3
    obtain ⟨ad, rfl, hlt⟩ := hr.addr (by decide) (by omega)
    have hmk : ms[k]? = some ms[k] := List.getElem?_eq_getElem hkn
    have hcell : ∀ j u, ms[k].c[j]? = some u → w.cell? ((ad.add (k * 7)).add j) = some u := hr.elem hmk
    repeat (first | (refine M0 ?_; first | refine O0 ?_ | refine z1 tok rfl ?_ | refine O1 rfl ?_ rfl | refine O2 rfl ?_ | refine O3 rfl ?_ rfl | refine U0 _ (Ev.load_old_agg tok ms[k].c rfl rfl rfl (add_lt hlt) hcell) rfl ?_ | refine U0 _ (Ev.callv (f := f) (fst := []) (cap := cap) hck rfl rfl (fun w S => hc _ (List.getElem_mem hkn) w S.toBelow)) rfl ?_ | refine O4 rfl rfl rfl (fun _ _ => ?_) | refine O5 tok rfl rfl rfl (fun _ _ => ?_) | refine U0 _ (U2 rfl) rfl ?_ | refine U0 _ (U3 tok rfl rfl rfl rfl rfl) rfl ?_ | refine z3 tok rfl ?_ | refine U0 _ (U4 rfl rfl) rfl ?_ | refine U0 _ (U5 rfl rfl) rfl ?_) | (refine M1 ?_; first | refine J0 ?_ | refine J1 ?_ | refine J2 mixed rfl (by kernel_rfl) ?_ | refine J3 mixed rfl rfl (by kernel_rfl) ?_ | refine J4 ?_ | refine J5 ?_ | refine J6 ?_ | refine J7 ?_ | refine J8 rfl ?_ | refine J9 rfl ?_) | (refine M2 ?_; first | refine I0 ?_ | refine I1 ?_ | refine I2 ?_ | refine I3 ?_ | refine I4 ?_ | refine I5 ?_ | refine I6 rfl ?_ | refine I7 ?_ | refine I8 ?_ | refine z4 ?_) | (refine M3 ?_; first | refine O6 ?_ | refine z2 tok rfl ?_ | refine O8 rfl ?_ | refine O7 rfl ?_ rfl | refine O9 rfl ?_ rfl | refine U1 _ (Ev.load_old_agg tok ms[k].c rfl rfl rfl (add_lt hlt) hcell) rfl ?_ | refine U1 _ (Ev.callv (f := f) (fst := []) (cap := cap) hck rfl rfl (fun w S => hc _ (List.getElem_mem hkn) w S.toBelow)) rfl ?_ | refine U1 _ (U4 rfl rfl) rfl ?_ | refine U1 _ (U5 rfl rfl) rfl ?_ | refine U1 _ (U2 rfl) rfl ?_ | refine U1 _ (U3 tok rfl rfl rfl rfl rfl) rfl ?_) | (refine M4 ?_; first | refine M6 ?_ | refine U6 rfl (by kernel_rfl) ?_ | refine U7 (by kernel_rfl) ?_) | (refine M5 ?_; first | exact M7 | refine U8 rfl ?_ | refine U9 rfl rfl ?_ ?_))
    refine XC.cond _ rfl (fun h4 => ?_) (fun h4 => ?_)
    · repeat (first | (refine M0 ?_; first | refine O0 ?_ | refine z1 tok rfl ?_ | refine O1 rfl ?_ rfl | refine O2 rfl ?_ | refine O3 rfl ?_ rfl | refine O4 rfl rfl rfl (fun _ _ => ?_) | refine O5 tok rfl rfl rfl (fun _ _ => ?_) | refine U0 _ (U2 rfl) rfl ?_ | refine U0 _ (U3 tok rfl rfl rfl rfl rfl) rfl ?_ | refine z3 tok rfl ?_ | refine U0 _ (U4 rfl rfl) rfl ?_ | refine U0 _ (U5 rfl rfl) rfl ?_) | (refine M1 ?_; first | refine J0 ?_ | refine J1 ?_ | refine J2 mixed rfl (by kernel_rfl) ?_ | refine J3 mixed rfl rfl (by kernel_rfl) ?_ | refine J4 ?_ | refine J5 ?_ | refine J6 ?_ | refine J7 ?_ | refine J8 rfl ?_ | refine J9 rfl ?_) | (refine M2 ?_; first | refine I0 ?_ | refine I1 ?_ | refine I2 ?_ | refine I3 ?_ | refine I4 ?_ | refine I5 ?_ | refine I6 rfl ?_ | refine I7 ?_ | refine I8 ?_ | refine z4 ?_) | (refine M3 ?_; first | refine O6 ?_ | refine z2 tok rfl ?_ | refine O8 rfl ?_ | refine O7 rfl ?_ rfl | refine O9 rfl ?_ rfl | refine U1 _ (U4 rfl rfl) rfl ?_ | refine U1 _ (U5 rfl rfl) rfl ?_ | refine U1 _ (U2 rfl) rfl ?_ | refine U1 _ (U3 tok rfl rfl rfl rfl rfl) rfl ?_) | (refine M4 ?_; first | refine M6 ?_ | refine U6 rfl (by kernel_rfl) ?_ | refine U7 (by kernel_rfl) ?_) | (refine M5 ?_; first | exact M7 | refine U8 rfl ?_ | refine U9 rfl rfl ?_ ?_))
      refine XE.retg tok Tryd.results60 rfl (by simp only [and_self, and_true]) (fun w' S => ?_)
      have : ms.findIdx? P = some k := by
        rw [List.findIdx?_eq_some_iff_getElem]
        exact ⟨hkn, h4, fun j hj => by simpa using h0 j _ hj (List.getElem?_eq_getElem (by omega))⟩
      unfold idxV
      rw [this]
      exact ⟨rfl, S.toBelow⟩
    · repeat (first | (refine M0 ?_; first | refine O0 ?_ | refine z1 tok rfl ?_ | refine O1 rfl ?_ rfl | refine O2 rfl ?_ | refine O3 rfl ?_ rfl | refine O4 rfl rfl rfl (fun _ _ => ?_) | refine O5 tok rfl rfl rfl (fun _ _ => ?_) | refine U0 _ (U2 rfl) rfl ?_ | refine U0 _ (U3 tok rfl rfl rfl rfl rfl) rfl ?_ | refine z3 tok rfl ?_ | refine U0 _ (U4 rfl rfl) rfl ?_ | refine U0 _ (U5 rfl rfl) rfl ?_) | (refine M1 ?_; first | refine J0 ?_ | refine J1 ?_ | refine J2 mixed rfl (by kernel_rfl) ?_ | refine J3 mixed rfl rfl (by kernel_rfl) ?_ | refine J4 ?_ | refine J5 ?_ | refine J6 ?_ | refine J7 ?_ | refine J8 rfl ?_ | refine J9 rfl ?_) | (refine M2 ?_; first | refine I0 ?_ | refine I1 ?_ | refine I2 ?_ | refine I3 ?_ | refine I4 ?_ | refine I5 ?_ | refine I6 rfl ?_ | refine I7 ?_ | refine I8 ?_ | refine z4 ?_) | (refine M3 ?_; first | refine O6 ?_ | refine z2 tok rfl ?_ | refine O8 rfl ?_ | refine O7 rfl ?_ rfl | refine O9 rfl ?_ rfl | refine U1 _ (U4 rfl rfl) rfl ?_ | refine U1 _ (U5 rfl rfl) rfl ?_ | refine U1 _ (U2 rfl) rfl ?_ | refine U1 _ (U3 tok rfl rfl rfl rfl rfl) rfl ?_) | (refine M4 ?_; first | refine M6 ?_ | refine U6 rfl (by kernel_rfl) ?_ | refine U7 (by kernel_rfl) ?_) | (refine M5 ?_; first | exact M7 | refine U8 rfl ?_ | refine U9 rfl rfl ?_ ?_))
      refine XE.round (k + 1) ⟨hkn, fun j m hj hm => ?_⟩ (by omega) (by repeat (first | exact Sub.nil | refine Sub.cons rfl ?_)) (fun _ h => h)
      rcases Nat.lt_or_ge j k with h5 | h5
      · exact h0 j m h5 hm
      · have : j = k := by omega
        subst this
        rw [hmk] at hm
        cases hm
        exact h4
  · have hkn : ¬ k < ms.length := by simpa using h3
    repeat (first | (refine M0 ?_; first | refine O0 ?_ | refine z1 tok rfl ?_ | refine O1 rfl ?_ rfl | refine O2 rfl ?_ | refine O3 rfl ?_ rfl | refine O4 rfl rfl rfl (fun _ _ => ?_) | refine O5 tok rfl rfl rfl (fun _ _ => ?_) | refine U0 _ (U2 rfl) rfl ?_ | refine U0 _ (U3 tok rfl rfl rfl rfl rfl) rfl ?_ | refine z3 tok rfl ?_ | refine U0 _ (U4 rfl rfl) rfl ?_ | refine U0 _ (U5 rfl rfl) rfl ?_) | (refine M1 ?_; first | refine J0 ?_ | refine J1 ?_ | refine J2 mixed rfl (by kernel_rfl) ?_ | refine J3 mixed rfl rfl (by kernel_rfl) ?_ | refine J4 ?_ | refine J5 ?_ | refine J6 ?_ | refine J7 ?_ | refine J8 rfl ?_ | refine J9 rfl ?_) | (refine M2 ?_; first | refine I0 ?_ | refine I1 ?_ | refine I2 ?_ | refine I3 ?_ | refine I4 ?_ | refine I5 ?_ | refine I6 rfl ?_ | refine I7 ?_ | refine I8 ?_ | refine z4 ?_) | (refine M3 ?_; first | refine O6 ?_ | refine z2 tok rfl ?_ | refine O8 rfl ?_ | refine O7 rfl ?_ rfl | refine O9 rfl ?_ rfl | refine U1 _ (U4 rfl rfl) rfl ?_ | refine U1 _ (U5 rfl rfl) rfl ?_ | refine U1 _ (U2 rfl) rfl ?_ | refine U1 _ (U3 tok rfl rfl rfl rfl rfl) rfl ?_) | (refine M4 ?_; first | refine M6 ?_ | refine U6 rfl (by kernel_rfl) ?_ | refine U7 (by kernel_rfl) ?_) | (refine M5 ?_; first | exact M7 | refine U8 rfl ?_ | refine U9 rfl rfl ?_ ?_))
    refine XE.retg tok Tryd.results60 rfl (by simp only [and_self, and_true]) (fun w' S => ?_)
    have : ms.findIdx? P = none := by
      rw [List.findIdx?_eq_none_iff]
      intro m hm
      obtain ⟨j, hj, e⟩ := List.mem_iff_getElem.1 hm
      exact h0 j m (by omega) (by rw [List.getElem?_eq_getElem hj, e])
    unfold idxV
    rw [this]
    exact ⟨rfl, S.toBelow⟩
set_option maxHeartbeats 8000000 in
theorem Floods_any {p : BV} {b : Bas} {q r : SV} {s : Sta} {ts : List Tick} {w : World} (hL : Laid w) (hb : BasAt w w.heap.size p b) (hq : IntsAt w (Lt w.heap.size) q s.fil) (ht : TksAt w (Lt w.heap.size) r ts) :
    Calls Tryd.prog 29 #[basV p b, staV q s, svV r] w (Made w (FloodV b s ts)) := by
  obtain ⟨A, n, c, A2, n2, c2⟩ := p
  have hn2 := hb.n2_eq
  simp only at hn2
  subst hn2
  simp only [basV, basC, staV, staC, svV]
  refine enter Tryd.func29 rfl Tryd.ntmps29 rfl ?_; simp only [frame, Nat.zero_add, Nat.reduceAdd]
  repeat (first | (refine M0 ?_; first | refine O0 ?_ | refine z1 tok rfl ?_ | refine O1 rfl ?_ rfl | refine O2 rfl ?_ | refine O3 rfl ?_ rfl | refine O4 rfl rfl rfl (fun _ _ => ?_) | refine O5 tok rfl rfl rfl (fun _ _ => ?_) | refine U0 _ (U2 rfl) rfl ?_ | refine U0 _ (U3 tok rfl rfl rfl rfl rfl) rfl ?_ | refine z3 tok rfl ?_ | refine U0 _ (U4 rfl rfl) rfl ?_ | refine U0 _ (U5 rfl rfl) rfl ?_) | (refine M1 ?_; first | refine J0 ?_ | refine J1 ?_ | refine J2 mixed rfl (by kernel_rfl) ?_ | refine J3 mixed rfl rfl (by kernel_rfl) ?_ | refine J4 ?_ | refine J5 ?_ | refine J6 ?_ | refine J7 ?_ | refine J8 rfl ?_ | refine J9 rfl ?_) | (refine M2 ?_; first | refine I0 ?_ | refine I1 ?_ | refine I2 ?_ | refine I3 ?_ | refine I4 ?_ | refine I5 ?_ | refine I6 rfl ?_ | refine I7 ?_ | refine I8 ?_ | refine z4 ?_) | (refine M3 ?_; first | refine O6 ?_ | refine z2 tok rfl ?_ | refine O8 rfl ?_ | refine O7 rfl ?_ rfl | refine O9 rfl ?_ rfl | refine U1 _ (U4 rfl rfl) rfl ?_ | refine U1 _ (U5 rfl rfl) rfl ?_ | refine U1 _ (U2 rfl) rfl ?_ | refine U1 _ (U3 tok rfl rfl rfl rfl rfl) rfl ?_) | (refine M4 ?_; first | refine M6 ?_ | refine U6 rfl (by kernel_rfl) ?_ | refine U7 (by kernel_rfl) ?_) | (refine M5 ?_; first | exact M7 | refine U8 rfl ?_ | refine U9 rfl rfl ?_ ?_))
  rename_i g3 hg3 g4 hg4
  refine XL.callF (MomV b s ts) (ck rfl) rfl rfl (Fam.start (ks := []) (Nat.le_refl w.heap.size)) (fun _ h => by cases h) (Below.refl w.heap.size w) (fun w1 S1 _ _ => run_made (p := ⟨A, n, c, A2, b.pols.length, c2⟩) (q := q) (r := r) (hL.below S1.toBelow) (hb.sys S1) (hq.arg S1) (ht.arg S1)) (fun w2 v new hR hF2 hB2 hk2 => ?_)
  obtain ⟨rm, ms, rfl, rfl, hlen, e1, e2⟩ := hR
  simp only [svV]
  repeat (first | (refine M0 ?_; first | refine O0 ?_ | refine z1 tok rfl ?_ | refine O1 rfl ?_ rfl | refine O2 rfl ?_ | refine O3 rfl ?_ rfl | refine O4 rfl rfl rfl (fun _ _ => ?_) | refine O5 tok rfl rfl rfl (fun _ _ => ?_) | refine U0 _ (U2 rfl) rfl ?_ | refine U0 _ (U3 tok rfl rfl rfl rfl rfl) rfl ?_ | refine z3 tok rfl ?_ | refine U0 _ (U4 rfl rfl) rfl ?_ | refine U0 _ (U5 rfl rfl) rfl ?_) | (refine M1 ?_; first | refine J0 ?_ | refine J1 ?_ | refine J2 mixed rfl (by kernel_rfl) ?_ | refine J3 mixed rfl rfl (by kernel_rfl) ?_ | refine J4 ?_ | refine J5 ?_ | refine J6 ?_ | refine J7 ?_ | refine J8 rfl ?_ | refine J9 rfl ?_) | (refine M2 ?_; first | refine I0 ?_ | refine I1 ?_ | refine I2 ?_ | refine I3 ?_ | refine I4 ?_ | refine I5 ?_ | refine I6 rfl ?_ | refine I7 ?_ | refine I8 ?_ | refine z4 ?_) | (refine M3 ?_; first | refine O6 ?_ | refine z2 tok rfl ?_ | refine O8 rfl ?_ | refine O7 rfl ?_ rfl | refine O9 rfl ?_ rfl | refine U1 _ (U4 rfl rfl) rfl ?_ | refine U1 _ (U5 rfl rfl) rfl ?_ | refine U1 _ (U2 rfl) rfl ?_ | refine U1 _ (U3 tok rfl rfl rfl rfl rfl) rfl ?_) | (refine M4 ?_; first | refine M6 ?_ | refine U6 rfl (by kernel_rfl) ?_ | refine U7 (by kernel_rfl) ?_) | (refine M5 ?_; first | exact M7 | refine U8 rfl ?_ | refine U9 rfl rfl ?_ ?_))
  refine XC.cond _ rfl (fun h0 => ?_) (fun h0 => ?_)
  · have hE : runE b s ts ≠ 0 := by simpa using h0
    repeat (first | (refine M0 ?_; first | refine O0 ?_ | refine z1 tok rfl ?_ | refine O1 rfl ?_ rfl | refine O2 rfl ?_ | refine O3 rfl ?_ rfl | refine O4 rfl rfl rfl (fun _ _ => ?_) | refine O5 tok rfl rfl rfl (fun _ _ => ?_) | refine U0 _ (U2 rfl) rfl ?_ | refine U0 _ (U3 tok rfl rfl rfl rfl rfl) rfl ?_ | refine z3 tok rfl ?_ | refine U0 _ (U4 rfl rfl) rfl ?_ | refine U0 _ (U5 rfl rfl) rfl ?_) | (refine M1 ?_; first | refine J0 ?_ | refine J1 ?_ | refine J2 mixed rfl (by kernel_rfl) ?_ | refine J3 mixed rfl rfl (by kernel_rfl) ?_ | refine J4 ?_ | refine J5 ?_ | refine J6 ?_ | refine J7 ?_ | refine J8 rfl ?_ | refine J9 rfl ?_) | (refine M2 ?_; first | refine I0 ?_ | refine I1 ?_ | refine I2 ?_ | refine I3 ?_ | refine I4 ?_ | refine I5 ?_ | refine I6 rfl ?_ | refine I7 ?_ | refine I8 ?_ | refine z4 ?_) | (refine M3 ?_; first | refine O6 ?_ | refine z2 tok rfl ?_ | refine O8 rfl ?_ | refine O7 rfl ?_ rfl | refine O9 rfl ?_ rfl | refine U1 _ (U4 rfl rfl) rfl ?_ | refine U1 _ (U5 rfl rfl) rfl ?_ | refine U1 _ (U2 rfl) rfl ?_ | refine U1 _ (U3 tok rfl rfl rfl rfl rfl) rfl ?_) | (refine M4 ?_; first | refine M6 ?_ | refine U6 rfl (by kernel_rfl) ?_ | refine U7 (by kernel_rfl) ?_) | (refine M5 ?_; first | exact M7 | refine U8 rfl ?_ | refine U9 rfl rfl ?_ ?_))
    refine XE.retg tok Tryd.results29 rfl (by simp only [and_self, and_true]) (fun w' S => ?_)
    exact FloodV.made (r := ⟨none, 0, 0⟩) rfl (by rw [floods_n hE]; exact IntsAt.nil) (hB2.trans S.toBelow)
  have hE : runE b s ts = 0 := by simpa using h0
  obtain ⟨hs0, h300, herr⟩ := runE_0 hE
  have ho := (staOk_of hs0).1
  have hm6 := ho.m6
  repeat (first | (refine M0 ?_; first | refine O0 ?_ | refine z1 tok rfl ?_ | refine O1 rfl ?_ rfl | refine O2 rfl ?_ | refine O3 rfl ?_ rfl | refine O4 rfl rfl rfl (fun _ _ => ?_) | refine O5 tok rfl rfl rfl (fun _ _ => ?_) | refine U0 _ (U2 rfl) rfl ?_ | refine U0 _ (U3 tok rfl rfl rfl rfl rfl) rfl ?_ | refine z3 tok rfl ?_ | refine U0 _ (U4 rfl rfl) rfl ?_ | refine U0 _ (U5 rfl rfl) rfl ?_) | (refine M1 ?_; first | refine J0 ?_ | refine J1 ?_ | refine J2 mixed rfl (by kernel_rfl) ?_ | refine J3 mixed rfl rfl (by kernel_rfl) ?_ | refine J4 ?_ | refine J5 ?_ | refine J6 ?_ | refine J7 ?_ | refine J8 rfl ?_ | refine J9 rfl ?_) | (refine M2 ?_; first | refine I0 ?_ | refine I1 ?_ | refine I2 ?_ | refine I3 ?_ | refine I4 ?_ | refine I5 ?_ | refine I6 rfl ?_ | refine I7 ?_ | refine I8 ?_ | refine z4 ?_) | (refine M3 ?_; first | refine O6 ?_ | refine z2 tok rfl ?_ | refine O8 rfl ?_ | refine O7 rfl ?_ rfl | refine O9 rfl ?_ rfl | refine U1 _ (U4 rfl rfl) rfl ?_ | refine U1 _ (U5 rfl rfl) rfl ?_ | refine U1 _ (U2 rfl) rfl ?_ | refine U1 _ (U3 tok rfl rfl rfl rfl rfl) rfl ?_) | (refine M4 ?_; first | refine M6 ?_ | refine U6 rfl (by kernel_rfl) ?_ | refine U7 (by kernel_rfl) ?_) | (refine M5 ?_; first | exact M7 | refine U8 rfl ?_ | refine U9 rfl rfl ?_ ?_))
  refine XC.rebase (List.nil_sublist _) (fun W0 S0 => ?_)
  refine XC.loopk [8, 24] rfl (fun s' : Nat × World × Value => [(10, s'.2.2), (25, .int .i64 (s'.1 : Nat))]) (fun _ => []) (fun s' => s'.2.1)
    (fun s' => s'.1 ≤ b.pols.length ∧ Fam s'.2.1 w.heap.size [] [⟨Int, intK, s'.2.2, (List.range s'.1).map (firstF (runF b s ts))⟩] [hList momK rm ms] ∧ Below w.heap.size w s'.2.1)
    (fun s' => b.pols.length - s'.1) (0, W0, .slice none 0 0) ⟨Nat.zero_le _, ((hF2.sys S0 (by intro e he; repeat (first | (cases he; done) | (rcases List.mem_cons.1 he with rfl | he; · first | (right; assumption) | (left; simp <;> fail))))).add (ks' := []) fun k hk => by cases hk).nil intK, hB2.trans S0.toBelow⟩ (by repeat (first | exact Sub.nil | refine Sub.cons rfl ?_)) (fun _ h => h) ?_
  rintro ⟨k, W, v⟩ ⟨hk, hF, hBW⟩
  simp only at hk hF hBW
  dsimp only [List.cons_append, List.nil_append]
  repeat (first | (refine M0 ?_; first | refine O0 ?_ | refine z1 tok rfl ?_ | refine O1 rfl ?_ rfl | refine O2 rfl ?_ | refine O3 rfl ?_ rfl | refine O4 rfl rfl rfl (fun _ _ => ?_) | refine O5 tok rfl rfl rfl (fun _ _ => ?_) | refine U0 _ (U2 rfl) rfl ?_ | refine U0 _ (U3 tok rfl rfl rfl rfl rfl) rfl ?_ | refine z3 tok rfl ?_ | refine U0 _ (U4 rfl rfl) rfl ?_ | refine U0 _ (U5 rfl rfl) rfl ?_) | (refine M1 ?_; first | refine J0 ?_ | refine J1 ?_ | refine J2 mixed rfl (by kernel_rfl) ?_ | refine J3 mixed rfl rfl (by kernel_rfl) ?_ | refine J4 ?_ | refine J5 ?_ | refine J6 ?_ | refine J7 ?_ | refine J8 rfl ?_ | refine J9 rfl ?_) | (refine M2 ?_; first | refine I0 ?_ | refine I1 ?_ | refine I2 ?_ | refine I3 ?_ | refine I4 ?_ | refine I5 ?_ | refine I6 rfl ?_ | refine I7 ?_ | refine I8 ?_ | refine z4 ?_) | (refine M3 ?_; first | refine O6 ?_ | refine z2 tok rfl ?_ | refine O8 rfl ?_ | refine O7 rfl ?_ rfl | refine O9 rfl ?_ rfl | refine U1 _ (U4 rfl rfl) rfl ?_ | refine U1 _ (U5 rfl rfl) rfl ?_ | refine U1 _ (U2 rfl) rfl ?_ | refine U1 _ (U3 tok rfl rfl rfl rfl rfl) rfl ?_) | (refine M4 ?_; first | refine M6 ?_ | refine U6 rfl (by kernel_rfl) ?_ | refine U7 (by kernel_rfl) ?_) | (refine M5 ?_; first | exact M7 | refine U8 rfl ?_ | refine U9 rfl rfl ?_ ?_))
  refine XC.cond _ rfl (fun h1 => ?_) (fun h1 => ?_)
  · have hkn : k < b.pols.length := by simpa using h1
    have hks : ∀ k, k ∈ ([] : List Nat) → k < W.heap.size := fun k hk => by cases hk
    have hl1 : ((List.range k).map (firstF (runF b s ts))).length + 1 ≤ 10000000 := by simp; omega
    have ha1 : ∀ x, x ∈ intK.sl (firstF (runF b s ts) k) → x ∈ [hList momK rm ms] := fun x hx => by cases hx
    repeat (first | (refine M0 ?_; first | refine O0 ?_ | refine z1 tok rfl ?_ | refine O1 rfl ?_ rfl | refine O2 rfl ?_ | refine O3 rfl ?_ rfl | refine O4 rfl rfl rfl (fun _ _ => ?_) | refine O5 tok rfl rfl rfl (fun _ _ => ?_) | refine U0 _ (U2 rfl) rfl ?_ | refine U0 _ (U3 tok rfl rfl rfl rfl rfl) rfl ?_ | refine z3 tok rfl ?_ | refine U0 _ (U4 rfl rfl) rfl ?_ | refine U0 _ (U5 rfl rfl) rfl ?_) | (refine M1 ?_; first | refine J0 ?_ | refine J1 ?_ | refine J2 mixed rfl (by kernel_rfl) ?_ | refine J3 mixed rfl rfl (by kernel_rfl) ?_ | refine J4 ?_ | refine J5 ?_ | refine J6 ?_ | refine J7 ?_ | refine J8 rfl ?_ | refine J9 rfl ?_) | (refine M2 ?_; first | refine I0 ?_ | refine I1 ?_ | refine I2 ?_ | refine I3 ?_ | refine I4 ?_ | refine I5 ?_ | refine I6 rfl ?_ | refine I7 ?_ | refine I8 ?_ | refine z4 ?_) | (refine M3 ?_; first | refine O6 ?_ | refine z2 tok rfl ?_ | refine O8 rfl ?_ | refine O7 rfl ?_ rfl | refine O9 rfl ?_ rfl | refine U1 _ (U4 rfl rfl) rfl ?_ | refine U1 _ (U5 rfl rfl) rfl ?_ | refine U1 _ (U2 rfl) rfl ?_ | refine U1 _ (U3 tok rfl rfl rfl rfl rfl) rfl ?_) | (refine M4 ?_; first | refine M6 ?_ | refine U6 rfl (by kernel_rfl) ?_ | refine U7 (by kernel_rfl) ?_) | (refine M5 ?_; first | exact M7 | refine U8 rfl ?_ | refine U9 rfl rfl ?_ ?_))
    rename_i g11 hg11
    repeat (first | (refine M0 ?_; first | refine O0 ?_ | refine z1 tok rfl ?_ | refine O1 rfl ?_ rfl | refine O2 rfl ?_ | refine O3 rfl ?_ rfl | refine U0 _ (Ev.makeFunc rfl rfl) rfl ?_ | refine O4 rfl rfl rfl (fun _ _ => ?_) | refine O5 tok rfl rfl rfl (fun _ _ => ?_) | refine U0 _ (U2 rfl) rfl ?_ | refine U0 _ (U3 tok rfl rfl rfl rfl rfl) rfl ?_ | refine z3 tok rfl ?_ | refine U0 _ (U4 rfl rfl) rfl ?_ | refine U0 _ (U5 rfl rfl) rfl ?_) | (refine M1 ?_; first | refine J0 ?_ | refine J1 ?_ | refine J2 mixed rfl (by kernel_rfl) ?_ | refine J3 mixed rfl rfl (by kernel_rfl) ?_ | refine J4 ?_ | refine J5 ?_ | refine J6 ?_ | refine J7 ?_ | refine J8 rfl ?_ | refine J9 rfl ?_) | (refine M2 ?_; first | refine I0 ?_ | refine I1 ?_ | refine I2 ?_ | refine I3 ?_ | refine I4 ?_ | refine I5 ?_ | refine I6 rfl ?_ | refine I7 ?_ | refine I8 ?_ | refine z4 ?_) | (refine M3 ?_; first | refine O6 ?_ | refine z2 tok rfl ?_ | refine O8 rfl ?_ | refine O7 rfl ?_ rfl | refine O9 rfl ?_ rfl | refine U1 _ (Ev.makeFunc rfl rfl) rfl ?_ | refine U1 _ (U4 rfl rfl) rfl ?_ | refine U1 _ (U5 rfl rfl) rfl ?_ | refine U1 _ (U2 rfl) rfl ?_ | refine U1 _ (U3 tok rfl rfl rfl rfl rfl) rfl ?_) | (refine M4 ?_; first | refine M6 ?_ | refine U6 rfl (by kernel_rfl) ?_ | refine U7 (by kernel_rfl) ?_) | (refine M5 ?_; first | exact M7 | refine U8 rfl ?_ | refine U9 rfl rfl ?_ ?_))
    refine XL.step _ (Ev.call (f := 60) (ck rfl) rfl (fun w5 S5 => (index_gen (f := 61) (cap := [.pointer (some ⟨g11, 0, none⟩)]) (P := fun m => decide (0 < m.f.t k)) (r := rm) (ms := ms) (ck rfl) (Held.lt (x := hList momK rm ms) ((hF.sys S5 (by intro e he; repeat (first | (cases he; done) | (rcases List.mem_cons.1 he with rfl | he; · first | (right; assumption) | (left; simp <;> fail))))).get (.head _))) (by omega) (fun m hm w6 hb6 => by
      have h5 : ListAt momK w5 (Lt w5.heap.size) rm ms := Held.lt (x := hList momK rm ms) ((hF.sys S5 (by intro e he; repeat (first | (cases he; done) | (rcases List.mem_cons.1 he with rfl | he; · first | (right; assumption) | (left; simp <;> fail))))).get (.head _))
      have h6 : IntsAt w5 (Lt w5.heap.size) m.r m.f.taken := h5.ins m hm (hInts _ _) (.tail _ (.head _))
      have h7 := S5.own (g11, _) (.head _)
      refine floods1_any (m := m) (gi := g11) (i := k) ((hb6.block g11 (S5.lt (.head _))).trans h7.2) ((h6.below hb6).mono fun j hj => Nat.lt_of_lt_of_le hj hb6.size) ?_
      rw [flo_len (b := b) (s := s) (ts := ts) (by rw [← e2]; exact List.mem_map.2 ⟨m, hm, rfl⟩)]
      exact hkn) :))) rfl ?_
    rw [idxV_first e2 k]
    repeat (first | (refine M0 ?_; first | refine O0 ?_ | refine z1 tok rfl ?_ | refine O1 rfl ?_ rfl | refine O2 rfl ?_ | refine O3 rfl ?_ rfl | refine O4 rfl rfl rfl (fun _ _ => ?_) | refine O5 tok rfl rfl rfl (fun _ _ => ?_) | refine U0 _ (U2 rfl) rfl ?_ | refine U0 _ (U3 tok rfl rfl rfl rfl rfl) rfl ?_ | refine z3 tok rfl ?_ | refine U0 _ (U4 rfl rfl) rfl ?_ | refine U0 _ (U5 rfl rfl) rfl ?_ | refine XL.buildSlice tok rfl rfl rfl rfl rfl rfl rfl rfl rfl (fun _ _ => ?_) | (refine XL.at_push 26 ?_; refine XL.push (K := intK) (a := firstF (runF b s ts) k) (wE := w) 0 intK_el (by decide) rfl rfl rfl (by assumption) rfl (by assumption) (by assumption) (Nat.le_refl _) rfl hl1 (by decide) ha1 (fun _ _ _ _ _ => ?_))) | (refine M1 ?_; first | refine J0 ?_ | refine J1 ?_ | refine J2 mixed rfl (by kernel_rfl) ?_ | refine J3 mixed rfl rfl (by kernel_rfl) ?_ | refine J4 ?_ | refine J5 ?_ | refine J6 ?_ | refine J7 ?_ | refine J8 rfl ?_ | refine J9 rfl ?_) | (refine M2 ?_; first | refine I0 ?_ | refine I1 ?_ | refine I2 ?_ | refine I3 ?_ | refine I4 ?_ | refine I5 ?_ | refine I6 rfl ?_ | refine I7 ?_ | refine I8 ?_ | refine z4 ?_) | (refine M3 ?_; first | refine O6 ?_ | refine z2 tok rfl ?_ | refine O8 rfl ?_ | refine O7 rfl ?_ rfl | refine O9 rfl ?_ rfl | refine U1 _ (U4 rfl rfl) rfl ?_ | refine U1 _ (U5 rfl rfl) rfl ?_ | refine U1 _ (U2 rfl) rfl ?_ | refine U1 _ (U3 tok rfl rfl rfl rfl rfl) rfl ?_) | (refine M4 ?_; first | refine M6 ?_ | refine U6 rfl (by kernel_rfl) ?_ | refine U7 (by kernel_rfl) ?_) | (refine M5 ?_; first | exact M7 | refine U8 rfl ?_ | refine U9 rfl rfl ?_ ?_))
    refine XE.roundW (s := (k, W, v)) (fun w6 S6 => ⟨(k + 1, w6, _), ⟨hkn, ?_, ?_⟩, by simp only; omega, (by repeat (first | exact Sub.nil | refine Sub.cons rfl ?_)), S6.rebase (List.nil_sublist _)⟩)
    · rw [range_add]
      exact Fam.add (Fam.sys (by assumption) S6 (by intro e he; repeat (first | (cases he; done) | (rcases List.mem_cons.1 he with rfl | he; · first | (right; assumption) | (left; simp <;> fail))))) fun k hk => by cases hk
    · exact Below.trans (by assumption) S6.toBelow
  · have hkn : k = b.pols.length := by have : ¬ (k < b.pols.length) := by simpa using h1
                                       omega
    subst hkn
    repeat (first | (refine M0 ?_; first | refine O0 ?_ | refine z1 tok rfl ?_ | refine O1 rfl ?_ rfl | refine O2 rfl ?_ | refine O3 rfl ?_ rfl | refine O4 rfl rfl rfl (fun _ _ => ?_) | refine O5 tok rfl rfl rfl (fun _ _ => ?_) | refine U0 _ (U2 rfl) rfl ?_ | refine U0 _ (U3 tok rfl rfl rfl rfl rfl) rfl ?_ | refine z3 tok rfl ?_ | refine U0 _ (U4 rfl rfl) rfl ?_ | refine U0 _ (U5 rfl rfl) rfl ?_) | (refine M1 ?_; first | refine J0 ?_ | refine J1 ?_ | refine J2 mixed rfl (by kernel_rfl) ?_ | refine J3 mixed rfl rfl (by kernel_rfl) ?_ | refine J4 ?_ | refine J5 ?_ | refine J6 ?_ | refine J7 ?_ | refine J8 rfl ?_ | refine J9 rfl ?_) | (refine M2 ?_; first | refine I0 ?_ | refine I1 ?_ | refine I2 ?_ | refine I3 ?_ | refine I4 ?_ | refine I5 ?_ | refine I6 rfl ?_ | refine I7 ?_ | refine I8 ?_ | refine z4 ?_) | (refine M3 ?_; first | refine O6 ?_ | refine z2 tok rfl ?_ | refine O8 rfl ?_ | refine O7 rfl ?_ rfl | refine O9 rfl ?_ rfl | refine U1 _ (U4 rfl rfl) rfl ?_ | refine U1 _ (U5 rfl rfl) rfl ?_ | refine U1 _ (U2 rfl) rfl ?_ | refine U1 _ (U3 tok rfl rfl rfl rfl rfl) rfl ?_) | (refine M4 ?_; first | refine M6 ?_ | refine U6 rfl (by kernel_rfl) ?_ | refine U7 (by kernel_rfl) ?_) | (refine M5 ?_; first | exact M7 | refine U8 rfl ?_ | refine U9 rfl rfl ?_ ?_))
    refine XE.retg tok Tryd.results29 rfl (by simp only [and_self, and_true]) (fun w' S => ?_)
    have hF6 := hF.sys S (fun e he => by cases he)
    obtain ⟨r1, rfl, h5⟩ := hF6.list (.head _)
    exact FloodV.made (r := r1) (by rw [hE]; rfl) (by rw [floods_0 hE]; exact h5.ints) (hBW.trans S.toBelow)
end Go.Proofs.YtoiepgcjinccpaaDoor.X
/-
  The walk of the document's Floods; the law BasinStays.
-/
namespace Go.Proofs.YtoiepgcjinccpaaDoor.X
open Go Go.RowKit Go.Proofs.YtoiepgcjinccpaaDoor.Bs
set_option linter.unusedVariables false
theorem Free.ne {W : World} {b0 : Nat} {ks : List Nat} {rs : List RowX} {k : Nat} {L : Lo} (h : Free W b0 ks rs k) (hL : ∀ e, e ∈ L → e.1 ∈ ks) : ∀ e, e ∈ L → e.1 ≠ k := fun e he e1 => h.2.2.1 (e1 ▸ hL e he)
set_option maxHeartbeats 8000000 in
theorem refFloods_any {p : BV} {b : Bas} {q r : SV} {s : Sta} {ts : List Tick} {w : World} (hb : BasAt w w.heap.size p b) (hq : IntsAt w (Lt w.heap.size) q s.fil) (ht : TksAt w (Lt w.heap.size) r ts) :
    Calls Tryd.prog 30 #[basV p b, staV q s, svV r] w (Made w (FloodV b s ts)) := by
  obtain ⟨A, n, c, A2, n2, c2⟩ := p
  have hn2 := hb.n2_eq
  simp only at hn2
  subst hn2
  simp only [basV, basC, staV, staC, svV]
  refine enter Tryd.func30 rfl Tryd.ntmps30 rfl ?_; simp only [frame, Nat.zero_add, Nat.reduceAdd]
  repeat (first | (refine M0 ?_; first | refine O0 ?_ | refine z1 tok rfl ?_ | refine O1 rfl ?_ rfl | refine O2 rfl ?_ | refine O3 rfl ?_ rfl | refine O4 rfl rfl rfl (fun _ _ => ?_) | refine O5 tok rfl rfl rfl (fun _ _ => ?_) | refine U0 _ (U2 rfl) rfl ?_ | refine U0 _ (U3 tok rfl rfl rfl rfl rfl) rfl ?_ | refine z3 tok rfl ?_ | refine U0 _ (U4 rfl rfl) rfl ?_ | refine U0 _ (U5 rfl rfl) rfl ?_) | (refine M1 ?_; first | refine J0 ?_ | refine J1 ?_ | refine J2 mixed rfl (by kernel_rfl) ?_ | refine J3 mixed rfl rfl (by kernel_rfl) ?_ | refine J4 ?_ | refine J5 ?_ | refine J6 ?_ | refine J7 ?_ | refine J8 rfl ?_ | refine J9 rfl ?_) | (refine M2 ?_; first | refine I0 ?_ | refine I1 ?_ | refine I2 ?_ | refine I3 ?_ | refine I4 ?_ | refine I5 ?_ | refine I6 rfl ?_ | refine I7 ?_ | refine I8 ?_ | refine z4 ?_) | (refine M3 ?_; first | refine O6 ?_ | refine z2 tok rfl ?_ | refine O8 rfl ?_ | refine O7 rfl ?_ rfl | refine O9 rfl ?_ rfl | refine U1 _ (U4 rfl rfl) rfl ?_ | refine U1 _ (U5 rfl rfl) rfl ?_ | refine U1 _ (U2 rfl) rfl ?_ | refine U1 _ (U3 tok rfl rfl rfl rfl rfl) rfl ?_) | (refine M4 ?_; first | refine M6 ?_ | refine U6 rfl (by kernel_rfl) ?_ | refine U7 (by kernel_rfl) ?_) | (refine M5 ?_; first | exact M7 | refine U8 rfl ?_ | refine U9 rfl rfl ?_ ?_))
  rename_i g3 hg3 g4 hg4
  refine XL.callF (RunV b s ts) (ck rfl) rfl rfl (Fam.start (ks := []) (Nat.le_refl w.heap.size)) (fun _ h => by cases h) (Below.refl w.heap.size w) (fun w1 S1 _ _ => refRun_any (p := ⟨A, n, c, A2, b.pols.length, c2⟩) (q := q) (r := r) (hb.sys S1) (hq.arg S1) (ht.arg S1)) (fun w2 v new hR hF2 hB2 hk2 => ?_)
  obtain ⟨r1, r2, l1, l2, rfl, rfl, e1, e2⟩ := hR
  simp only [svV]
  repeat (first | (refine M0 ?_; first | refine O0 ?_ | refine z1 tok rfl ?_ | refine O1 rfl ?_ rfl | refine O2 rfl ?_ | refine O3 rfl ?_ rfl | refine O4 rfl rfl rfl (fun _ _ => ?_) | refine O5 tok rfl rfl rfl (fun _ _ => ?_) | refine U0 _ (U2 rfl) rfl ?_ | refine U0 _ (U3 tok rfl rfl rfl rfl rfl) rfl ?_ | refine z3 tok rfl ?_ | refine U0 _ (U4 rfl rfl) rfl ?_ | refine U0 _ (U5 rfl rfl) rfl ?_) | (refine M1 ?_; first | refine J0 ?_ | refine J1 ?_ | refine J2 mixed rfl (by kernel_rfl) ?_ | refine J3 mixed rfl rfl (by kernel_rfl) ?_ | refine J4 ?_ | refine J5 ?_ | refine J6 ?_ | refine J7 ?_ | refine J8 rfl ?_ | refine J9 rfl ?_) | (refine M2 ?_; first | refine I0 ?_ | refine I1 ?_ | refine I2 ?_ | refine I3 ?_ | refine I4 ?_ | refine I5 ?_ | refine I6 rfl ?_ | refine I7 ?_ | refine I8 ?_ | refine z4 ?_) | (refine M3 ?_; first | refine O6 ?_ | refine z2 tok rfl ?_ | refine O8 rfl ?_ | refine O7 rfl ?_ rfl | refine O9 rfl ?_ rfl | refine U1 _ (U4 rfl rfl) rfl ?_ | refine U1 _ (U5 rfl rfl) rfl ?_ | refine U1 _ (U2 rfl) rfl ?_ | refine U1 _ (U3 tok rfl rfl rfl rfl rfl) rfl ?_) | (refine M4 ?_; first | refine M6 ?_ | refine U6 rfl (by kernel_rfl) ?_ | refine U7 (by kernel_rfl) ?_) | (refine M5 ?_; first | exact M7 | refine U8 rfl ?_ | refine U9 rfl rfl ?_ ?_))
  refine XC.cond _ rfl (fun h0 => ?_) (fun h0 => ?_)
  · have hE : runE b s ts ≠ 0 := by simpa using h0
    repeat (first | (refine M0 ?_; first | refine O0 ?_ | refine z1 tok rfl ?_ | refine O1 rfl ?_ rfl | refine O2 rfl ?_ | refine O3 rfl ?_ rfl | refine O4 rfl rfl rfl (fun _ _ => ?_) | refine O5 tok rfl rfl rfl (fun _ _ => ?_) | refine U0 _ (U2 rfl) rfl ?_ | refine U0 _ (U3 tok rfl rfl rfl rfl rfl) rfl ?_ | refine z3 tok rfl ?_ | refine U0 _ (U4 rfl rfl) rfl ?_ | refine U0 _ (U5 rfl rfl) rfl ?_) | (refine M1 ?_; first | refine J0 ?_ | refine J1 ?_ | refine J2 mixed rfl (by kernel_rfl) ?_ | refine J3 mixed rfl rfl (by kernel_rfl) ?_ | refine J4 ?_ | refine J5 ?_ | refine J6 ?_ | refine J7 ?_ | refine J8 rfl ?_ | refine J9 rfl ?_) | (refine M2 ?_; first | refine I0 ?_ | refine I1 ?_ | refine I2 ?_ | refine I3 ?_ | refine I4 ?_ | refine I5 ?_ | refine I6 rfl ?_ | refine I7 ?_ | refine I8 ?_ | refine z4 ?_) | (refine M3 ?_; first | refine O6 ?_ | refine z2 tok rfl ?_ | refine O8 rfl ?_ | refine O7 rfl ?_ rfl | refine O9 rfl ?_ rfl | refine U1 _ (U4 rfl rfl) rfl ?_ | refine U1 _ (U5 rfl rfl) rfl ?_ | refine U1 _ (U2 rfl) rfl ?_ | refine U1 _ (U3 tok rfl rfl rfl rfl rfl) rfl ?_) | (refine M4 ?_; first | refine M6 ?_ | refine U6 rfl (by kernel_rfl) ?_ | refine U7 (by kernel_rfl) ?_) | (refine M5 ?_; first | exact M7 | refine U8 rfl ?_ | refine U9 rfl rfl ?_ ?_))
    refine XE.retg tok Tryd.results30 rfl (by simp only [and_self, and_true]) (fun w' S => ?_)
    exact FloodV.made (r := ⟨none, 0, 0⟩) rfl (by rw [floods_n hE]; exact IntsAt.nil) (hB2.trans S.toBelow)
  have hE : runE b s ts = 0 := by simpa using h0
  obtain ⟨hs0, h300, herr⟩ := runE_0 hE
  have ho := (staOk_of hs0).1
  have hm6 := ho.m6
  have hln : l2.length ≤ 300 := by
    have := congrArg List.length e2
    rw [run_len, runS_len hE] at this
    simp at this
    omega
  have hF3 := hF2.forget (hs' := [hList floK r2 l2]) (fun x hx => by rw [List.mem_singleton.1 hx]; exact .tail _ (.head _))
  clear hF2
  obtain ⟨A5, n5, c5⟩ := r2
  have hn5 : n5 = l2.length := (hF3.get (x := hList floK ⟨A5, n5, c5⟩ l2) (.head _)).len (by decide)
  subst hn5
  repeat (first | (refine M0 ?_; first | refine O0 ?_ | refine z1 tok rfl ?_ | refine O1 rfl ?_ rfl | refine O2 rfl ?_ | refine O3 rfl ?_ rfl | refine O4 rfl rfl rfl (fun _ _ => ?_) | refine O5 tok rfl rfl rfl (fun _ _ => ?_) | refine U0 _ (U2 rfl) rfl ?_ | refine U0 _ (U3 tok rfl rfl rfl rfl rfl) rfl ?_ | refine z3 tok rfl ?_ | refine U0 _ (U4 rfl rfl) rfl ?_ | refine U0 _ (U5 rfl rfl) rfl ?_) | (refine M1 ?_; first | refine J0 ?_ | refine J1 ?_ | refine J2 mixed rfl (by kernel_rfl) ?_ | refine J3 mixed rfl rfl (by kernel_rfl) ?_ | refine J4 ?_ | refine J5 ?_ | refine J6 ?_ | refine J7 ?_ | refine J8 rfl ?_ | refine J9 rfl ?_) | (refine M2 ?_; first | refine I0 ?_ | refine I1 ?_ | refine I2 ?_ | refine I3 ?_ | refine I4 ?_ | refine I5 ?_ | refine I6 rfl ?_ | refine I7 ?_ | refine I8 ?_ | refine z4 ?_) | (refine M3 ?_; first | refine O6 ?_ | refine z2 tok rfl ?_ | refine O8 rfl ?_ | refine O7 rfl ?_ rfl | refine O9 rfl ?_ rfl | refine U1 _ (U4 rfl rfl) rfl ?_ | refine U1 _ (U5 rfl rfl) rfl ?_ | refine U1 _ (U2 rfl) rfl ?_ | refine U1 _ (U3 tok rfl rfl rfl rfl rfl) rfl ?_) | (refine M4 ?_; first | refine M6 ?_ | refine U6 rfl (by kernel_rfl) ?_ | refine U7 (by kernel_rfl) ?_) | (refine M5 ?_; first | exact M7 | refine U8 rfl ?_ | refine U9 rfl rfl ?_ ?_))
  refine XC.rebase (L' := [(g3, _)]) (List.Sublist.cons _ (List.Sublist.refl _)) (fun W0 S0 => ?_)
  refine XC.loopk [3, 9] rfl (fun s' : Nat × World × Value => [(11, s'.2.2), (12, .int .i64 (s'.1 : Nat))]) (fun _ => [(g3, cel 25 [.slice A n c, .int .i64 b.leak, .int .i64 b.crest, .int .i64 b.over, .slice A2 b.pols.length c2])]) (fun s' => s'.2.1)
    (fun s' => s'.1 ≤ b.pols.length ∧ Fam s'.2.1 w.heap.size [g3] [⟨Int, intK, s'.2.2, (List.range s'.1).map (firstF (l2.map (·.f)))⟩] [hList floK ⟨A5, l2.length, c5⟩ l2] ∧ Below w.heap.size w s'.2.1 ∧ g3 < s'.2.1.heap.size)
    (fun s' => b.pols.length - s'.1) (0, W0, .slice none 0 0) ⟨Nat.zero_le _, ((hF3.sys S0 (by intro e he; repeat (first | (cases he; done) | (rcases List.mem_cons.1 he with rfl | he; · first | (right; assumption) | (left; simp <;> fail))))).add (ks' := [g3]) (by intro k hk; repeat (first | (cases hk; done) | (rcases List.mem_cons.1 hk with rfl | hk; · first | (right; assumption) | (left; simp <;> fail))))).nil intK, hB2.trans S0.toBelow, S0.keyLt g3 (by simp)⟩ (by repeat (first | exact Sub.nil | refine Sub.cons rfl ?_)) (fun _ h => h) ?_
  rintro ⟨k, W, v⟩ ⟨hk, hF, hBW, hg⟩
  simp only at hk hF hBW hg
  dsimp only [List.cons_append, List.nil_append]
  repeat (first | (refine M0 ?_; first | refine O0 ?_ | refine z1 tok rfl ?_ | refine O1 rfl ?_ rfl | refine O2 rfl ?_ | refine O3 rfl ?_ rfl | refine O4 rfl rfl rfl (fun _ _ => ?_) | refine O5 tok rfl rfl rfl (fun _ _ => ?_) | refine U0 _ (U2 rfl) rfl ?_ | refine U0 _ (U3 tok rfl rfl rfl rfl rfl) rfl ?_ | refine z3 tok rfl ?_ | refine U0 _ (U4 rfl rfl) rfl ?_ | refine U0 _ (U5 rfl rfl) rfl ?_) | (refine M1 ?_; first | refine J0 ?_ | refine J1 ?_ | refine J2 mixed rfl (by kernel_rfl) ?_ | refine J3 mixed rfl rfl (by kernel_rfl) ?_ | refine J4 ?_ | refine J5 ?_ | refine J6 ?_ | refine J7 ?_ | refine J8 rfl ?_ | refine J9 rfl ?_) | (refine M2 ?_; first | refine I0 ?_ | refine I1 ?_ | refine I2 ?_ | refine I3 ?_ | refine I4 ?_ | refine I5 ?_ | refine I6 rfl ?_ | refine I7 ?_ | refine I8 ?_ | refine z4 ?_) | (refine M3 ?_; first | refine O6 ?_ | refine z2 tok rfl ?_ | refine O8 rfl ?_ | refine O7 rfl ?_ rfl | refine O9 rfl ?_ rfl | refine U1 _ (U4 rfl rfl) rfl ?_ | refine U1 _ (U5 rfl rfl) rfl ?_ | refine U1 _ (U2 rfl) rfl ?_ | refine U1 _ (U3 tok rfl rfl rfl rfl rfl) rfl ?_) | (refine M4 ?_; first | refine M6 ?_ | refine U6 rfl (by kernel_rfl) ?_ | refine U7 (by kernel_rfl) ?_) | (refine M5 ?_; first | exact M7 | refine U8 rfl ?_ | refine U9 rfl rfl ?_ ?_))
  refine XC.cond _ rfl (fun h1 => ?_) (fun h1 => ?_)
  · have hkn : k < b.pols.length := by simpa using h1
    have hks : ∀ k, k ∈ [g3] → k < W.heap.size := fun k hk => by rw [List.mem_singleton.1 hk]; exact hg
    have hl1 : ((List.range k).map (firstF (l2.map (·.f)))).length + 1 ≤ 10000000 := by simp; omega
    have ha1 : ∀ x, x ∈ intK.sl (firstF (l2.map (·.f)) k) → x ∈ [hList floK ⟨A5, l2.length, c5⟩ l2] := fun x hx => by cases hx
    have hls : ListAt floK W (Free W w.heap.size [g3] _) ⟨A5, l2.length, c5⟩ l2 := hF.held (hList floK ⟨A5, l2.length, c5⟩ l2) (.head _)
    repeat (first | (refine M0 ?_; first | refine O0 ?_ | refine z1 tok rfl ?_ | refine O1 rfl ?_ rfl | refine O2 rfl ?_ | refine O3 rfl ?_ rfl | refine O4 rfl rfl rfl (fun _ _ => ?_) | refine O5 tok rfl rfl rfl (fun _ _ => ?_) | refine U0 _ (U2 rfl) rfl ?_ | refine U0 _ (U3 tok rfl rfl rfl rfl rfl) rfl ?_ | refine z3 tok rfl ?_ | refine U0 _ (U4 rfl rfl) rfl ?_ | refine U0 _ (U5 rfl rfl) rfl ?_) | (refine M1 ?_; first | refine J0 ?_ | refine J1 ?_ | refine J2 mixed rfl (by kernel_rfl) ?_ | refine J3 mixed rfl rfl (by kernel_rfl) ?_ | refine J4 ?_ | refine J5 ?_ | refine J6 ?_ | refine J7 ?_ | refine J8 rfl ?_ | refine J9 rfl ?_) | (refine M2 ?_; first | refine I0 ?_ | refine I1 ?_ | refine I2 ?_ | refine I3 ?_ | refine I4 ?_ | refine I5 ?_ | refine I6 rfl ?_ | refine I7 ?_ | refine I8 ?_ | refine z4 ?_) | (refine M3 ?_; first | refine O6 ?_ | refine z2 tok rfl ?_ | refine O8 rfl ?_ | refine O7 rfl ?_ rfl | refine O9 rfl ?_ rfl | refine U1 _ (U4 rfl rfl) rfl ?_ | refine U1 _ (U5 rfl rfl) rfl ?_ | refine U1 _ (U2 rfl) rfl ?_ | refine U1 _ (U3 tok rfl rfl rfl rfl rfl) rfl ?_) | (refine M4 ?_; first | refine M6 ?_ | refine U6 rfl (by kernel_rfl) ?_ | refine U7 (by kernel_rfl) ?_) | (refine M5 ?_; first | exact M7 | refine U8 rfl ?_ | refine U9 rfl rfl ?_ ?_))
    refine XC.loopk [3, 9, 11, 12] rfl (fun s' : Nat × Int × Int => [(13, .int .i64 s'.2.1), (14, .int .i64 s'.2.2)]) (fun _ => [(g3, cel 25 [.slice A n c, .int .i64 b.leak, .int .i64 b.crest, .int .i64 b.over, .slice A2 b.pols.length c2])]) (fun _ => W)
      (fun s' => s'.1 ≤ l2.length ∧ s'.2.1 = firstG (l2.map (·.f)) k (l2.length - s'.1) ∧ s'.2.2 = (l2.length : Int) - 1 - (s'.1 : Nat)) (fun s' => l2.length - s'.1) (0, -1, (l2.length : Int) - 1) ⟨Nat.zero_le _, by have := firstG_len (l2.map (·.f)) k; rw [List.length_map] at this; simp only [Nat.sub_zero]; exact this.symm, by simp⟩ (by repeat (first | exact Sub.nil | refine Sub.cons rfl ?_)) (fun _ h => h) ?_
    rintro ⟨j, x, y⟩ ⟨hj, hx, hy⟩
    simp only at hj hx hy
    dsimp only [List.cons_append, List.nil_append]
    repeat (first | (refine M0 ?_; first | refine O0 ?_ | refine z1 tok rfl ?_ | refine O1 rfl ?_ rfl | refine O2 rfl ?_ | refine O3 rfl ?_ rfl | refine O4 rfl rfl rfl (fun _ _ => ?_) | refine O5 tok rfl rfl rfl (fun _ _ => ?_) | refine U0 _ (U2 rfl) rfl ?_ | refine U0 _ (U3 tok rfl rfl rfl rfl rfl) rfl ?_ | refine z3 tok rfl ?_ | refine U0 _ (U4 rfl rfl) rfl ?_ | refine U0 _ (U5 rfl rfl) rfl ?_) | (refine M1 ?_; first | refine J0 ?_ | refine J1 ?_ | refine J2 mixed rfl (by kernel_rfl) ?_ | refine J3 mixed rfl rfl (by kernel_rfl) ?_ | refine J4 ?_ | refine J5 ?_ | refine J6 ?_ | refine J7 ?_ | refine J8 rfl ?_ | refine J9 rfl ?_) | (refine M2 ?_; first | refine I0 ?_ | refine I1 ?_ | refine I2 ?_ | refine I3 ?_ | refine I4 ?_ | refine I5 ?_ | refine I6 rfl ?_ | refine I7 ?_ | refine I8 ?_ | refine z4 ?_) | (refine M3 ?_; first | refine O6 ?_ | refine z2 tok rfl ?_ | refine O8 rfl ?_ | refine O7 rfl ?_ rfl | refine O9 rfl ?_ rfl | refine U1 _ (U4 rfl rfl) rfl ?_ | refine U1 _ (U5 rfl rfl) rfl ?_ | refine U1 _ (U2 rfl) rfl ?_ | refine U1 _ (U3 tok rfl rfl rfl rfl rfl) rfl ?_) | (refine M4 ?_; first | refine M6 ?_ | refine U6 rfl (by kernel_rfl) ?_ | refine U7 (by kernel_rfl) ?_) | (refine M5 ?_; first | exact M7 | refine U8 rfl ?_ | refine U9 rfl rfl ?_ ?_))
    refine XC.cond _ rfl (fun h2 => ?_) (fun h2 => ?_)
    · have hy0 : 0 ≤ y := by simpa using h2
      have hm : l2.length - 1 - j < l2.length := by omega
      obtain ⟨m, hmd⟩ : ∃ m : Nat, m = l2.length - 1 - j := ⟨_, rfl⟩
      rw [← hmd] at hm
      obtain rfl : y = ((m : Nat) : Int) := by omega
      obtain ⟨ad, rfl, hfr⟩ := hls.addr (by decide) (by omega)
      have hcell := hls.elem (List.getElem?_eq_getElem hm) 4 (.slice l2[m].r.A l2[m].r.n l2[m].r.c) rfl
      have i2 : IntsAt W (Free W w.heap.size [g3] _) l2[m].r l2[m].f.taken := hls.ins _ (List.getElem_mem hm) (hInts _ _) (.head _)
      have hmem : l2[m].f ∈ runF b s ts := by rw [← e2]; exact List.mem_map.2 ⟨_, List.getElem_mem hm, rfl⟩
      have htl := flo_len hmem
      have hn7 := i2.len
      rw [htl] at hn7
      obtain ⟨ad7, hA7, hfr7, hcells7⟩ := i2.rd.at_ (by omega)
      have hcell7 : W.cell? (ad7.add (k * 1)) = some (.int .i64 (l2[m].f.t k)) := (congrArg (fun x => W.cell? (ad7.add x)) (Nat.mul_one k)).trans (hcells7 k (.int .i64 (l2[m].f.t k)) (by
        unfold Flo.t ints
        have : k < l2[m].f.taken.length := by omega
        rw [List.getElem?_map, List.getElem?_eq_getElem this]; rfl))
      rw [hA7, hn7] at hcell
      have hfm : (l2.map (·.f))[m]'(by simpa using hm) = l2[m].f := by simp
      have hML : m < (l2.map (·.f)).length := by simpa using hm
      have hm1 : l2.length - j = m + 1 := by omega
      have hm2 : l2.length - (j + 1) = m := by omega
      rw [hm1] at hx
      repeat (first | (refine M0 ?_; first | refine O0 ?_ | refine z1 tok rfl ?_ | refine O1 rfl ?_ rfl | refine O2 rfl ?_ | refine O3 rfl ?_ rfl | refine U0 _ (Ev.load_far tok rfl rfl (add_lt2 hfr.2.1) (fun e he => by rw [add_block, add_block]; exact hfr.ne (fun e he => by rw [List.mem_singleton.1 he]; exact .head _) e he) hcell) rfl ?_ | refine U0 _ (Ev.load_far tok rfl rfl (add_lt hfr7.2.1) (fun e he => by rw [add_block]; exact hfr7.ne (fun e he => by rw [List.mem_singleton.1 he]; exact .head _) e he) hcell7) rfl ?_ | refine O4 rfl rfl rfl (fun _ _ => ?_) | refine O5 tok rfl rfl rfl (fun _ _ => ?_) | refine U0 _ (U2 rfl) rfl ?_ | refine U0 _ (U3 tok rfl rfl rfl rfl rfl) rfl ?_ | refine z3 tok rfl ?_ | refine U0 _ (U4 rfl rfl) rfl ?_ | refine U0 _ (U5 rfl rfl) rfl ?_) | (refine M1 ?_; first | refine J0 ?_ | refine J1 ?_ | refine J2 mixed rfl (by kernel_rfl) ?_ | refine J3 mixed rfl rfl (by kernel_rfl) ?_ | refine J4 ?_ | refine J5 ?_ | refine J6 ?_ | refine J7 ?_ | refine J8 rfl ?_ | refine J9 rfl ?_) | (refine M2 ?_; first | refine I0 ?_ | refine I1 ?_ | refine I2 ?_ | refine I3 ?_ | refine I4 ?_ | refine I5 ?_ | refine I6 rfl ?_ | refine I7 ?_ | refine I8 ?_ | refine z4 ?_) | (refine M3 ?_; first | refine O6 ?_ | refine z2 tok rfl ?_ | refine O8 rfl ?_ | refine O7 rfl ?_ rfl | refine O9 rfl ?_ rfl | refine U1 _ (Ev.load_far tok rfl rfl (add_lt2 hfr.2.1) (fun e he => by rw [add_block, add_block]; exact hfr.ne (fun e he => by rw [List.mem_singleton.1 he]; exact .head _) e he) hcell) rfl ?_ | refine U1 _ (Ev.load_far tok rfl rfl (add_lt hfr7.2.1) (fun e he => by rw [add_block]; exact hfr7.ne (fun e he => by rw [List.mem_singleton.1 he]; exact .head _) e he) hcell7) rfl ?_ | refine U1 _ (U4 rfl rfl) rfl ?_ | refine U1 _ (U5 rfl rfl) rfl ?_ | refine U1 _ (U2 rfl) rfl ?_ | refine U1 _ (U3 tok rfl rfl rfl rfl rfl) rfl ?_) | (refine M4 ?_; first | refine M6 ?_ | refine U6 rfl (by kernel_rfl) ?_ | refine U7 (by kernel_rfl) ?_) | (refine M5 ?_; first | exact M7 | refine U8 rfl ?_ | refine U9 rfl rfl ?_ ?_))
      refine XC.cond _ rfl (fun h3 => ?_) (fun h3 => ?_)
      · have h4 : 0 < ((l2.map fun a : FloI => a.f)[m]'hML).t k := by rw [hfm]; simpa using h3
        repeat (first | (refine M0 ?_; first | refine O0 ?_ | refine z1 tok rfl ?_ | refine O1 rfl ?_ rfl | refine O2 rfl ?_ | refine O3 rfl ?_ rfl | refine O4 rfl rfl rfl (fun _ _ => ?_) | refine O5 tok rfl rfl rfl (fun _ _ => ?_) | refine U0 _ (U2 rfl) rfl ?_ | refine U0 _ (U3 tok rfl rfl rfl rfl rfl) rfl ?_ | refine z3 tok rfl ?_ | refine U0 _ (U4 rfl rfl) rfl ?_ | refine U0 _ (U5 rfl rfl) rfl ?_) | (refine M1 ?_; first | refine J0 ?_ | refine J1 ?_ | refine J2 mixed rfl (by kernel_rfl) ?_ | refine J3 mixed rfl rfl (by kernel_rfl) ?_ | refine J4 ?_ | refine J5 ?_ | refine J6 ?_ | refine J7 ?_ | refine J8 rfl ?_ | refine J9 rfl ?_) | (refine M2 ?_; first | refine I0 ?_ | refine I1 ?_ | refine I2 ?_ | refine I3 ?_ | refine I4 ?_ | refine I5 ?_ | refine I6 rfl ?_ | refine I7 ?_ | refine I8 ?_ | refine z4 ?_) | (refine M3 ?_; first | refine O6 ?_ | refine z2 tok rfl ?_ | refine O8 rfl ?_ | refine O7 rfl ?_ rfl | refine O9 rfl ?_ rfl | refine U1 _ (U4 rfl rfl) rfl ?_ | refine U1 _ (U5 rfl rfl) rfl ?_ | refine U1 _ (U2 rfl) rfl ?_ | refine U1 _ (U3 tok rfl rfl rfl rfl rfl) rfl ?_) | (refine M4 ?_; first | refine M6 ?_ | refine U6 rfl (by kernel_rfl) ?_ | refine U7 (by kernel_rfl) ?_) | (refine M5 ?_; first | exact M7 | refine U8 rfl ?_ | refine U9 rfl rfl ?_ ?_))
        refine XE.round (s := (j, x, (m : Int))) (j + 1, (m : Int), (m : Int) - 1) ⟨by simp only; omega, ?_, ?_⟩ (by simp only; omega) (by repeat (first | exact Sub.nil | refine Sub.cons rfl ?_)) (fun _ h => h)
        · simp only [hm2]; exact (firstG_y hML h4).symm
        · simp only; omega
      · have h4 : ¬ 0 < ((l2.map fun a : FloI => a.f)[m]'hML).t k := by rw [hfm]; simpa using h3
        repeat (first | (refine M0 ?_; first | refine O0 ?_ | refine z1 tok rfl ?_ | refine O1 rfl ?_ rfl | refine O2 rfl ?_ | refine O3 rfl ?_ rfl | refine O4 rfl rfl rfl (fun _ _ => ?_) | refine O5 tok rfl rfl rfl (fun _ _ => ?_) | refine U0 _ (U2 rfl) rfl ?_ | refine U0 _ (U3 tok rfl rfl rfl rfl rfl) rfl ?_ | refine z3 tok rfl ?_ | refine U0 _ (U4 rfl rfl) rfl ?_ | refine U0 _ (U5 rfl rfl) rfl ?_) | (refine M1 ?_; first | refine J0 ?_ | refine J1 ?_ | refine J2 mixed rfl (by kernel_rfl) ?_ | refine J3 mixed rfl rfl (by kernel_rfl) ?_ | refine J4 ?_ | refine J5 ?_ | refine J6 ?_ | refine J7 ?_ | refine J8 rfl ?_ | refine J9 rfl ?_) | (refine M2 ?_; first | refine I0 ?_ | refine I1 ?_ | refine I2 ?_ | refine I3 ?_ | refine I4 ?_ | refine I5 ?_ | refine I6 rfl ?_ | refine I7 ?_ | refine I8 ?_ | refine z4 ?_) | (refine M3 ?_; first | refine O6 ?_ | refine z2 tok rfl ?_ | refine O8 rfl ?_ | refine O7 rfl ?_ rfl | refine O9 rfl ?_ rfl | refine U1 _ (U4 rfl rfl) rfl ?_ | refine U1 _ (U5 rfl rfl) rfl ?_ | refine U1 _ (U2 rfl) rfl ?_ | refine U1 _ (U3 tok rfl rfl rfl rfl rfl) rfl ?_) | (refine M4 ?_; first | refine M6 ?_ | refine U6 rfl (by kernel_rfl) ?_ | refine U7 (by kernel_rfl) ?_) | (refine M5 ?_; first | exact M7 | refine U8 rfl ?_ | refine U9 rfl rfl ?_ ?_))
        refine XE.round (s := (j, x, (m : Int))) (j + 1, x, (m : Int) - 1) ⟨by simp only; omega, ?_, ?_⟩ (by simp only; omega) (by repeat (first | exact Sub.nil | refine Sub.cons rfl ?_)) (fun _ h => h)
        · simp only [hm2]; rw [hx]; exact (firstG_n hML h4).symm
        · simp only; omega
    · have hjl : l2.length - j = 0 := by
        have : ¬ 0 ≤ y := by simpa using h2
        omega
      rw [hjl, firstG_0] at hx
      subst hx
      repeat (first | (refine M0 ?_; first | refine O0 ?_ | refine z1 tok rfl ?_ | refine O1 rfl ?_ rfl | refine O2 rfl ?_ | refine O3 rfl ?_ rfl | refine O4 rfl rfl rfl (fun _ _ => ?_) | refine O5 tok rfl rfl rfl (fun _ _ => ?_) | refine U0 _ (U2 rfl) rfl ?_ | refine U0 _ (U3 tok rfl rfl rfl rfl rfl) rfl ?_ | refine z3 tok rfl ?_ | refine U0 _ (U4 rfl rfl) rfl ?_ | refine U0 _ (U5 rfl rfl) rfl ?_ | refine XL.buildSlice tok rfl rfl rfl rfl rfl rfl rfl rfl rfl (fun _ _ => ?_) | (refine XL.at_push 26 ?_; refine XL.push (K := intK) (a := firstF (l2.map (·.f)) k) (wE := w) 0 intK_el (by decide) rfl rfl rfl (by assumption) rfl (by assumption) (by assumption) (Nat.le_refl _) rfl hl1 (by decide) ha1 (fun _ _ _ _ _ => ?_))) | (refine M1 ?_; first | refine J0 ?_ | refine J1 ?_ | refine J2 mixed rfl (by kernel_rfl) ?_ | refine J3 mixed rfl rfl (by kernel_rfl) ?_ | refine J4 ?_ | refine J5 ?_ | refine J6 ?_ | refine J7 ?_ | refine J8 rfl ?_ | refine J9 rfl ?_) | (refine M2 ?_; first | refine I0 ?_ | refine I1 ?_ | refine I2 ?_ | refine I3 ?_ | refine I4 ?_ | refine I5 ?_ | refine I6 rfl ?_ | refine I7 ?_ | refine I8 ?_ | refine z4 ?_) | (refine M3 ?_; first | refine O6 ?_ | refine z2 tok rfl ?_ | refine O8 rfl ?_ | refine O7 rfl ?_ rfl | refine O9 rfl ?_ rfl | refine U1 _ (U4 rfl rfl) rfl ?_ | refine U1 _ (U5 rfl rfl) rfl ?_ | refine U1 _ (U2 rfl) rfl ?_ | refine U1 _ (U3 tok rfl rfl rfl rfl rfl) rfl ?_) | (refine M4 ?_; first | refine M6 ?_ | refine U6 rfl (by kernel_rfl) ?_ | refine U7 (by kernel_rfl) ?_) | (refine M5 ?_; first | exact M7 | refine U8 rfl ?_ | refine U9 rfl rfl ?_ ?_))
      refine XE.roundW (s := (k, W, v)) (fun w6 S6 => ⟨(k + 1, w6, _), ⟨hkn, ?_, ?_, S6.keyLt g3 (by simp)⟩, by simp only; omega, (by repeat (first | exact Sub.nil | refine Sub.cons rfl ?_)), S6.rebase (by repeat (first | exact List.Sublist.refl _ | exact List.nil_sublist _ | refine List.Sublist.cons _ ?_))⟩)
      · rw [range_add]
        exact Fam.add (Fam.sys (by assumption) S6 (by intro e he; repeat (first | (cases he; done) | (rcases List.mem_cons.1 he with rfl | he; · first | (right; assumption) | (left; simp <;> fail))))) (by intro k hk; repeat (first | (cases hk; done) | (rcases List.mem_cons.1 hk with rfl | hk; · first | (right; assumption) | (left; simp <;> fail))))
      · exact Below.trans (by assumption) S6.toBelow
  · have hkn : k = b.pols.length := by have : ¬ (k < b.pols.length) := by simpa using h1
                                       omega
    subst hkn
    repeat (first | (refine M0 ?_; first | refine O0 ?_ | refine z1 tok rfl ?_ | refine O1 rfl ?_ rfl | refine O2 rfl ?_ | refine O3 rfl ?_ rfl | refine O4 rfl rfl rfl (fun _ _ => ?_) | refine O5 tok rfl rfl rfl (fun _ _ => ?_) | refine U0 _ (U2 rfl) rfl ?_ | refine U0 _ (U3 tok rfl rfl rfl rfl rfl) rfl ?_ | refine z3 tok rfl ?_ | refine U0 _ (U4 rfl rfl) rfl ?_ | refine U0 _ (U5 rfl rfl) rfl ?_) | (refine M1 ?_; first | refine J0 ?_ | refine J1 ?_ | refine J2 mixed rfl (by kernel_rfl) ?_ | refine J3 mixed rfl rfl (by kernel_rfl) ?_ | refine J4 ?_ | refine J5 ?_ | refine J6 ?_ | refine J7 ?_ | refine J8 rfl ?_ | refine J9 rfl ?_) | (refine M2 ?_; first | refine I0 ?_ | refine I1 ?_ | refine I2 ?_ | refine I3 ?_ | refine I4 ?_ | refine I5 ?_ | refine I6 rfl ?_ | refine I7 ?_ | refine I8 ?_ | refine z4 ?_) | (refine M3 ?_; first | refine O6 ?_ | refine z2 tok rfl ?_ | refine O8 rfl ?_ | refine O7 rfl ?_ rfl | refine O9 rfl ?_ rfl | refine U1 _ (U4 rfl rfl) rfl ?_ | refine U1 _ (U5 rfl rfl) rfl ?_ | refine U1 _ (U2 rfl) rfl ?_ | refine U1 _ (U3 tok rfl rfl rfl rfl rfl) rfl ?_) | (refine M4 ?_; first | refine M6 ?_ | refine U6 rfl (by kernel_rfl) ?_ | refine U7 (by kernel_rfl) ?_) | (refine M5 ?_; first | exact M7 | refine U8 rfl ?_ | refine U9 rfl rfl ?_ ?_))
    refine XE.retg tok Tryd.results30 rfl (by simp only [and_self, and_true]) (fun w' S => ?_)
    have hF6 := hF.sys S (by intro e he; repeat (first | (cases he; done) | (rcases List.mem_cons.1 he with rfl | he; · first | (right; assumption) | (left; simp <;> fail))))
    obtain ⟨r1, rfl, h5⟩ := hF6.list (.head _)
    exact FloodV.made (r := r1) (by rw [hE]; rfl) (by rw [floods_0 hE, ← e2]; exact h5.ints) (hBW.trans S.toBelow)
/-- a case. -/
structure CV where
  q : SV
  r : SV
structure Cas where
  s : Sta
  ts : List Tick
  lim : Int
def caseC (x : CV) (c : Cas) : List Value := [.int .i64 c.s.vol, .slice x.q.A x.q.n x.q.c, .slice x.r.A x.r.n x.r.c, .int .i64 c.lim]
def caseV (x : CV) (c : Cas) : Value := .agg ⟨caseC x c⟩
structure CaseAt (w : World) (ok : Nat → Prop) (x : CV) (c : Cas) : Prop where
  fil : IntsAt w ok x.q c.s.fil
  tks : TksAt w ok x.r c.ts
set_option maxHeartbeats 8000000 in
theorem BasinStays_any {p : BV} {b : Bas} {x : CV} {c : Cas} {w : World} (hL : Laid w) (hb : BasAt w w.heap.size p b) (hc : CaseAt w (Lt w.heap.size) x c) :
    Calls Tryd.prog 6 #[basV p b, caseV x c] w fun e w' => e = .returned (.bool true) ∧ Below w.heap.size w w' := by
  obtain ⟨q, r⟩ := x
  obtain ⟨s, ts, lim⟩ := c
  obtain ⟨hq, ht⟩ := hc
  simp only at hq ht
  simp only [basV, basC, caseV, caseC]
  refine enter Tryd.func6 rfl Tryd.ntmps6 rfl ?_; simp only [frame, Nat.zero_add, Nat.reduceAdd]
  repeat (first | (refine M0 ?_; first | refine O0 ?_ | refine z1 tok rfl ?_ | refine O1 rfl ?_ rfl | refine O2 rfl ?_ | refine O3 rfl ?_ rfl | refine U0 _ (Ev.call (f := 27) (ck rfl) rfl (fun w S => (Stay_any (p := p) (q := q) (r := r) (s := s) (ts := ts) (lim := lim) (hL.below S.toBelow) (hb.sys S) (hq.arg S) (ht.arg S) :))) rfl ?_ | refine U0 _ (Ev.call (f := 28) (ck rfl) rfl (fun w S => (refStay_any (p := p) (q := q) (r := r) (s := s) (ts := ts) (lim := lim) (hb.sys S) (hq.arg S) (ht.arg S) :))) rfl ?_ | refine O4 rfl rfl rfl (fun _ _ => ?_) | refine O5 tok rfl rfl rfl (fun _ _ => ?_) | refine U0 _ (U2 rfl) rfl ?_ | refine U0 _ (U3 tok rfl rfl rfl rfl rfl) rfl ?_ | refine z3 tok rfl ?_ | refine U0 _ (U4 rfl rfl) rfl ?_ | refine U0 _ (U5 rfl rfl) rfl ?_) | (refine M1 ?_; first | refine J0 ?_ | refine J1 ?_ | refine J2 mixed rfl (by kernel_rfl) ?_ | refine J3 mixed rfl rfl (by kernel_rfl) ?_ | refine J4 ?_ | refine J5 ?_ | refine J6 ?_ | refine J7 ?_ | refine J8 rfl ?_ | refine J9 rfl ?_) | (refine M2 ?_; first | refine I0 ?_ | refine I1 ?_ | refine I2 ?_ | refine I3 ?_ | refine I4 ?_ | refine I5 ?_ | refine I6 rfl ?_ | refine I7 ?_ | refine I8 ?_ | refine z4 ?_) | (refine M3 ?_; first | refine O6 ?_ | refine z2 tok rfl ?_ | refine O8 rfl ?_ | refine O7 rfl ?_ rfl | refine O9 rfl ?_ rfl | refine U1 _ (Ev.call (f := 27) (ck rfl) rfl (fun w S => (Stay_any (p := p) (q := q) (r := r) (s := s) (ts := ts) (lim := lim) (hL.below S.toBelow) (hb.sys S) (hq.arg S) (ht.arg S) :))) rfl ?_ | refine U1 _ (Ev.call (f := 28) (ck rfl) rfl (fun w S => (refStay_any (p := p) (q := q) (r := r) (s := s) (ts := ts) (lim := lim) (hb.sys S) (hq.arg S) (ht.arg S) :))) rfl ?_ | refine U1 _ (U4 rfl rfl) rfl ?_ | refine U1 _ (U5 rfl rfl) rfl ?_ | refine U1 _ (U2 rfl) rfl ?_ | refine U1 _ (U3 tok rfl rfl rfl rfl rfl) rfl ?_) | (refine M4 ?_; first | refine M6 ?_ | refine U6 rfl (by kernel_rfl) ?_ | refine U7 (by kernel_rfl) ?_) | (refine M5 ?_; first | exact M7 | refine U8 rfl ?_ | refine U9 rfl rfl ?_ ?_))
  refine XL.split _ _ rfl (fun h => absurd h (by simp)) (fun h => ?_)
  rw [h]
  repeat (first | (refine M0 ?_; first | refine O0 ?_ | refine z1 tok rfl ?_ | refine O1 rfl ?_ rfl | refine O2 rfl ?_ | refine O3 rfl ?_ rfl | refine O4 rfl rfl rfl (fun _ _ => ?_) | refine O5 tok rfl rfl rfl (fun _ _ => ?_) | refine U0 _ (U2 rfl) rfl ?_ | refine U0 _ (U3 tok rfl rfl rfl rfl rfl) rfl ?_ | refine z3 tok rfl ?_ | refine U0 _ (U4 rfl rfl) rfl ?_ | refine U0 _ (U5 rfl rfl) rfl ?_) | (refine M1 ?_; first | refine J0 ?_ | refine J1 ?_ | refine J2 mixed rfl (by kernel_rfl) ?_ | refine J3 mixed rfl rfl (by kernel_rfl) ?_ | refine J4 ?_ | refine J5 ?_ | refine J6 ?_ | refine J7 ?_ | refine J8 rfl ?_ | refine J9 rfl ?_) | (refine M2 ?_; first | refine I0 ?_ | refine I1 ?_ | refine I2 ?_ | refine I3 ?_ | refine I4 ?_ | refine I5 ?_ | refine I6 rfl ?_ | refine I7 ?_ | refine I8 ?_ | refine z4 ?_) | (refine M3 ?_; first | refine O6 ?_ | refine z2 tok rfl ?_ | refine O8 rfl ?_ | refine O7 rfl ?_ rfl | refine O9 rfl ?_ rfl | refine U1 _ (U4 rfl rfl) rfl ?_ | refine U1 _ (U5 rfl rfl) rfl ?_ | refine U1 _ (U2 rfl) rfl ?_ | refine U1 _ (U3 tok rfl rfl rfl rfl rfl) rfl ?_) | (refine M4 ?_; first | refine M6 ?_ | refine U6 rfl (by kernel_rfl) ?_ | refine U7 (by kernel_rfl) ?_) | (refine M5 ?_; first | exact M7 | refine U8 rfl ?_ | refine U9 rfl rfl ?_ ?_))
  refine XC.cond _ rfl (fun h => absurd h (by simp)) (fun h => ?_)
  repeat (first | (refine M0 ?_; first | refine O0 ?_ | refine z1 tok rfl ?_ | refine O1 rfl ?_ rfl | refine O2 rfl ?_ | refine O3 rfl ?_ rfl | refine O4 rfl rfl rfl (fun _ _ => ?_) | refine O5 tok rfl rfl rfl (fun _ _ => ?_) | refine U0 _ (U2 rfl) rfl ?_ | refine U0 _ (U3 tok rfl rfl rfl rfl rfl) rfl ?_ | refine z3 tok rfl ?_ | refine U0 _ (U4 rfl rfl) rfl ?_ | refine U0 _ (U5 rfl rfl) rfl ?_) | (refine M1 ?_; first | refine J0 ?_ | refine J1 ?_ | refine J2 mixed rfl (by kernel_rfl) ?_ | refine J3 mixed rfl rfl (by kernel_rfl) ?_ | refine J4 ?_ | refine J5 ?_ | refine J6 ?_ | refine J7 ?_ | refine J8 rfl ?_ | refine J9 rfl ?_) | (refine M2 ?_; first | refine I0 ?_ | refine I1 ?_ | refine I2 ?_ | refine I3 ?_ | refine I4 ?_ | refine I5 ?_ | refine I6 rfl ?_ | refine I7 ?_ | refine I8 ?_ | refine z4 ?_) | (refine M3 ?_; first | refine O6 ?_ | refine z2 tok rfl ?_ | refine O8 rfl ?_ | refine O7 rfl ?_ rfl | refine O9 rfl ?_ rfl | refine U1 _ (U4 rfl rfl) rfl ?_ | refine U1 _ (U5 rfl rfl) rfl ?_ | refine U1 _ (U2 rfl) rfl ?_ | refine U1 _ (U3 tok rfl rfl rfl rfl rfl) rfl ?_) | (refine M4 ?_; first | refine M6 ?_ | refine U6 rfl (by kernel_rfl) ?_ | refine U7 (by kernel_rfl) ?_) | (refine M5 ?_; first | exact M7 | refine U8 rfl ?_ | refine U9 rfl rfl ?_ ?_))
  refine XL.callF (FloodV b s ts) (ck rfl) rfl rfl (Fam.start (ks := []) (Nat.le_refl w.heap.size)) (fun _ h => by cases h) (Below.refl w.heap.size w) (fun w1 S1 _ _ => Floods_any (p := p) (q := q) (r := r) (hL.below S1.toBelow) (hb.sys S1) (hq.arg S1) (ht.arg S1)) (fun w2 v new hR hF2 hB2 hk2 => ?_)
  obtain ⟨r1, rfl, rfl⟩ := hR
  simp only [svV]
  repeat (first | (refine M0 ?_; first | refine O0 ?_ | refine z1 tok rfl ?_ | refine O1 rfl ?_ rfl | refine O2 rfl ?_ | refine O3 rfl ?_ rfl | refine O4 rfl rfl rfl (fun _ _ => ?_) | refine O5 tok rfl rfl rfl (fun _ _ => ?_) | refine U0 _ (U2 rfl) rfl ?_ | refine U0 _ (U3 tok rfl rfl rfl rfl rfl) rfl ?_ | refine z3 tok rfl ?_ | refine U0 _ (U4 rfl rfl) rfl ?_ | refine U0 _ (U5 rfl rfl) rfl ?_) | (refine M1 ?_; first | refine J0 ?_ | refine J1 ?_ | refine J2 mixed rfl (by kernel_rfl) ?_ | refine J3 mixed rfl rfl (by kernel_rfl) ?_ | refine J4 ?_ | refine J5 ?_ | refine J6 ?_ | refine J7 ?_ | refine J8 rfl ?_ | refine J9 rfl ?_) | (refine M2 ?_; first | refine I0 ?_ | refine I1 ?_ | refine I2 ?_ | refine I3 ?_ | refine I4 ?_ | refine I5 ?_ | refine I6 rfl ?_ | refine I7 ?_ | refine I8 ?_ | refine z4 ?_) | (refine M3 ?_; first | refine O6 ?_ | refine z2 tok rfl ?_ | refine O8 rfl ?_ | refine O7 rfl ?_ rfl | refine O9 rfl ?_ rfl | refine U1 _ (U4 rfl rfl) rfl ?_ | refine U1 _ (U5 rfl rfl) rfl ?_ | refine U1 _ (U2 rfl) rfl ?_ | refine U1 _ (U3 tok rfl rfl rfl rfl rfl) rfl ?_) | (refine M4 ?_; first | refine M6 ?_ | refine U6 rfl (by kernel_rfl) ?_ | refine U7 (by kernel_rfl) ?_) | (refine M5 ?_; first | exact M7 | refine U8 rfl ?_ | refine U9 rfl rfl ?_ ?_))
  refine XL.callF (FloodV b s ts) (ck rfl) rfl rfl hF2 hk2 hB2 (fun w1 S1 _ _ => refFloods_any (p := p) (q := q) (r := r) ((hb.below hB2).sys S1) ((hq.below hB2).arg S1) ((ht.below hB2).arg S1)) (fun w4 v new hR hF4 hB4 hk4 => ?_)
  obtain ⟨r3, rfl, rfl⟩ := hR
  simp only [svV]
  repeat (first | (refine M0 ?_; first | refine O0 ?_ | refine z1 tok rfl ?_ | refine O1 rfl ?_ rfl | refine O2 rfl ?_ | refine O3 rfl ?_ rfl | refine U0 _ (Ev.call (f := 31) (ck rfl) rfl (fun w5 S5 => (intsEq_any (q := r1) (r := r3) (l := floods b s ts) (m := floods b s ts) (Held.lt (x := hInts r1 (floods b s ts)) ((hF4.sys S5 (by intro e he; repeat (first | (cases he; done) | (rcases List.mem_cons.1 he with rfl | he; · first | (right; assumption) | (left; simp <;> fail))))).get (.tail _ (.head _)))) (Held.lt (x := hInts r3 (floods b s ts)) ((hF4.sys S5 (by intro e he; repeat (first | (cases he; done) | (rcases List.mem_cons.1 he with rfl | he; · first | (right; assumption) | (left; simp <;> fail))))).get (.head _))) :))) rfl ?_ | refine O4 rfl rfl rfl (fun _ _ => ?_) | refine O5 tok rfl rfl rfl (fun _ _ => ?_) | refine U0 _ (U2 rfl) rfl ?_ | refine U0 _ (U3 tok rfl rfl rfl rfl rfl) rfl ?_ | refine z3 tok rfl ?_ | refine U0 _ (U4 rfl rfl) rfl ?_ | refine U0 _ (U5 rfl rfl) rfl ?_) | (refine M1 ?_; first | refine J0 ?_ | refine J1 ?_ | refine J2 mixed rfl (by kernel_rfl) ?_ | refine J3 mixed rfl rfl (by kernel_rfl) ?_ | refine J4 ?_ | refine J5 ?_ | refine J6 ?_ | refine J7 ?_ | refine J8 rfl ?_ | refine J9 rfl ?_) | (refine M2 ?_; first | refine I0 ?_ | refine I1 ?_ | refine I2 ?_ | refine I3 ?_ | refine I4 ?_ | refine I5 ?_ | refine I6 rfl ?_ | refine I7 ?_ | refine I8 ?_ | refine z4 ?_) | (refine M3 ?_; first | refine O6 ?_ | refine z2 tok rfl ?_ | refine O8 rfl ?_ | refine O7 rfl ?_ rfl | refine O9 rfl ?_ rfl | refine U1 _ (Ev.call (f := 31) (ck rfl) rfl (fun w5 S5 => (intsEq_any (q := r1) (r := r3) (l := floods b s ts) (m := floods b s ts) (Held.lt (x := hInts r1 (floods b s ts)) ((hF4.sys S5 (by intro e he; repeat (first | (cases he; done) | (rcases List.mem_cons.1 he with rfl | he; · first | (right; assumption) | (left; simp <;> fail))))).get (.tail _ (.head _)))) (Held.lt (x := hInts r3 (floods b s ts)) ((hF4.sys S5 (by intro e he; repeat (first | (cases he; done) | (rcases List.mem_cons.1 he with rfl | he; · first | (right; assumption) | (left; simp <;> fail))))).get (.head _))) :))) rfl ?_ | refine U1 _ (U4 rfl rfl) rfl ?_ | refine U1 _ (U5 rfl rfl) rfl ?_ | refine U1 _ (U2 rfl) rfl ?_ | refine U1 _ (U3 tok rfl rfl rfl rfl rfl) rfl ?_) | (refine M4 ?_; first | refine M6 ?_ | refine U6 rfl (by kernel_rfl) ?_ | refine U7 (by kernel_rfl) ?_) | (refine M5 ?_; first | exact M7 | refine U8 rfl ?_ | refine U9 rfl rfl ?_ ?_))
  rw [show decide (floods b s ts = floods b s ts) = true by simp]
  repeat (first | (refine M0 ?_; first | refine O0 ?_ | refine z1 tok rfl ?_ | refine O1 rfl ?_ rfl | refine O2 rfl ?_ | refine O3 rfl ?_ rfl | refine O4 rfl rfl rfl (fun _ _ => ?_) | refine O5 tok rfl rfl rfl (fun _ _ => ?_) | refine U0 _ (U2 rfl) rfl ?_ | refine U0 _ (U3 tok rfl rfl rfl rfl rfl) rfl ?_ | refine z3 tok rfl ?_ | refine U0 _ (U4 rfl rfl) rfl ?_ | refine U0 _ (U5 rfl rfl) rfl ?_) | (refine M1 ?_; first | refine J0 ?_ | refine J1 ?_ | refine J2 mixed rfl (by kernel_rfl) ?_ | refine J3 mixed rfl rfl (by kernel_rfl) ?_ | refine J4 ?_ | refine J5 ?_ | refine J6 ?_ | refine J7 ?_ | refine J8 rfl ?_ | refine J9 rfl ?_) | (refine M2 ?_; first | refine I0 ?_ | refine I1 ?_ | refine I2 ?_ | refine I3 ?_ | refine I4 ?_ | refine I5 ?_ | refine I6 rfl ?_ | refine I7 ?_ | refine I8 ?_ | refine z4 ?_) | (refine M3 ?_; first | refine O6 ?_ | refine z2 tok rfl ?_ | refine O8 rfl ?_ | refine O7 rfl ?_ rfl | refine O9 rfl ?_ rfl | refine U1 _ (U4 rfl rfl) rfl ?_ | refine U1 _ (U5 rfl rfl) rfl ?_ | refine U1 _ (U2 rfl) rfl ?_ | refine U1 _ (U3 tok rfl rfl rfl rfl rfl) rfl ?_) | (refine M4 ?_; first | refine M6 ?_ | refine U6 rfl (by kernel_rfl) ?_ | refine U7 (by kernel_rfl) ?_) | (refine M5 ?_; first | exact M7 | refine U8 rfl ?_ | refine U9 rfl rfl ?_ ?_))
  rw [show decide (runE b s ts = runE b s ts) = true by simp]
  repeat (first | (refine M0 ?_; first | refine O0 ?_ | refine z1 tok rfl ?_ | refine O1 rfl ?_ rfl | refine O2 rfl ?_ | refine O3 rfl ?_ rfl | refine U0 _ (Ev.call (f := 23) (ck rfl) rfl (fun w S => (Awake_any (hL.below (hB4.trans S.toBelow)) :))) rfl ?_ | refine O4 rfl rfl rfl (fun _ _ => ?_) | refine O5 tok rfl rfl rfl (fun _ _ => ?_) | refine U0 _ (U2 rfl) rfl ?_ | refine U0 _ (U3 tok rfl rfl rfl rfl rfl) rfl ?_ | refine z3 tok rfl ?_ | refine U0 _ (U4 rfl rfl) rfl ?_ | refine U0 _ (U5 rfl rfl) rfl ?_) | (refine M1 ?_; first | refine J0 ?_ | refine J1 ?_ | refine J2 mixed rfl (by kernel_rfl) ?_ | refine J3 mixed rfl rfl (by kernel_rfl) ?_ | refine J4 ?_ | refine J5 ?_ | refine J6 ?_ | refine J7 ?_ | refine J8 rfl ?_ | refine J9 rfl ?_) | (refine M2 ?_; first | refine I0 ?_ | refine I1 ?_ | refine I2 ?_ | refine I3 ?_ | refine I4 ?_ | refine I5 ?_ | refine I6 rfl ?_ | refine I7 ?_ | refine I8 ?_ | refine z4 ?_) | (refine M3 ?_; first | refine O6 ?_ | refine z2 tok rfl ?_ | refine O8 rfl ?_ | refine O7 rfl ?_ rfl | refine O9 rfl ?_ rfl | refine U1 _ (Ev.call (f := 23) (ck rfl) rfl (fun w S => (Awake_any (hL.below (hB4.trans S.toBelow)) :))) rfl ?_ | refine U1 _ (U4 rfl rfl) rfl ?_ | refine U1 _ (U5 rfl rfl) rfl ?_ | refine U1 _ (U2 rfl) rfl ?_ | refine U1 _ (U3 tok rfl rfl rfl rfl rfl) rfl ?_) | (refine M4 ?_; first | refine M6 ?_ | refine U6 rfl (by kernel_rfl) ?_ | refine U7 (by kernel_rfl) ?_) | (refine M5 ?_; first | exact M7 | refine U8 rfl ?_ | refine U9 rfl rfl ?_ ?_))
  refine XE.retg tok Tryd.results6 rfl (by simp only [and_self, and_true]) (fun w' S => ?_)
  exact ⟨rfl, hB4.trans S.toBelow⟩
end Go.Proofs.YtoiepgcjinccpaaDoor.X
/-
  The plain words of layer 4: levels of volumes and volumes of levels, and that both are in order.
-/
namespace Go.Proofs.YtoiepgcjinccpaaDoor.Bs
set_option linter.unusedVariables false
/-- the piece in which a level lies. -/
def lsegTo (b : Bas) (l : Int) : Nat → Nat
  | 0 => 0
  | k + 1 => if (b.row (k + 1)).level ≤ l then k + 1 else lsegTo b l k
def lseg (b : Bas) (l : Int) : Nat := lsegTo b l (b.rows.length - 2)
theorem lsegTo_spec {b : Bas} {v : Int} : ∀ (n : Nat), lsegTo b v n ≤ n ∧ (lsegTo b v n = 0 ∨ (b.row (lsegTo b v n)).level ≤ v) ∧ (∀ j, lsegTo b v n < j → j ≤ n → v < (b.row j).level) := by
  intro n
  induction n with
  | zero => exact ⟨by simp [lsegTo], .inl rfl, fun j h1 h2 => by omega⟩
  | succ n ih =>
    unfold lsegTo
    by_cases h : (b.row (n + 1)).level ≤ v
    · rw [if_pos h]; exact ⟨by omega, .inr h, fun j h1 h2 => by omega⟩
    · rw [if_neg h]
      refine ⟨by omega, ih.2.1, fun j h1 h2 => ?_⟩
      by_cases e : j = n + 1
      · subst e; omega
      · exact ih.2.2 j h1 (by omega)
theorem lsegTo_eq {b : Bas} {v : Int} {s : Nat} : ∀ {n : Nat}, s ≤ n → (s = 0 ∨ (b.row s).level ≤ v) → (∀ j, s < j → j ≤ n → v < (b.row j).level) → lsegTo b v n = s := by
  intro n
  induction n with
  | zero => intro h _ _; simp [lsegTo]; omega
  | succ n ih =>
    intro h h1 h2
    unfold lsegTo
    by_cases e : s = n + 1
    · have : (b.row (n + 1)).level ≤ v := by
        rcases h1 with h1 | h1
        · omega
        · rw [← e]; exact h1
      rw [if_pos this]; omega
    · have := h2 (n + 1) (by omega) (by omega)
      rw [if_neg (by omega)]
      exact ih (by omega) h1 fun j hj hjn => h2 j hj (by omega)
/-- the greatest volume whose level is at most l, as the program reckons it. -/
def volAt (b : Bas) (l : Int) : Int := (b.row (lseg b l)).vol + (l - (b.row (lseg b l)).level) * ((b.row (lseg b l + 1)).vol - (b.row (lseg b l)).vol) / ((b.row (lseg b l + 1)).level - (b.row (lseg b l)).level)
def volOf (b : Bas) (l : Int) : Int := min 1000000000 (volAt b l)
def levLo (b : Bas) (v : Int) : Int := num b v / den b v
def levHi (b : Bas) (v : Int) : Int := -((-(num b v)) / den b v)
section
variable {b : Bas} (h : RowsOk b)
include h
theorem lseg_spec {l : Int} (hl : (b.row 0).level ≤ l) : lseg b l + 1 < b.rows.length ∧ (b.row (lseg b l)).level ≤ l ∧ ∀ j, lseg b l < j → j + 1 < b.rows.length → l < (b.row j).level := by
  obtain ⟨h1, h2, h3⟩ := lsegTo_spec (b := b) (v := l) (b.rows.length - 2)
  have hn := h.n2
  unfold lseg
  refine ⟨by omega, ?_, fun j h4 h5 => h3 j h4 (by omega)⟩
  rcases h2 with h2 | h2
  · rw [h2]; exact hl
  · exact h2
theorem seg_spec {v : Int} (hv : (b.row 0).vol ≤ v) : seg b v + 1 < b.rows.length ∧ (b.row (seg b v)).vol ≤ v ∧ ∀ j, seg b v < j → j + 1 < b.rows.length → v < (b.row j).vol :=
  ⟨seg_lt h v, seg_vol hv, fun j h4 h5 => (segTo_spec (b := b) (v := v) (b.rows.length - 2)).2.2 j h4 (by omega)⟩
theorem rows_le {i j : Nat} (hij : i ≤ j) (hj : j < b.rows.length) : (b.row i).vol ≤ (b.row j).vol ∧ (b.row i).level ≤ (b.row j).level := by
  rcases Nat.eq_or_lt_of_le hij with rfl | h1
  · exact ⟨Int.le_refl _, Int.le_refl _⟩
  · have := h.lt h1 hj; omega
/-- THE LEVEL OF A VOLUME IS AT MOST l IF AND ONLY IF the volume is at most l's. -/
theorem under_iff {l v : Int} (hl : (b.row 0).level ≤ l) (hv : (b.row 0).vol ≤ v) : num b v ≤ l * den b v ↔ v ≤ volAt b l := by
  obtain ⟨i1, i2, i3⟩ := lseg_spec h hl
  obtain ⟨s1, s2, s3⟩ := seg_spec h hv
  unfold num den volAt
  generalize lseg b l = i at i1 i2 i3 ⊢
  generalize seg b v = s at s1 s2 s3 ⊢
  have ud := h.volUp i i1
  have uD := h.levelUp i i1
  have sd := h.volUp s s1
  have sD := h.levelUp s s1
  obtain ⟨d, hd⟩ : ∃ d, d = (b.row (i + 1)).vol - (b.row i).vol := ⟨_, rfl⟩
  obtain ⟨D, hD⟩ : ∃ D, D = (b.row (i + 1)).level - (b.row i).level := ⟨_, rfl⟩
  obtain ⟨d', hd'⟩ : ∃ d, d = (b.row (s + 1)).vol - (b.row s).vol := ⟨_, rfl⟩
  obtain ⟨D', hD'⟩ : ∃ D, D = (b.row (s + 1)).level - (b.row s).level := ⟨_, rfl⟩
  rw [← hd, ← hD, ← hd', ← hD']
  rcases Nat.lt_trichotomy s i with c | c | c
  · have e1 := rows_le h (show s + 1 ≤ i by omega) (by omega)
    have e2 := s3 (s + 1) (by omega) (by omega)
    have e3 : 0 ≤ (l - (b.row i).level) * d / D := Int.ediv_nonneg (Int.mul_nonneg (by omega) (by omega)) (by omega)
    refine ⟨fun _ => by omega, fun _ => ?_⟩
    have e4 : (v - (b.row s).vol) * D' ≤ d' * D' := Int.mul_le_mul_of_nonneg_right (by omega) (by omega)
    have e5 : ((b.row s).level + D') * d' ≤ l * d' := Int.mul_le_mul_of_nonneg_right (by omega) (by omega)
    have e6 : ((b.row s).level + D') * d' = (b.row s).level * d' + d' * D' := by rw [Int.add_mul, Int.mul_comm D' d']
    omega
  · subst c
    have e0 : d' = d := by omega
    have e00 : D' = D := by omega
    subst e0 e00
    have e1 := Int.le_ediv_iff_mul_le (a := v - (b.row s).vol) (b := (l - (b.row s).level) * d') (c := D') (by omega)
    have e2 : (l - (b.row s).level) * d' = l * d' - (b.row s).level * d' := Int.sub_mul _ _ _
    constructor
    · intro h1
      have := e1.2 (by omega)
      omega
    · intro h1
      have := e1.1 (by omega)
      omega
  · have e1 := rows_le h (show i + 1 ≤ s by omega) (by omega)
    have e2 := i3 (i + 1) (by omega) (by omega)
    have e3 : (l - (b.row i).level) * d / D < d := Int.ediv_lt_of_lt_mul (by omega) (by
      have : (l - (b.row i).level) * d < D * d := Int.mul_lt_mul_of_pos_right (by omega) (by omega)
      rw [Int.mul_comm d D]; exact this)
    refine ⟨fun h1 => ?_, fun h1 => by omega⟩
    have e4 : 0 ≤ (v - (b.row s).vol) * D' := Int.mul_nonneg (by omega) (by omega)
    have e5 : (l + 1) * d' ≤ (b.row s).level * d' := Int.mul_le_mul_of_nonneg_right (by omega) (by omega)
    have e6 : (l + 1) * d' = l * d' + d' := by rw [Int.add_mul, Int.one_mul]
    omega
theorem under_of {l v : Int} (hl : (b.row 0).level ≤ l) (hv : (b.row 0).vol ≤ v ∧ v ≤ 1000000000) : num b v ≤ l * den b v ↔ v ≤ volOf b l := by
  rw [under_iff h hl hv.1]
  unfold volOf; omega
theorem volAt_ge {l : Int} (hl : (b.row 0).level ≤ l) : (b.row 0).vol ≤ volAt b l := by
  obtain ⟨i1, i2, i3⟩ := lseg_spec h hl
  have ud := h.volUp _ i1
  have uD := h.levelUp _ i1
  have e1 := (rows_le h (Nat.zero_le (lseg b l)) (by omega)).1
  have e3 : 0 ≤ (l - (b.row (lseg b l)).level) * ((b.row (lseg b l + 1)).vol - (b.row (lseg b l)).vol) / ((b.row (lseg b l + 1)).level - (b.row (lseg b l)).level) := Int.ediv_nonneg (Int.mul_nonneg (by omega) (by omega)) (by omega)
  unfold volAt
  omega
theorem volOf_ge {l : Int} (hl : (b.row 0).level ≤ l) : (b.row 0).vol ≤ volOf b l ∧ volOf b l ≤ 1000000000 := by
  have h1 := volAt_ge h hl
  have h2 := h.vol 0 (by have := h.n2; omega)
  unfold volOf; omega
/-- what the search by halves comes to. -/
theorem most_eq {l low high : Int} (hl : (b.row 0).level ≤ l) (h0 : (b.row 0).vol ≤ low) (h1 : num b low ≤ l * den b low) (h2 : low < high) (h3 : high ≤ 1000000001) (h4 : high = 1000000001 ∨ l * den b high < num b high) (h5 : ¬ 1 < high - low) : low = volOf b l := by
  have e : high = low + 1 := by omega
  subst e
  have a1 := (under_of h hl ⟨h0, by omega⟩).1 h1
  have a2 := volOf_ge h hl
  rcases h4 with h4 | h4
  · omega
  · rcases Int.lt_or_le (low + 1) 1000000001 with h6 | h6
    · have := (under_of h hl (v := low + 1) ⟨by omega, by omega⟩)
      have : ¬ (low + 1 ≤ volOf b l) := fun h7 => by have := this.2 h7; omega
      omega
    · omega
theorem most_low {l : Int} (hl : (b.row 0).level ≤ l) : num b (b.row 0).vol ≤ l * den b (b.row 0).vol := by
  have := (under_iff h hl (v := (b.row 0).vol) (Int.le_refl _)).2 (volAt_ge h hl)
  exact this
/-- THE EXACT LEVEL IS IN ORDER. -/
theorem exact_mono {v v' : Int} (hv : (b.row 0).vol ≤ v) (hvv : v ≤ v') : num b v * den b v' ≤ num b v' * den b v := by
  obtain ⟨s1, s2, s3⟩ := seg_spec h hv
  obtain ⟨t1, t2, t3⟩ := seg_spec h (v := v') (by omega)
  have p1 := den_pos h v
  have p2 := den_pos h v'
  have hst : seg b v ≤ seg b v' := by
    rcases Nat.lt_or_ge (seg b v') (seg b v) with c | c
    · have := t3 (seg b v) c s1; omega
    · exact c
  obtain ⟨s, hs⟩ : ∃ s, s = seg b v := ⟨_, rfl⟩
  obtain ⟨t, ht⟩ : ∃ s, s = seg b v' := ⟨_, rfl⟩
  have n1 : num b v = (b.row s).level * den b v + (v - (b.row s).vol) * ((b.row (s + 1)).level - (b.row s).level) := by rw [hs]; rfl
  have n2 : num b v' = (b.row t).level * den b v' + (v' - (b.row t).vol) * ((b.row (t + 1)).level - (b.row t).level) := by rw [ht]; rfl
  have q1 : den b v = (b.row (s + 1)).vol - (b.row s).vol := by rw [hs]; rfl
  rw [← hs] at s1 s2 s3 hst
  rw [← ht] at t1 t2 t3 hst
  have uD := h.levelUp s s1
  have uD' := h.levelUp t t1
  obtain ⟨d, hd⟩ : ∃ d, d = den b v := ⟨_, rfl⟩
  obtain ⟨d', hd'⟩ : ∃ d, d = den b v' := ⟨_, rfl⟩
  rw [← hd] at n1 q1 p1 ⊢
  rw [← hd'] at n2 p2 ⊢
  rcases Nat.eq_or_lt_of_le hst with c | c
  · have : d = d' := by rw [hd, hd']; unfold den; rw [← hs, ← ht, c]
    subst this
    rw [n1, n2, ← c]
    refine Int.mul_le_mul_of_nonneg_right ?_ (by omega)
    have : (v - (b.row s).vol) * ((b.row (s + 1)).level - (b.row s).level) ≤ (v' - (b.row s).vol) * ((b.row (s + 1)).level - (b.row s).level) := Int.mul_le_mul_of_nonneg_right (by omega) (by omega)
    omega
  · have e1 := rows_le h (show s + 1 ≤ t by omega) (by omega)
    have e2 := s3 (s + 1) (by omega) (by omega)
    have a1 : num b v ≤ (b.row (s + 1)).level * d := by
      have e4 : (v - (b.row s).vol) * ((b.row (s + 1)).level - (b.row s).level) ≤ d * ((b.row (s + 1)).level - (b.row s).level) := Int.mul_le_mul_of_nonneg_right (by omega) (by omega)
      have e6 : d * ((b.row (s + 1)).level - (b.row s).level) = (b.row (s + 1)).level * d - (b.row s).level * d := by rw [Int.mul_comm, Int.sub_mul]
      omega
    have a2 : (b.row t).level * d' ≤ num b v' := by
      have : 0 ≤ (v' - (b.row t).vol) * ((b.row (t + 1)).level - (b.row t).level) := Int.mul_nonneg (by omega) (by omega)
      omega
    have a3 : num b v * d' ≤ (b.row (s + 1)).level * d * d' := Int.mul_le_mul_of_nonneg_right a1 (by omega)
    have a4 : (b.row t).level * d' * d ≤ num b v' * d := Int.mul_le_mul_of_nonneg_right a2 (by omega)
    have a5 : (b.row (s + 1)).level * d * d' ≤ (b.row t).level * d' * d := by
      rw [Int.mul_assoc, Int.mul_assoc, Int.mul_comm d' d]
      exact Int.mul_le_mul_of_nonneg_right e1.2 (Int.mul_nonneg (by omega) (by omega))
    omega
theorem lo_mono {v v' : Int} (hv : (b.row 0).vol ≤ v) (hvv : v ≤ v') : levLo b v ≤ levLo b v' := by
  have p1 := den_pos h v
  have p2 := den_pos h v'
  have e := exact_mono h hv hvv
  unfold levLo
  rw [Int.le_ediv_iff_mul_le (by omega)]
  have e1 : num b v / den b v * den b v ≤ num b v := Int.ediv_mul_le _ (by omega)
  have e2 : num b v / den b v * den b v * den b v' ≤ num b v * den b v' := Int.mul_le_mul_of_nonneg_right e1 (by omega)
  have e3 : num b v / den b v * den b v' * den b v ≤ num b v' * den b v := by
    have : num b v / den b v * den b v' * den b v = num b v / den b v * den b v * den b v' := by rw [Int.mul_assoc, Int.mul_assoc, Int.mul_comm (den b v')]
    omega
  exact Int.le_of_mul_le_mul_right e3 (by omega)
theorem hi_mono {v v' : Int} (hv : (b.row 0).vol ≤ v) (hvv : v ≤ v') : levHi b v ≤ levHi b v' := by
  have p1 := den_pos h v
  have p2 := den_pos h v'
  have e := exact_mono h hv hvv
  unfold levHi
  have : (-(num b v')) / den b v' ≤ (-(num b v)) / den b v := by
    rw [Int.le_ediv_iff_mul_le (by omega)]
    have e1 : (-(num b v')) / den b v' * den b v' ≤ -(num b v') := Int.ediv_mul_le _ (by omega)
    have e2 : (-(num b v')) / den b v' * den b v' * den b v ≤ -(num b v') * den b v := Int.mul_le_mul_of_nonneg_right e1 (by omega)
    have e4 : -(num b v') * den b v = -(num b v' * den b v) := Int.neg_mul _ _
    have e5 : -(num b v) * den b v' = -(num b v * den b v') := Int.neg_mul _ _
    have e3 : (-(num b v')) / den b v' * den b v * den b v' ≤ -(num b v) * den b v' := by
      have : (-(num b v')) / den b v' * den b v * den b v' = (-(num b v')) / den b v' * den b v' * den b v := by rw [Int.mul_assoc, Int.mul_assoc, Int.mul_comm (den b v)]
      omega
    exact Int.le_of_mul_le_mul_right e3 (by omega)
  omega
theorem lo_hi (v : Int) : levLo b v ≤ levHi b v ∧ levHi b v ≤ levLo b v + 1 := by
  have p1 := den_pos h v
  have e1 := Int.ediv_mul_le (num b v) (b := den b v) (by omega)
  have e2 := Int.ediv_mul_le (-(num b v)) (b := den b v) (by omega)
  have e3 := Int.lt_ediv_add_one_mul_self (num b v) (b := den b v) (by omega)
  have e4 := Int.lt_ediv_add_one_mul_self (-(num b v)) (b := den b v) (by omega)
  unfold levLo levHi
  obtain ⟨x, hx⟩ : ∃ x, x = num b v / den b v := ⟨_, rfl⟩
  obtain ⟨y, hy⟩ : ∃ x, x = (-(num b v)) / den b v := ⟨_, rfl⟩
  rw [← hx] at e1 e3 ⊢
  rw [← hy] at e2 e4 ⊢
  have f1 : (x + 1) * den b v = x * den b v + den b v := by rw [Int.add_mul, Int.one_mul]
  have f2 : (y + 1) * den b v = y * den b v + den b v := by rw [Int.add_mul, Int.one_mul]
  have f3 : (x + y) * den b v = x * den b v + y * den b v := Int.add_mul _ _ _
  have g1 : x + y ≤ 0 := by
    refine Int.le_of_mul_le_mul_right (a := den b v) ?_ (by omega)
    omega
  have g2 : -2 < x + y := by
    refine Int.lt_of_mul_lt_mul_right (a := den b v) ?_ (by omega)
    omega
  omega
/-- the level of Hi is not below the volume's; that of Lo less 1 is. -/
theorem hi_ge {v : Int} : num b v ≤ levHi b v * den b v := by
  have p1 := den_pos h v
  have e2 := Int.ediv_mul_le (-(num b v)) (b := den b v) (by omega)
  unfold levHi
  have : -(-(num b v) / den b v) * den b v = -(-(num b v) / den b v * den b v) := Int.neg_mul _ _
  omega
theorem lo_lt {v : Int} : ¬ num b v ≤ (levLo b v - 1) * den b v := by
  have p1 := den_pos h v
  have e1 := Int.ediv_mul_le (num b v) (b := den b v) (by omega)
  unfold levLo
  have : (num b v / den b v - 1) * den b v = num b v / den b v * den b v - den b v := by rw [Int.sub_mul, Int.one_mul]
  omega
/-- a row's level is exact. -/
theorem row_exact {i : Nat} (hi : i < b.rows.length) : levLo b (b.row i).vol = (b.row i).level ∧ levHi b (b.row i).vol = (b.row i).level := by
  have p1 := den_pos h (b.row i).vol
  have hv := (rows_le h (Nat.zero_le i) hi).1
  obtain ⟨s1, s2, s3⟩ := seg_spec h hv
  have e : num b (b.row i).vol = (b.row i).level * den b (b.row i).vol := by
    obtain ⟨s, hs⟩ : ∃ s, s = seg b (b.row i).vol := ⟨_, rfl⟩
    have n1 : num b (b.row i).vol = (b.row s).level * den b (b.row i).vol + ((b.row i).vol - (b.row s).vol) * ((b.row (s + 1)).level - (b.row s).level) := by rw [hs]; rfl
    have q1 : den b (b.row i).vol = (b.row (s + 1)).vol - (b.row s).vol := by rw [hs]; rfl
    rw [← hs] at s1 s2 s3
    rcases Nat.lt_trichotomy s i with c | c | c
    · rcases Nat.lt_or_ge (i + 1) b.rows.length with c2 | c2
      · have := s3 i c c2; omega
      · have hsi : s + 1 = i := by
          rcases Nat.lt_or_ge (s + 1) i with c3 | c3
          · have h5 := s3 (s + 1) (by omega) (by omega)
            have h6 := (h.lt (i := s + 1) (j := i) c3 hi).1
            omega
          · omega
        subst hsi
        rw [n1, q1]
        grind
    · subst c
      rw [n1]
      grind
    · have := (h.lt (i := i) (j := s) c (by omega)).1; omega
  unfold levLo levHi
  rw [e]
  constructor
  · exact Int.mul_ediv_cancel _ (by omega)
  · rw [← Int.neg_mul, Int.mul_ediv_cancel _ (by omega)]; omega
end
end Go.Proofs.YtoiepgcjinccpaaDoor.Bs
/-
  The walks of Level and of Volume (both texts); the law BasinChecks.
-/
namespace Go.Proofs.YtoiepgcjinccpaaDoor.Bs
/-- what Level answers: the fault, and the least and greatest whole level. -/
noncomputable def lvlE (b : Bas) (v : Int) : Int := if chkE b ≠ 0 then chkE b else if outB v (b.row 0).vol 1000000000 = true then 7 else 0
noncomputable def lvlLo (b : Bas) (v : Int) : Int := if lvlE b v ≠ 0 then 0 else levLo b v
noncomputable def lvlHi (b : Bas) (v : Int) : Int := if lvlE b v ≠ 0 then 0 else levHi b v
theorem lvl_c {b : Bas} {v : Int} (h : chkE b ≠ 0) : lvlE b v = chkE b ∧ lvlLo b v = 0 ∧ lvlHi b v = 0 := by
  have : lvlE b v = chkE b := by unfold lvlE; rw [if_pos h]
  unfold lvlLo lvlHi
  rw [this, if_pos h, if_pos h]
  exact ⟨rfl, rfl, rfl⟩
theorem lvl_7 {b : Bas} {v : Int} (h : chkE b = 0) (h1 : outB v (b.row 0).vol 1000000000 = true) : lvlE b v = 7 ∧ lvlLo b v = 0 ∧ lvlHi b v = 0 := by
  have : lvlE b v = 7 := by unfold lvlE; rw [if_neg (by simp [h]), if_pos h1]
  unfold lvlLo lvlHi
  rw [this, if_pos (by decide), if_pos (by decide)]
  exact ⟨rfl, rfl, rfl⟩
theorem lvl_0 {b : Bas} {v : Int} (h : chkE b = 0) (h1 : outB v (b.row 0).vol 1000000000 = false) : lvlE b v = 0 ∧ lvlLo b v = levLo b v ∧ lvlHi b v = levHi b v := by
  have : lvlE b v = 0 := by unfold lvlE; rw [if_neg (by simp [h]), if_neg (by simp [h1])]
  unfold lvlLo lvlHi
  rw [this, if_neg (by decide), if_neg (by decide)]
  exact ⟨rfl, rfl, rfl⟩
theorem lvl_ok {b : Bas} {v : Int} (h : lvlE b v = 0) : chkE b = 0 ∧ outB v (b.row 0).vol 1000000000 = false ∧ lvlLo b v = levLo b v ∧ lvlHi b v = levHi b v := by
  by_cases h0 : chkE b = 0
  · cases h1 : outB v (b.row 0).vol 1000000000 with
    | true => rw [(lvl_7 h0 h1).1] at h; cases h
    | false => exact ⟨h0, rfl, (lvl_0 h0 h1).2⟩
  · rw [(lvl_c h0).1] at h; exact absurd h h0
/-- what Volume answers. -/
noncomputable def volE (b : Bas) (l : Int) : Int := if chkE b ≠ 0 then chkE b else if outB l (b.row 0).level 20000 = true then 7 else 0
noncomputable def volN (b : Bas) (l : Int) : Int := if volE b l ≠ 0 then 0 else volOf b l
theorem vol_c {b : Bas} {v : Int} (h : chkE b ≠ 0) : volE b v = chkE b ∧ volN b v = 0 := by
  have : volE b v = chkE b := by unfold volE; rw [if_pos h]
  unfold volN
  rw [this, if_pos h]
  exact ⟨rfl, rfl⟩
theorem vol_7 {b : Bas} {v : Int} (h : chkE b = 0) (h1 : outB v (b.row 0).level 20000 = true) : volE b v = 7 ∧ volN b v = 0 := by
  have : volE b v = 7 := by unfold volE; rw [if_neg (by simp [h]), if_pos h1]
  unfold volN
  rw [this, if_pos (by decide)]
  exact ⟨rfl, rfl⟩
theorem vol_0 {b : Bas} {v : Int} (h : chkE b = 0) (h1 : outB v (b.row 0).level 20000 = false) : volE b v = 0 ∧ volN b v = volOf b v := by
  have : volE b v = 0 := by unfold volE; rw [if_neg (by simp [h]), if_neg (by simp [h1])]
  unfold volN
  rw [this, if_neg (by decide)]
  exact ⟨rfl, rfl⟩
theorem vol_ok {b : Bas} {v : Int} (h : volE b v = 0) : chkE b = 0 ∧ outB v (b.row 0).level 20000 = false ∧ volN b v = volOf b v := by
  by_cases h0 : chkE b = 0
  · cases h1 : outB v (b.row 0).level 20000 with
    | true => rw [(vol_7 h0 h1).1] at h; cases h
    | false => exact ⟨h0, rfl, (vol_0 h0 h1).2⟩
  · rw [(vol_c h0).1] at h; exact absurd h h0
end Go.Proofs.YtoiepgcjinccpaaDoor.Bs
namespace Go.Proofs.YtoiepgcjinccpaaDoor.X
open Go Go.RowKit Go.Proofs.YtoiepgcjinccpaaDoor.Bs
set_option linter.unusedVariables false
section
variable {N : Nat} {B : Nat} {w0 : World} {ds : List Deferred} {F : Fr} {L : Lo} {pu : Prop} {dst : Option Tmp} {ty : TypeId} {p : String} {af : Array Edge} {gd : Option (Nat × Bool)}
theorem part_int (w : World) (cs : List Value) (o : Nat) (v : Value) (hv : cs[o]? = some v) : (part 3 ⟨cs⟩ o).run Tryd.prog w = .ok v w := by
  obtain ⟨h1, h2⟩ := isAgg_of_one (tab_ok tok.one (show lkG TB.one 3 = some () by rfl)) w
  simp [part, h2, hv]
theorem span_eq (w : World) (a c b d : Int) : (Op.equalIn 10000 61 (.agg ⟨[.int .i64 a, .int .i64 c]⟩) (.agg ⟨[.int .i64 b, .int .i64 d]⟩)).run Tryd.prog w = .ok (decide (a = b) && decide (c = d)) w := by
  have hu := Tryd.underlying61
  have hf : Tryd.prog.underlying 61 = some (.struct (Tryd.prog.fieldsOf 61)) := by simp [Program.fieldsOf, hu]
  rw [run_equalIn_struct w 9999 61 _ _ hf (by kernel_rfl)]
  simp only [Program.fieldsOf, hu]
  simp only [Op.eqFields]
  have h1 := part_int w [.int .i64 a, .int .i64 c] 0 (.int .i64 a) rfl
  have h2 := part_int w [.int .i64 b, .int .i64 d] 0 (.int .i64 b) rfl
  have h3 := part_int w [.int .i64 a, .int .i64 c] 1 (.int .i64 c) rfl
  have h4 := part_int w [.int .i64 b, .int .i64 d] 1 (.int .i64 d) rfl
  have h5 := run_equalIn_int (P := Tryd.prog) w 9998 3 .i64 .i64 a b Tryd.underlying3
  have h6 := run_equalIn_int (P := Tryd.prog) w 9998 3 .i64 .i64 c d Tryd.underlying3
  simp [Sem.run_bind, h1, h2, h3, h4, h5, h6]
  by_cases e1 : a = b <;> by_cases e2 : c = d <;> simp [e1, e2, h3, h4, h6]
theorem Ev.spanNeq {x y : Operand} {u : TypeId} {a b c d : Int} (hx : evo F x = some (spanV a c)) (hy : evo F y = some (spanV b d)) :
    Ev Tryd.prog N B w0 ds pu F L ⟨dst, .binOp .neq 61 x y u, ty, p, af, gd⟩ (.bool (!(decide (a = b) && decide (c = d)))) := .of_run fun a' w hf hw => by
  have e1 := hf.eval hx
  have e2 := hf.eval hy
  unfold spanV at e1 e2
  have h1 := run_eqGuard_agg (P := Tryd.prog) w .neq 61 x y ⟨[.int .i64 a, .int .i64 c]⟩ ⟨[.int .i64 b, .int .i64 d]⟩ (by kernel_rfl)
  have h2 := run_neq_struct (P := Tryd.prog) w 61 ⟨[.int .i64 a, .int .i64 c]⟩ ⟨[.int .i64 b, .int .i64 d]⟩
  rw [span_eq] at h2
  simp only [Result.andThen_ok] at h2
  simp [execOp, e1, e2, Sem.run_bind, h1, h2]
end
set_option maxHeartbeats 4000000 in
theorem Level_any {p : BV} {b : Bas} {v : Int} {w : World} (hb : BasAt w w.heap.size p b) :
    Calls Tryd.prog 34 #[basV p b, .int .i64 v] w fun e w' => e = .returned (.tuple ⟨[spanV (lvlLo b v) (lvlHi b v), .int .i64 (lvlE b v)]⟩) ∧ Below w.heap.size w w' := by
  obtain ⟨A, n, c, A2, n2, c2⟩ := p
  have hn := hb.n_eq
  simp only at hn
  subst hn
  have hmax := hb.len
  simp only at hmax
  simp only [basV, basC]
  refine enter Tryd.func34 rfl Tryd.ntmps34 rfl ?_; simp only [frame, Nat.zero_add, Nat.reduceAdd]
  repeat (first | (refine M0 ?_; first | refine O0 ?_ | refine z1 tok rfl ?_ | refine O1 rfl ?_ rfl | refine O2 rfl ?_ | refine O3 rfl ?_ rfl | refine U0 _ (Ev.call (f := 50) (ck rfl) rfl (fun w S => (valid_any (hb.sys S) :))) rfl ?_ | refine O4 rfl rfl rfl (fun _ _ => ?_) | refine O5 tok rfl rfl rfl (fun _ _ => ?_) | refine U0 _ (U2 rfl) rfl ?_ | refine U0 _ (U3 tok rfl rfl rfl rfl rfl) rfl ?_ | refine z3 tok rfl ?_ | refine U0 _ (U4 rfl rfl) rfl ?_ | refine U0 _ (U5 rfl rfl) rfl ?_) | (refine M1 ?_; first | refine J0 ?_ | refine J1 ?_ | refine J2 mixed rfl (by kernel_rfl) ?_ | refine J3 mixed rfl rfl (by kernel_rfl) ?_ | refine J4 ?_ | refine J5 ?_ | refine J6 ?_ | refine J7 ?_ | refine J8 rfl ?_ | refine J9 rfl ?_) | (refine M2 ?_; first | refine I0 ?_ | refine I1 ?_ | refine I2 ?_ | refine I3 ?_ | refine I4 ?_ | refine I5 ?_ | refine I6 rfl ?_ | refine I7 ?_ | refine I8 ?_ | refine z4 ?_) | (refine M3 ?_; first | refine O6 ?_ | refine z2 tok rfl ?_ | refine O8 rfl ?_ | refine O7 rfl ?_ rfl | refine O9 rfl ?_ rfl | refine U1 _ (Ev.call (f := 50) (ck rfl) rfl (fun w S => (valid_any (hb.sys S) :))) rfl ?_ | refine U1 _ (U4 rfl rfl) rfl ?_ | refine U1 _ (U5 rfl rfl) rfl ?_ | refine U1 _ (U2 rfl) rfl ?_ | refine U1 _ (U3 tok rfl rfl rfl rfl rfl) rfl ?_) | (refine M4 ?_; first | refine M6 ?_ | refine U6 rfl (by kernel_rfl) ?_ | refine U7 (by kernel_rfl) ?_) | (refine M5 ?_; first | exact M7 | refine U8 rfl ?_ | refine U9 rfl rfl ?_ ?_))
  refine XC.cond _ rfl (fun h => ?_) (fun h => ?_)
  · have hE : chkE b ≠ 0 := by simpa using h
    obtain ⟨e1, e2, e3⟩ := lvl_c (v := v) hE
    repeat (first | (refine M0 ?_; first | refine O0 ?_ | refine z1 tok rfl ?_ | refine O1 rfl ?_ rfl | refine O2 rfl ?_ | refine O3 rfl ?_ rfl | refine O4 rfl rfl rfl (fun _ _ => ?_) | refine O5 tok rfl rfl rfl (fun _ _ => ?_) | refine U0 _ (U2 rfl) rfl ?_ | refine U0 _ (U3 tok rfl rfl rfl rfl rfl) rfl ?_ | refine z3 tok rfl ?_ | refine U0 _ (U4 rfl rfl) rfl ?_ | refine U0 _ (U5 rfl rfl) rfl ?_) | (refine M1 ?_; first | refine J0 ?_ | refine J1 ?_ | refine J2 mixed rfl (by kernel_rfl) ?_ | refine J3 mixed rfl rfl (by kernel_rfl) ?_ | refine J4 ?_ | refine J5 ?_ | refine J6 ?_ | refine J7 ?_ | refine J8 rfl ?_ | refine J9 rfl ?_) | (refine M2 ?_; first | refine I0 ?_ | refine I1 ?_ | refine I2 ?_ | refine I3 ?_ | refine I4 ?_ | refine I5 ?_ | refine I6 rfl ?_ | refine I7 ?_ | refine I8 ?_ | refine z4 ?_) | (refine M3 ?_; first | refine O6 ?_ | refine z2 tok rfl ?_ | refine O8 rfl ?_ | refine O7 rfl ?_ rfl | refine O9 rfl ?_ rfl | refine U1 _ (U4 rfl rfl) rfl ?_ | refine U1 _ (U5 rfl rfl) rfl ?_ | refine U1 _ (U2 rfl) rfl ?_ | refine U1 _ (U3 tok rfl rfl rfl rfl rfl) rfl ?_) | (refine M4 ?_; first | refine M6 ?_ | refine U6 rfl (by kernel_rfl) ?_ | refine U7 (by kernel_rfl) ?_) | (refine M5 ?_; first | exact M7 | refine U8 rfl ?_ | refine U9 rfl rfl ?_ ?_))
    refine XE.retg tok Tryd.results34 rfl (by simp only [and_self, and_true]) (fun w' S => ?_)
    rw [e1, e2, e3]
    exact ⟨rfl, S.toBelow⟩
  have hE : chkE b = 0 := by simpa using h
  have ho := (ok_of hE).rowsOk
  have h2 := ho.n2
  obtain ⟨ad, rfl, hlt⟩ := hb.rows.addr (by simp only; omega)
  repeat (first | (refine M0 ?_; first | refine O0 ?_ | refine z1 tok rfl ?_ | refine O1 rfl ?_ rfl | refine O2 rfl ?_ | refine O3 rfl ?_ rfl | refine U0 _ (Ev.load_old tok rfl rfl (add_lt2 hlt) (hb.rowVol (i := 0) (by omega))) rfl ?_ | refine U0 _ (Ev.call (f := 51) (ck rfl) rfl (fun w S => out_any _ _ _ w)) rfl ?_ | refine O4 rfl rfl rfl (fun _ _ => ?_) | refine O5 tok rfl rfl rfl (fun _ _ => ?_) | refine U0 _ (U2 rfl) rfl ?_ | refine U0 _ (U3 tok rfl rfl rfl rfl rfl) rfl ?_ | refine z3 tok rfl ?_ | refine U0 _ (U4 rfl rfl) rfl ?_ | refine U0 _ (U5 rfl rfl) rfl ?_) | (refine M1 ?_; first | refine J0 ?_ | refine J1 ?_ | refine J2 mixed rfl (by kernel_rfl) ?_ | refine J3 mixed rfl rfl (by kernel_rfl) ?_ | refine J4 ?_ | refine J5 ?_ | refine J6 ?_ | refine J7 ?_ | refine J8 rfl ?_ | refine J9 rfl ?_) | (refine M2 ?_; first | refine I0 ?_ | refine I1 ?_ | refine I2 ?_ | refine I3 ?_ | refine I4 ?_ | refine I5 ?_ | refine I6 rfl ?_ | refine I7 ?_ | refine I8 ?_ | refine z4 ?_) | (refine M3 ?_; first | refine O6 ?_ | refine z2 tok rfl ?_ | refine O8 rfl ?_ | refine O7 rfl ?_ rfl | refine O9 rfl ?_ rfl | refine U1 _ (Ev.load_old tok rfl rfl (add_lt2 hlt) (hb.rowVol (i := 0) (by omega))) rfl ?_ | refine U1 _ (Ev.call (f := 51) (ck rfl) rfl (fun w S => out_any _ _ _ w)) rfl ?_ | refine U1 _ (U4 rfl rfl) rfl ?_ | refine U1 _ (U5 rfl rfl) rfl ?_ | refine U1 _ (U2 rfl) rfl ?_ | refine U1 _ (U3 tok rfl rfl rfl rfl rfl) rfl ?_) | (refine M4 ?_; first | refine M6 ?_ | refine U6 rfl (by kernel_rfl) ?_ | refine U7 (by kernel_rfl) ?_) | (refine M5 ?_; first | exact M7 | refine U8 rfl ?_ | refine U9 rfl rfl ?_ ?_))
  refine XC.cond _ rfl (fun h4 => ?_) (fun h4 => ?_)
  · obtain ⟨e1, e2, e3⟩ := lvl_7 hE h4
    repeat (first | (refine M0 ?_; first | refine O0 ?_ | refine z1 tok rfl ?_ | refine O1 rfl ?_ rfl | refine O2 rfl ?_ | refine O3 rfl ?_ rfl | refine O4 rfl rfl rfl (fun _ _ => ?_) | refine O5 tok rfl rfl rfl (fun _ _ => ?_) | refine U0 _ (U2 rfl) rfl ?_ | refine U0 _ (U3 tok rfl rfl rfl rfl rfl) rfl ?_ | refine z3 tok rfl ?_ | refine U0 _ (U4 rfl rfl) rfl ?_ | refine U0 _ (U5 rfl rfl) rfl ?_) | (refine M1 ?_; first | refine J0 ?_ | refine J1 ?_ | refine J2 mixed rfl (by kernel_rfl) ?_ | refine J3 mixed rfl rfl (by kernel_rfl) ?_ | refine J4 ?_ | refine J5 ?_ | refine J6 ?_ | refine J7 ?_ | refine J8 rfl ?_ | refine J9 rfl ?_) | (refine M2 ?_; first | refine I0 ?_ | refine I1 ?_ | refine I2 ?_ | refine I3 ?_ | refine I4 ?_ | refine I5 ?_ | refine I6 rfl ?_ | refine I7 ?_ | refine I8 ?_ | refine z4 ?_) | (refine M3 ?_; first | refine O6 ?_ | refine z2 tok rfl ?_ | refine O8 rfl ?_ | refine O7 rfl ?_ rfl | refine O9 rfl ?_ rfl | refine U1 _ (U4 rfl rfl) rfl ?_ | refine U1 _ (U5 rfl rfl) rfl ?_ | refine U1 _ (U2 rfl) rfl ?_ | refine U1 _ (U3 tok rfl rfl rfl rfl rfl) rfl ?_) | (refine M4 ?_; first | refine M6 ?_ | refine U6 rfl (by kernel_rfl) ?_ | refine U7 (by kernel_rfl) ?_) | (refine M5 ?_; first | exact M7 | refine U8 rfl ?_ | refine U9 rfl rfl ?_ ?_))
    refine XE.retg tok Tryd.results34 rfl (by simp only [and_self, and_true]) (fun w' S => ?_)
    rw [e1, e2, e3]
    exact ⟨rfl, S.toBelow⟩
  obtain ⟨e1, e2, e3⟩ := lvl_0 hE h4
  have hv := outB_f.1 h4
  have hd := den_pos ho v
  have hnb := num_bd ho hv
  repeat (first | (refine M0 ?_; first | refine O0 ?_ | refine z1 tok rfl ?_ | refine O1 rfl ?_ rfl | refine O2 rfl ?_ | refine O3 rfl ?_ rfl | refine U0 _ (Ev.call (f := 67) (ck rfl) rfl (fun w S => (exact_any (p := ⟨some ad, b.rows.length, c, A2, n2, c2⟩) (hb.sys S) ho hv :))) rfl ?_ | refine U0 _ (Ev.makeI ratio_con rfl) rfl ?_ | refine U0 _ (Ev.invoke (t := 113) span_m (ck rfl) rfl rfl (fun w S => (span_any (n := num b v) (d := den b v) hd.1 (by omega) w :))) rfl ?_ | refine O4 rfl rfl rfl (fun _ _ => ?_) | refine O5 tok rfl rfl rfl (fun _ _ => ?_) | refine U0 _ (U2 rfl) rfl ?_ | refine U0 _ (U3 tok rfl rfl rfl rfl rfl) rfl ?_ | refine z3 tok rfl ?_ | refine U0 _ (U4 rfl rfl) rfl ?_ | refine U0 _ (U5 rfl rfl) rfl ?_) | (refine M1 ?_; first | refine J0 ?_ | refine J1 ?_ | refine J2 mixed rfl (by kernel_rfl) ?_ | refine J3 mixed rfl rfl (by kernel_rfl) ?_ | refine J4 ?_ | refine J5 ?_ | refine J6 ?_ | refine J7 ?_ | refine J8 rfl ?_ | refine J9 rfl ?_) | (refine M2 ?_; first | refine I0 ?_ | refine I1 ?_ | refine I2 ?_ | refine I3 ?_ | refine I4 ?_ | refine I5 ?_ | refine I6 rfl ?_ | refine I7 ?_ | refine I8 ?_ | refine z4 ?_) | (refine M3 ?_; first | refine O6 ?_ | refine z2 tok rfl ?_ | refine O8 rfl ?_ | refine O7 rfl ?_ rfl | refine O9 rfl ?_ rfl | refine U1 _ (Ev.call (f := 67) (ck rfl) rfl (fun w S => (exact_any (p := ⟨some ad, b.rows.length, c, A2, n2, c2⟩) (hb.sys S) ho hv :))) rfl ?_ | refine U1 _ (Ev.makeI ratio_con rfl) rfl ?_ | refine U1 _ (Ev.invoke (t := 113) span_m (ck rfl) rfl rfl (fun w S => (span_any (n := num b v) (d := den b v) hd.1 (by omega) w :))) rfl ?_ | refine U1 _ (U4 rfl rfl) rfl ?_ | refine U1 _ (U5 rfl rfl) rfl ?_ | refine U1 _ (U2 rfl) rfl ?_ | refine U1 _ (U3 tok rfl rfl rfl rfl rfl) rfl ?_) | (refine M4 ?_; first | refine M6 ?_ | refine U6 rfl (by kernel_rfl) ?_ | refine U7 (by kernel_rfl) ?_) | (refine M5 ?_; first | exact M7 | refine U8 rfl ?_ | refine U9 rfl rfl ?_ ?_))
  refine XE.retg tok Tryd.results34 rfl (by simp only [and_self, and_true]) (fun w' S => ?_)
  rw [e1, e2, e3]
  exact ⟨rfl, S.toBelow⟩
set_option maxHeartbeats 4000000 in
theorem refLevel_any {p : BV} {b : Bas} {v : Int} {w : World} (hb : BasAt w w.heap.size p b) :
    Calls Tryd.prog 35 #[basV p b, .int .i64 v] w fun e w' => e = .returned (.tuple ⟨[spanV (lvlLo b v) (lvlHi b v), .int .i64 (lvlE b v)]⟩) ∧ Below w.heap.size w w' := by
  simp only [basV, basC]
  refine enter Tryd.func35 rfl Tryd.ntmps35 rfl ?_; simp only [frame, Nat.zero_add, Nat.reduceAdd]
  repeat (first | (refine M0 ?_; first | refine O0 ?_ | refine z1 tok rfl ?_ | refine O1 rfl ?_ rfl | refine O2 rfl ?_ | refine O3 rfl ?_ rfl | refine U0 _ (Ev.call (f := 52) (ck rfl) rfl (fun w S => (good_any (hb.sys S) :))) rfl ?_ | refine O4 rfl rfl rfl (fun _ _ => ?_) | refine O5 tok rfl rfl rfl (fun _ _ => ?_) | refine U0 _ (U2 rfl) rfl ?_ | refine U0 _ (U3 tok rfl rfl rfl rfl rfl) rfl ?_ | refine z3 tok rfl ?_ | refine U0 _ (U4 rfl rfl) rfl ?_ | refine U0 _ (U5 rfl rfl) rfl ?_) | (refine M1 ?_; first | refine J0 ?_ | refine J1 ?_ | refine J2 mixed rfl (by kernel_rfl) ?_ | refine J3 mixed rfl rfl (by kernel_rfl) ?_ | refine J4 ?_ | refine J5 ?_ | refine J6 ?_ | refine J7 ?_ | refine J8 rfl ?_ | refine J9 rfl ?_) | (refine M2 ?_; first | refine I0 ?_ | refine I1 ?_ | refine I2 ?_ | refine I3 ?_ | refine I4 ?_ | refine I5 ?_ | refine I6 rfl ?_ | refine I7 ?_ | refine I8 ?_ | refine z4 ?_) | (refine M3 ?_; first | refine O6 ?_ | refine z2 tok rfl ?_ | refine O8 rfl ?_ | refine O7 rfl ?_ rfl | refine O9 rfl ?_ rfl | refine U1 _ (Ev.call (f := 52) (ck rfl) rfl (fun w S => (good_any (hb.sys S) :))) rfl ?_ | refine U1 _ (U4 rfl rfl) rfl ?_ | refine U1 _ (U5 rfl rfl) rfl ?_ | refine U1 _ (U2 rfl) rfl ?_ | refine U1 _ (U3 tok rfl rfl rfl rfl rfl) rfl ?_) | (refine M4 ?_; first | refine M6 ?_ | refine U6 rfl (by kernel_rfl) ?_ | refine U7 (by kernel_rfl) ?_) | (refine M5 ?_; first | exact M7 | refine U8 rfl ?_ | refine U9 rfl rfl ?_ ?_))
  refine XL.split _ _ rfl (fun h0 => ?_) (fun h0 => ?_) <;> rw [h0]
  rotate_left
  · have hE : chkE b ≠ 0 := by simpa using h0
    obtain ⟨e1, e2, e3⟩ := lvl_c (v := v) hE
    repeat (first | (refine M0 ?_; first | refine O0 ?_ | refine z1 tok rfl ?_ | refine O1 rfl ?_ rfl | refine O2 rfl ?_ | refine O3 rfl ?_ rfl | refine O4 rfl rfl rfl (fun _ _ => ?_) | refine O5 tok rfl rfl rfl (fun _ _ => ?_) | refine U0 _ (U2 rfl) rfl ?_ | refine U0 _ (U3 tok rfl rfl rfl rfl rfl) rfl ?_ | refine z3 tok rfl ?_ | refine U0 _ (U4 rfl rfl) rfl ?_ | refine U0 _ (U5 rfl rfl) rfl ?_) | (refine M1 ?_; first | refine J0 ?_ | refine J1 ?_ | refine J2 mixed rfl (by kernel_rfl) ?_ | refine J3 mixed rfl rfl (by kernel_rfl) ?_ | refine J4 ?_ | refine J5 ?_ | refine J6 ?_ | refine J7 ?_ | refine J8 rfl ?_ | refine J9 rfl ?_) | (refine M2 ?_; first | refine I0 ?_ | refine I1 ?_ | refine I2 ?_ | refine I3 ?_ | refine I4 ?_ | refine I5 ?_ | refine I6 rfl ?_ | refine I7 ?_ | refine I8 ?_ | refine z4 ?_) | (refine M3 ?_; first | refine O6 ?_ | refine z2 tok rfl ?_ | refine O8 rfl ?_ | refine O7 rfl ?_ rfl | refine O9 rfl ?_ rfl | refine U1 _ (U4 rfl rfl) rfl ?_ | refine U1 _ (U5 rfl rfl) rfl ?_ | refine U1 _ (U2 rfl) rfl ?_ | refine U1 _ (U3 tok rfl rfl rfl rfl rfl) rfl ?_) | (refine M4 ?_; first | refine M6 ?_ | refine U6 rfl (by kernel_rfl) ?_ | refine U7 (by kernel_rfl) ?_) | (refine M5 ?_; first | exact M7 | refine U8 rfl ?_ | refine U9 rfl rfl ?_ ?_))
    refine XC.cond _ rfl (fun h1 => ?_) (fun h1 => absurd hE (by simpa using h1))
    repeat (first | (refine M0 ?_; first | refine O0 ?_ | refine z1 tok rfl ?_ | refine O1 rfl ?_ rfl | refine O2 rfl ?_ | refine O3 rfl ?_ rfl | refine O4 rfl rfl rfl (fun _ _ => ?_) | refine O5 tok rfl rfl rfl (fun _ _ => ?_) | refine U0 _ (U2 rfl) rfl ?_ | refine U0 _ (U3 tok rfl rfl rfl rfl rfl) rfl ?_ | refine z3 tok rfl ?_ | refine U0 _ (U4 rfl rfl) rfl ?_ | refine U0 _ (U5 rfl rfl) rfl ?_) | (refine M1 ?_; first | refine J0 ?_ | refine J1 ?_ | refine J2 mixed rfl (by kernel_rfl) ?_ | refine J3 mixed rfl rfl (by kernel_rfl) ?_ | refine J4 ?_ | refine J5 ?_ | refine J6 ?_ | refine J7 ?_ | refine J8 rfl ?_ | refine J9 rfl ?_) | (refine M2 ?_; first | refine I0 ?_ | refine I1 ?_ | refine I2 ?_ | refine I3 ?_ | refine I4 ?_ | refine I5 ?_ | refine I6 rfl ?_ | refine I7 ?_ | refine I8 ?_ | refine z4 ?_) | (refine M3 ?_; first | refine O6 ?_ | refine z2 tok rfl ?_ | refine O8 rfl ?_ | refine O7 rfl ?_ rfl | refine O9 rfl ?_ rfl | refine U1 _ (U4 rfl rfl) rfl ?_ | refine U1 _ (U5 rfl rfl) rfl ?_ | refine U1 _ (U2 rfl) rfl ?_ | refine U1 _ (U3 tok rfl rfl rfl rfl rfl) rfl ?_) | (refine M4 ?_; first | refine M6 ?_ | refine U6 rfl (by kernel_rfl) ?_ | refine U7 (by kernel_rfl) ?_) | (refine M5 ?_; first | exact M7 | refine U8 rfl ?_ | refine U9 rfl rfl ?_ ?_))
    refine XE.retg tok Tryd.results35 rfl (by simp only [and_self, and_true]) (fun w' S => ?_)
    rw [e1, e2, e3]
    exact ⟨rfl, S.toBelow⟩
  have hE : chkE b = 0 := by simpa using h0
  have ho := (ok_of hE).rowsOk
  repeat (first | (refine M0 ?_; first | refine O0 ?_ | refine z1 tok rfl ?_ | refine O1 rfl ?_ rfl | refine O2 rfl ?_ | refine O3 rfl ?_ rfl | refine U0 _ (Ev.call (f := 53) (ck rfl) rfl (fun w S => (stored_any (p := p) (hb.sys S) ho v :))) rfl ?_ | refine O4 rfl rfl rfl (fun _ _ => ?_) | refine O5 tok rfl rfl rfl (fun _ _ => ?_) | refine U0 _ (U2 rfl) rfl ?_ | refine U0 _ (U3 tok rfl rfl rfl rfl rfl) rfl ?_ | refine z3 tok rfl ?_ | refine U0 _ (U4 rfl rfl) rfl ?_ | refine U0 _ (U5 rfl rfl) rfl ?_) | (refine M1 ?_; first | refine J0 ?_ | refine J1 ?_ | refine J2 mixed rfl (by kernel_rfl) ?_ | refine J3 mixed rfl rfl (by kernel_rfl) ?_ | refine J4 ?_ | refine J5 ?_ | refine J6 ?_ | refine J7 ?_ | refine J8 rfl ?_ | refine J9 rfl ?_) | (refine M2 ?_; first | refine I0 ?_ | refine I1 ?_ | refine I2 ?_ | refine I3 ?_ | refine I4 ?_ | refine I5 ?_ | refine I6 rfl ?_ | refine I7 ?_ | refine I8 ?_ | refine z4 ?_) | (refine M3 ?_; first | refine O6 ?_ | refine z2 tok rfl ?_ | refine O8 rfl ?_ | refine O7 rfl ?_ rfl | refine O9 rfl ?_ rfl | refine U1 _ (Ev.call (f := 53) (ck rfl) rfl (fun w S => (stored_any (p := p) (hb.sys S) ho v :))) rfl ?_ | refine U1 _ (U4 rfl rfl) rfl ?_ | refine U1 _ (U5 rfl rfl) rfl ?_ | refine U1 _ (U2 rfl) rfl ?_ | refine U1 _ (U3 tok rfl rfl rfl rfl rfl) rfl ?_) | (refine M4 ?_; first | refine M6 ?_ | refine U6 rfl (by kernel_rfl) ?_ | refine U7 (by kernel_rfl) ?_) | (refine M5 ?_; first | exact M7 | refine U8 rfl ?_ | refine U9 rfl rfl ?_ ?_))
  refine XC.cond _ rfl (fun h1 => ?_) (fun h1 => ?_)
  · have h4 : outB v (b.row 0).vol 1000000000 = true := by simpa using h1
    obtain ⟨e1, e2, e3⟩ := lvl_7 hE h4
    repeat (first | (refine M0 ?_; first | refine O0 ?_ | refine z1 tok rfl ?_ | refine O1 rfl ?_ rfl | refine O2 rfl ?_ | refine O3 rfl ?_ rfl | refine O4 rfl rfl rfl (fun _ _ => ?_) | refine O5 tok rfl rfl rfl (fun _ _ => ?_) | refine U0 _ (U2 rfl) rfl ?_ | refine U0 _ (U3 tok rfl rfl rfl rfl rfl) rfl ?_ | refine z3 tok rfl ?_ | refine U0 _ (U4 rfl rfl) rfl ?_ | refine U0 _ (U5 rfl rfl) rfl ?_) | (refine M1 ?_; first | refine J0 ?_ | refine J1 ?_ | refine J2 mixed rfl (by kernel_rfl) ?_ | refine J3 mixed rfl rfl (by kernel_rfl) ?_ | refine J4 ?_ | refine J5 ?_ | refine J6 ?_ | refine J7 ?_ | refine J8 rfl ?_ | refine J9 rfl ?_) | (refine M2 ?_; first | refine I0 ?_ | refine I1 ?_ | refine I2 ?_ | refine I3 ?_ | refine I4 ?_ | refine I5 ?_ | refine I6 rfl ?_ | refine I7 ?_ | refine I8 ?_ | refine z4 ?_) | (refine M3 ?_; first | refine O6 ?_ | refine z2 tok rfl ?_ | refine O8 rfl ?_ | refine O7 rfl ?_ rfl | refine O9 rfl ?_ rfl | refine U1 _ (U4 rfl rfl) rfl ?_ | refine U1 _ (U5 rfl rfl) rfl ?_ | refine U1 _ (U2 rfl) rfl ?_ | refine U1 _ (U3 tok rfl rfl rfl rfl rfl) rfl ?_) | (refine M4 ?_; first | refine M6 ?_ | refine U6 rfl (by kernel_rfl) ?_ | refine U7 (by kernel_rfl) ?_) | (refine M5 ?_; first | exact M7 | refine U8 rfl ?_ | refine U9 rfl rfl ?_ ?_))
    refine XE.retg tok Tryd.results35 rfl (by simp only [and_self, and_true]) (fun w' S => ?_)
    rw [e1, e2, e3]
    exact ⟨rfl, S.toBelow⟩
  have h4 : outB v (b.row 0).vol 1000000000 = false := by simpa using h1
  obtain ⟨e1, e2, e3⟩ := lvl_0 hE h4
  have hv := outB_f.1 h4
  have hd := den_pos ho v
  have hnb := num_bd ho hv
  have hfl := floor_bd (a := -(num b v)) hd.1
  have h5 : i64in (-((-(num b v)) / den b v)) := by unfold i64in; omega
  repeat (first | (refine M0 ?_; first | refine O0 ?_ | refine z1 tok rfl ?_ | refine O1 rfl ?_ rfl | refine O2 rfl ?_ | refine O3 rfl ?_ rfl | refine O4 rfl rfl rfl (fun _ _ => ?_) | refine O5 tok rfl rfl rfl (fun _ _ => ?_) | refine U0 _ (U2 rfl) rfl ?_ | refine U0 _ (U3 tok rfl rfl rfl rfl rfl) rfl ?_ | refine z3 tok rfl ?_ | refine U0 _ (U4 rfl rfl) rfl ?_ | refine U0 _ (U5 rfl rfl) rfl ?_) | (refine M1 ?_; first | refine J0 ?_ | refine J1 ?_ | refine J2 mixed rfl (by kernel_rfl) ?_ | refine J3 mixed rfl rfl (by kernel_rfl) ?_ | refine J4 ?_ | refine J5 ?_ | refine J6 ?_ | refine J7 ?_ | refine J8 rfl ?_ | refine J9 rfl ?_) | (refine M2 ?_; first | refine I0 ?_ | refine I1 ?_ | refine I2 ?_ | refine I3 ?_ | refine I4 ?_ | refine I5 ?_ | refine I6 rfl ?_ | refine I7 ?_ | refine I8 ?_ | refine z4 ?_) | (refine M3 ?_; first | refine O6 ?_ | refine z2 tok rfl ?_ | refine O8 rfl ?_ | refine O7 rfl ?_ rfl | refine O9 rfl ?_ rfl | refine U1 _ (U4 rfl rfl) rfl ?_ | refine U1 _ (U5 rfl rfl) rfl ?_ | refine U1 _ (U2 rfl) rfl ?_ | refine U1 _ (U3 tok rfl rfl rfl rfl rfl) rfl ?_) | (refine M4 ?_; first | refine M6 ?_ | refine U6 rfl (by kernel_rfl) ?_ | refine U7 (by kernel_rfl) ?_) | (refine M5 ?_; first | exact M7 | refine U8 rfl ?_ | refine U9 rfl rfl ?_ ?_))
  refine XC.cond _ rfl (fun h => absurd hE (by simpa using h)) (fun h => ?_)
  repeat (first | (refine M0 ?_; first | refine O0 ?_ | refine z1 tok rfl ?_ | refine O1 rfl ?_ rfl | refine O2 rfl ?_ | refine O3 rfl ?_ rfl | refine U0 _ (Ev.call (f := 68) (ck rfl) rfl (fun w S => (refExact_any (p := p) (hb.sys S) ho hv :))) rfl ?_ | refine U0 _ (Ev.call (f := 69) (vs := [.int .i64 (num b v), .int .i64 (den b v)]) (ck rfl) rfl (fun w S => (down_any (a := num b v) (b := den b v) hd.1 (by omega) w :))) rfl ?_ | refine U0 _ (Ev.call (f := 69) (vs := [.int .i64 (-(num b v)), .int .i64 (den b v)]) (ck rfl) rfl (fun w S => (down_any (a := -(num b v)) (b := den b v) hd.1 (by omega) w :))) rfl ?_ | refine O4 rfl rfl rfl (fun _ _ => ?_) | refine O5 tok rfl rfl rfl (fun _ _ => ?_) | refine U0 _ (U2 rfl) rfl ?_ | refine U0 _ (U3 tok rfl rfl rfl rfl rfl) rfl ?_ | refine z3 tok rfl ?_ | refine U0 _ (U4 rfl rfl) rfl ?_ | refine U0 _ (U5 rfl rfl) rfl ?_) | (refine M1 ?_; first | refine J0 ?_ | refine J1 ?_ | refine J2 mixed rfl (by kernel_rfl) ?_ | refine J3 mixed rfl rfl (by kernel_rfl) ?_ | refine J4 ?_ | refine J5 ?_ | refine J6 ?_ | refine J7 ?_ | refine J8 rfl ?_ | refine J9 rfl ?_) | (refine M2 ?_; first | refine I0 ?_ | refine I1 ?_ | refine I2 ?_ | refine I3 ?_ | refine I4 ?_ | refine I5 ?_ | refine I6 rfl ?_ | refine I7 ?_ | refine I8 ?_ | refine z4 ?_) | (refine M3 ?_; first | refine O6 ?_ | refine z2 tok rfl ?_ | refine O8 rfl ?_ | refine O7 rfl ?_ rfl | refine O9 rfl ?_ rfl | refine U1 _ (Ev.call (f := 68) (ck rfl) rfl (fun w S => (refExact_any (p := p) (hb.sys S) ho hv :))) rfl ?_ | refine U1 _ (Ev.call (f := 69) (vs := [.int .i64 (num b v), .int .i64 (den b v)]) (ck rfl) rfl (fun w S => (down_any (a := num b v) (b := den b v) hd.1 (by omega) w :))) rfl ?_ | refine U1 _ (Ev.call (f := 69) (vs := [.int .i64 (-(num b v)), .int .i64 (den b v)]) (ck rfl) rfl (fun w S => (down_any (a := -(num b v)) (b := den b v) hd.1 (by omega) w :))) rfl ?_ | refine U1 _ (U4 rfl rfl) rfl ?_ | refine U1 _ (U5 rfl rfl) rfl ?_ | refine U1 _ (U2 rfl) rfl ?_ | refine U1 _ (U3 tok rfl rfl rfl rfl rfl) rfl ?_) | (refine M4 ?_; first | refine M6 ?_ | refine U6 rfl (by kernel_rfl) ?_ | refine U7 (by kernel_rfl) ?_) | (refine M5 ?_; first | exact M7 | refine U8 rfl ?_ | refine U9 rfl rfl ?_ ?_))
  refine XE.retg tok Tryd.results35 rfl (by simp only [and_self, and_true]) (fun w' S => ?_)
  rw [e1, e2, e3]
  exact ⟨rfl, S.toBelow⟩
set_option maxHeartbeats 4000000 in
theorem most_any {p : BV} {b : Bas} {l : Int} {w : World} (hb : BasAt w w.heap.size p b) (ho : Ok b) (hl : outB l (b.row 0).level 20000 = false) :
    Calls Tryd.prog 70 #[basV p b, .int .i64 l] w fun e w' => e = .returned (.int .i64 (volOf b l)) ∧ Below w.heap.size w w' := by
  obtain ⟨A, n, c, A2, n2, c2⟩ := p
  have hn := hb.n_eq
  simp only at hn
  subst hn
  have hmax := hb.len
  simp only at hmax
  have h2 := ho.rowsOk.n2
  have hl' := outB_f.1 hl
  have hl0 := ho.rowsOk.level 0 (by omega)
  have hv0 := ho.rowsOk.vol 0 (by omega)
  obtain ⟨ad, rfl, hlt⟩ := hb.rows.addr (by simp only; omega)
  simp only [basV, basC]
  refine enter Tryd.func70 rfl Tryd.ntmps70 rfl ?_; simp only [frame, Nat.zero_add, Nat.reduceAdd]
  repeat (first | (refine M0 ?_; first | refine O0 ?_ | refine z1 tok rfl ?_ | refine O1 rfl ?_ rfl | refine O2 rfl ?_ | refine O3 rfl ?_ rfl | refine U0 _ (Ev.load_old tok rfl rfl (add_lt2 hlt) (hb.rowVol (i := 0) (by omega))) rfl ?_ | refine O4 rfl rfl rfl (fun _ _ => ?_) | refine O5 tok rfl rfl rfl (fun _ _ => ?_) | refine U0 _ (U2 rfl) rfl ?_ | refine U0 _ (U3 tok rfl rfl rfl rfl rfl) rfl ?_ | refine z3 tok rfl ?_ | refine U0 _ (U4 rfl rfl) rfl ?_ | refine U0 _ (U5 rfl rfl) rfl ?_) | (refine M1 ?_; first | refine J0 ?_ | refine J1 ?_ | refine J2 mixed rfl (by kernel_rfl) ?_ | refine J3 mixed rfl rfl (by kernel_rfl) ?_ | refine J4 ?_ | refine J5 ?_ | refine J6 ?_ | refine J7 ?_ | refine J8 rfl ?_ | refine J9 rfl ?_) | (refine M2 ?_; first | refine I0 ?_ | refine I1 ?_ | refine I2 ?_ | refine I3 ?_ | refine I4 ?_ | refine I5 ?_ | refine I6 rfl ?_ | refine I7 ?_ | refine I8 ?_ | refine z4 ?_) | (refine M3 ?_; first | refine O6 ?_ | refine z2 tok rfl ?_ | refine O8 rfl ?_ | refine O7 rfl ?_ rfl | refine O9 rfl ?_ rfl | refine U1 _ (Ev.load_old tok rfl rfl (add_lt2 hlt) (hb.rowVol (i := 0) (by omega))) rfl ?_ | refine U1 _ (U4 rfl rfl) rfl ?_ | refine U1 _ (U5 rfl rfl) rfl ?_ | refine U1 _ (U2 rfl) rfl ?_ | refine U1 _ (U3 tok rfl rfl rfl rfl rfl) rfl ?_) | (refine M4 ?_; first | refine M6 ?_ | refine U6 rfl (by kernel_rfl) ?_ | refine U7 (by kernel_rfl) ?_) | (refine M5 ?_; first | exact M7 | refine U8 rfl ?_ | refine U9 rfl rfl ?_ ?_))
  refine XC.loopk [1, 2] rfl (fun s' : Int × Int => [(5, .int .i64 s'.1), (6, .int .i64 s'.2)]) (fun _ => [_]) (fun _ => w)
    (fun s' => (b.row 0).vol ≤ s'.1 ∧ num b s'.1 ≤ l * den b s'.1 ∧ s'.1 < s'.2 ∧ s'.2 ≤ 1000000001 ∧ (s'.2 = 1000000001 ∨ l * den b s'.2 < num b s'.2)) (fun s' => (s'.2 - s'.1).toNat) ((b.row 0).vol, 1000000001)
    ⟨Int.le_refl _, most_low ho.rowsOk (by omega), by simp only; omega, by simp only; omega, .inl rfl⟩ (by repeat (first | exact Sub.nil | refine Sub.cons rfl ?_)) (fun _ h => h) ?_
  rintro ⟨lo, hi⟩ ⟨h3, h4, h5, h6, h7⟩
  simp only at h3 h4 h5 h6 h7
  dsimp only [List.cons_append, List.nil_append]
  repeat (first | (refine M0 ?_; first | refine O0 ?_ | refine z1 tok rfl ?_ | refine O1 rfl ?_ rfl | refine O2 rfl ?_ | refine O3 rfl ?_ rfl | refine O4 rfl rfl rfl (fun _ _ => ?_) | refine O5 tok rfl rfl rfl (fun _ _ => ?_) | refine U0 _ (U2 rfl) rfl ?_ | refine U0 _ (U3 tok rfl rfl rfl rfl rfl) rfl ?_ | refine z3 tok rfl ?_ | refine U0 _ (U4 rfl rfl) rfl ?_ | refine U0 _ (U5 rfl rfl) rfl ?_) | (refine M1 ?_; first | refine J0 ?_ | refine J1 ?_ | refine J2 mixed rfl (by kernel_rfl) ?_ | refine J3 mixed rfl rfl (by kernel_rfl) ?_ | refine J4 ?_ | refine J5 ?_ | refine J6 ?_ | refine J7 ?_ | refine J8 rfl ?_ | refine J9 rfl ?_) | (refine M2 ?_; first | refine I0 ?_ | refine I1 ?_ | refine I2 ?_ | refine I3 ?_ | refine I4 ?_ | refine I5 ?_ | refine I6 rfl ?_ | refine I7 ?_ | refine I8 ?_ | refine z4 ?_) | (refine M3 ?_; first | refine O6 ?_ | refine z2 tok rfl ?_ | refine O8 rfl ?_ | refine O7 rfl ?_ rfl | refine O9 rfl ?_ rfl | refine U1 _ (U4 rfl rfl) rfl ?_ | refine U1 _ (U5 rfl rfl) rfl ?_ | refine U1 _ (U2 rfl) rfl ?_ | refine U1 _ (U3 tok rfl rfl rfl rfl rfl) rfl ?_) | (refine M4 ?_; first | refine M6 ?_ | refine U6 rfl (by kernel_rfl) ?_ | refine U7 (by kernel_rfl) ?_) | (refine M5 ?_; first | exact M7 | refine U8 rfl ?_ | refine U9 rfl rfl ?_ ?_))
  refine XC.cond _ rfl (fun h8 => ?_) (fun h8 => ?_)
  · have h9 : 1 < hi - lo := by simpa using h8
    have hq : (lo + hi).tdiv 2 = (lo + hi) / 2 := Int.tdiv_eq_ediv_of_nonneg (by omega)
    obtain ⟨m, hm⟩ : ∃ m, m = (lo + hi).tdiv 2 := ⟨_, rfl⟩
    have hm1 : lo < m ∧ m < hi := by omega
    have hvm : (b.row 0).vol ≤ m ∧ m ≤ 1000000000 := by omega
    have hmul := lim_in ho (lim := l) (by omega) m
    repeat (first | (refine M0 ?_; first | refine O0 ?_ | refine z1 tok rfl ?_ | refine O1 rfl ?_ rfl | refine O2 rfl ?_ | refine O3 rfl ?_ rfl | refine O4 rfl rfl rfl (fun _ _ => ?_) | refine O5 tok rfl rfl rfl (fun _ _ => ?_) | refine U0 _ (U2 rfl) rfl ?_ | refine U0 _ (U3 tok rfl rfl rfl rfl rfl) rfl ?_ | refine z3 tok rfl ?_ | refine U0 _ (U4 rfl rfl) rfl ?_ | refine U0 _ (U5 rfl rfl) rfl ?_) | (refine M1 ?_; first | refine J0 ?_ | refine J1 ?_ | refine J2 mixed rfl (by kernel_rfl) ?_ | refine J3 mixed rfl rfl (by kernel_rfl) ?_ | refine J4 ?_ | refine J5 ?_ | refine J6 ?_ | refine J7 ?_ | refine J8 rfl ?_ | refine J9 rfl ?_) | (refine M2 ?_; first | refine I0 ?_ | refine I1 ?_ | refine I2 ?_ | refine I3 ?_ | refine I4 ?_ | refine I5 ?_ | refine I6 rfl ?_ | refine I7 ?_ | refine I8 ?_ | refine z4 ?_) | (refine M3 ?_; first | refine O6 ?_ | refine z2 tok rfl ?_ | refine O8 rfl ?_ | refine O7 rfl ?_ rfl | refine O9 rfl ?_ rfl | refine U1 _ (U4 rfl rfl) rfl ?_ | refine U1 _ (U5 rfl rfl) rfl ?_ | refine U1 _ (U2 rfl) rfl ?_ | refine U1 _ (U3 tok rfl rfl rfl rfl rfl) rfl ?_) | (refine M4 ?_; first | refine M6 ?_ | refine U6 rfl (by kernel_rfl) ?_ | refine U7 (by kernel_rfl) ?_) | (refine M5 ?_; first | exact M7 | refine U8 rfl ?_ | refine U9 rfl rfl ?_ ?_))
    rw [← hm]
    repeat (first | (refine M0 ?_; first | refine O0 ?_ | refine z1 tok rfl ?_ | refine O1 rfl ?_ rfl | refine O2 rfl ?_ | refine O3 rfl ?_ rfl | refine U0 _ (Ev.call (f := 68) (ck rfl) rfl (fun w S => (refExact_any (p := ⟨some ad, b.rows.length, c, A2, n2, c2⟩) (hb.sys S) ho.rowsOk hvm :))) rfl ?_ | refine O4 rfl rfl rfl (fun _ _ => ?_) | refine O5 tok rfl rfl rfl (fun _ _ => ?_) | refine U0 _ (U2 rfl) rfl ?_ | refine U0 _ (U3 tok rfl rfl rfl rfl rfl) rfl ?_ | refine z3 tok rfl ?_ | refine U0 _ (U4 rfl rfl) rfl ?_ | refine U0 _ (U5 rfl rfl) rfl ?_) | (refine M1 ?_; first | refine J0 ?_ | refine J1 ?_ | refine J2 mixed rfl (by kernel_rfl) ?_ | refine J3 mixed rfl rfl (by kernel_rfl) ?_ | refine J4 ?_ | refine J5 ?_ | refine J6 ?_ | refine J7 ?_ | refine J8 rfl ?_ | refine J9 rfl ?_) | (refine M2 ?_; first | refine I0 ?_ | refine I1 ?_ | refine I2 ?_ | refine I3 ?_ | refine I4 ?_ | refine I5 ?_ | refine I6 rfl ?_ | refine I7 ?_ | refine I8 ?_ | refine z4 ?_) | (refine M3 ?_; first | refine O6 ?_ | refine z2 tok rfl ?_ | refine O8 rfl ?_ | refine O7 rfl ?_ rfl | refine O9 rfl ?_ rfl | refine U1 _ (Ev.call (f := 68) (ck rfl) rfl (fun w S => (refExact_any (p := ⟨some ad, b.rows.length, c, A2, n2, c2⟩) (hb.sys S) ho.rowsOk hvm :))) rfl ?_ | refine U1 _ (U4 rfl rfl) rfl ?_ | refine U1 _ (U5 rfl rfl) rfl ?_ | refine U1 _ (U2 rfl) rfl ?_ | refine U1 _ (U3 tok rfl rfl rfl rfl rfl) rfl ?_) | (refine M4 ?_; first | refine M6 ?_ | refine U6 rfl (by kernel_rfl) ?_ | refine U7 (by kernel_rfl) ?_) | (refine M5 ?_; first | exact M7 | refine U8 rfl ?_ | refine U9 rfl rfl ?_ ?_))
    refine XC.cond _ rfl (fun h10 => ?_) (fun h10 => ?_)
    · repeat (first | (refine M0 ?_; first | refine O0 ?_ | refine z1 tok rfl ?_ | refine O1 rfl ?_ rfl | refine O2 rfl ?_ | refine O3 rfl ?_ rfl | refine O4 rfl rfl rfl (fun _ _ => ?_) | refine O5 tok rfl rfl rfl (fun _ _ => ?_) | refine U0 _ (U2 rfl) rfl ?_ | refine U0 _ (U3 tok rfl rfl rfl rfl rfl) rfl ?_ | refine z3 tok rfl ?_ | refine U0 _ (U4 rfl rfl) rfl ?_ | refine U0 _ (U5 rfl rfl) rfl ?_) | (refine M1 ?_; first | refine J0 ?_ | refine J1 ?_ | refine J2 mixed rfl (by kernel_rfl) ?_ | refine J3 mixed rfl rfl (by kernel_rfl) ?_ | refine J4 ?_ | refine J5 ?_ | refine J6 ?_ | refine J7 ?_ | refine J8 rfl ?_ | refine J9 rfl ?_) | (refine M2 ?_; first | refine I0 ?_ | refine I1 ?_ | refine I2 ?_ | refine I3 ?_ | refine I4 ?_ | refine I5 ?_ | refine I6 rfl ?_ | refine I7 ?_ | refine I8 ?_ | refine z4 ?_) | (refine M3 ?_; first | refine O6 ?_ | refine z2 tok rfl ?_ | refine O8 rfl ?_ | refine O7 rfl ?_ rfl | refine O9 rfl ?_ rfl | refine U1 _ (U4 rfl rfl) rfl ?_ | refine U1 _ (U5 rfl rfl) rfl ?_ | refine U1 _ (U2 rfl) rfl ?_ | refine U1 _ (U3 tok rfl rfl rfl rfl rfl) rfl ?_) | (refine M4 ?_; first | refine M6 ?_ | refine U6 rfl (by kernel_rfl) ?_ | refine U7 (by kernel_rfl) ?_) | (refine M5 ?_; first | exact M7 | refine U8 rfl ?_ | refine U9 rfl rfl ?_ ?_))
      refine XE.round (s := (lo, hi)) (m, hi) ⟨hvm.1, by simpa using h10, hm1.2, h6, h7⟩ (by simp only; omega) (by repeat (first | exact Sub.nil | refine Sub.cons rfl ?_)) (fun _ h => h)
    · repeat (first | (refine M0 ?_; first | refine O0 ?_ | refine z1 tok rfl ?_ | refine O1 rfl ?_ rfl | refine O2 rfl ?_ | refine O3 rfl ?_ rfl | refine O4 rfl rfl rfl (fun _ _ => ?_) | refine O5 tok rfl rfl rfl (fun _ _ => ?_) | refine U0 _ (U2 rfl) rfl ?_ | refine U0 _ (U3 tok rfl rfl rfl rfl rfl) rfl ?_ | refine z3 tok rfl ?_ | refine U0 _ (U4 rfl rfl) rfl ?_ | refine U0 _ (U5 rfl rfl) rfl ?_) | (refine M1 ?_; first | refine J0 ?_ | refine J1 ?_ | refine J2 mixed rfl (by kernel_rfl) ?_ | refine J3 mixed rfl rfl (by kernel_rfl) ?_ | refine J4 ?_ | refine J5 ?_ | refine J6 ?_ | refine J7 ?_ | refine J8 rfl ?_ | refine J9 rfl ?_) | (refine M2 ?_; first | refine I0 ?_ | refine I1 ?_ | refine I2 ?_ | refine I3 ?_ | refine I4 ?_ | refine I5 ?_ | refine I6 rfl ?_ | refine I7 ?_ | refine I8 ?_ | refine z4 ?_) | (refine M3 ?_; first | refine O6 ?_ | refine z2 tok rfl ?_ | refine O8 rfl ?_ | refine O7 rfl ?_ rfl | refine O9 rfl ?_ rfl | refine U1 _ (U4 rfl rfl) rfl ?_ | refine U1 _ (U5 rfl rfl) rfl ?_ | refine U1 _ (U2 rfl) rfl ?_ | refine U1 _ (U3 tok rfl rfl rfl rfl rfl) rfl ?_) | (refine M4 ?_; first | refine M6 ?_ | refine U6 rfl (by kernel_rfl) ?_ | refine U7 (by kernel_rfl) ?_) | (refine M5 ?_; first | exact M7 | refine U8 rfl ?_ | refine U9 rfl rfl ?_ ?_))
      refine XE.round (s := (lo, hi)) (lo, m) ⟨h3, h4, hm1.1, by simp only; omega, .inr (by simpa using h10)⟩ (by simp only; omega) (by repeat (first | exact Sub.nil | refine Sub.cons rfl ?_)) (fun _ h => h)
  · have h9 : ¬ 1 < hi - lo := by simpa using h8
    repeat (first | (refine M0 ?_; first | refine O0 ?_ | refine z1 tok rfl ?_ | refine O1 rfl ?_ rfl | refine O2 rfl ?_ | refine O3 rfl ?_ rfl | refine O4 rfl rfl rfl (fun _ _ => ?_) | refine O5 tok rfl rfl rfl (fun _ _ => ?_) | refine U0 _ (U2 rfl) rfl ?_ | refine U0 _ (U3 tok rfl rfl rfl rfl rfl) rfl ?_ | refine z3 tok rfl ?_ | refine U0 _ (U4 rfl rfl) rfl ?_ | refine U0 _ (U5 rfl rfl) rfl ?_) | (refine M1 ?_; first | refine J0 ?_ | refine J1 ?_ | refine J2 mixed rfl (by kernel_rfl) ?_ | refine J3 mixed rfl rfl (by kernel_rfl) ?_ | refine J4 ?_ | refine J5 ?_ | refine J6 ?_ | refine J7 ?_ | refine J8 rfl ?_ | refine J9 rfl ?_) | (refine M2 ?_; first | refine I0 ?_ | refine I1 ?_ | refine I2 ?_ | refine I3 ?_ | refine I4 ?_ | refine I5 ?_ | refine I6 rfl ?_ | refine I7 ?_ | refine I8 ?_ | refine z4 ?_) | (refine M3 ?_; first | refine O6 ?_ | refine z2 tok rfl ?_ | refine O8 rfl ?_ | refine O7 rfl ?_ rfl | refine O9 rfl ?_ rfl | refine U1 _ (U4 rfl rfl) rfl ?_ | refine U1 _ (U5 rfl rfl) rfl ?_ | refine U1 _ (U2 rfl) rfl ?_ | refine U1 _ (U3 tok rfl rfl rfl rfl rfl) rfl ?_) | (refine M4 ?_; first | refine M6 ?_ | refine U6 rfl (by kernel_rfl) ?_ | refine U7 (by kernel_rfl) ?_) | (refine M5 ?_; first | exact M7 | refine U8 rfl ?_ | refine U9 rfl rfl ?_ ?_))
    refine XE.retg tok Tryd.results70 rfl (by simp only [and_self, and_true]) (fun w' S => ?_)
    rw [most_eq ho.rowsOk (by omega) h3 h4 h5 h6 h7 h9]
    exact ⟨rfl, S.toBelow⟩
set_option maxHeartbeats 4000000 in
theorem refVolume_any {p : BV} {b : Bas} {l : Int} {w : World} (hb : BasAt w w.heap.size p b) :
    Calls Tryd.prog 37 #[basV p b, .int .i64 l] w fun e w' => e = .returned (.tuple ⟨[.int .i64 (volN b l), .int .i64 (volE b l)]⟩) ∧ Below w.heap.size w w' := by
  simp only [basV, basC]
  refine enter Tryd.func37 rfl Tryd.ntmps37 rfl ?_; simp only [frame, Nat.zero_add, Nat.reduceAdd]
  repeat (first | (refine M0 ?_; first | refine O0 ?_ | refine z1 tok rfl ?_ | refine O1 rfl ?_ rfl | refine O2 rfl ?_ | refine O3 rfl ?_ rfl | refine U0 _ (Ev.call (f := 52) (ck rfl) rfl (fun w S => (good_any (hb.sys S) :))) rfl ?_ | refine O4 rfl rfl rfl (fun _ _ => ?_) | refine O5 tok rfl rfl rfl (fun _ _ => ?_) | refine U0 _ (U2 rfl) rfl ?_ | refine U0 _ (U3 tok rfl rfl rfl rfl rfl) rfl ?_ | refine z3 tok rfl ?_ | refine U0 _ (U4 rfl rfl) rfl ?_ | refine U0 _ (U5 rfl rfl) rfl ?_) | (refine M1 ?_; first | refine J0 ?_ | refine J1 ?_ | refine J2 mixed rfl (by kernel_rfl) ?_ | refine J3 mixed rfl rfl (by kernel_rfl) ?_ | refine J4 ?_ | refine J5 ?_ | refine J6 ?_ | refine J7 ?_ | refine J8 rfl ?_ | refine J9 rfl ?_) | (refine M2 ?_; first | refine I0 ?_ | refine I1 ?_ | refine I2 ?_ | refine I3 ?_ | refine I4 ?_ | refine I5 ?_ | refine I6 rfl ?_ | refine I7 ?_ | refine I8 ?_ | refine z4 ?_) | (refine M3 ?_; first | refine O6 ?_ | refine z2 tok rfl ?_ | refine O8 rfl ?_ | refine O7 rfl ?_ rfl | refine O9 rfl ?_ rfl | refine U1 _ (Ev.call (f := 52) (ck rfl) rfl (fun w S => (good_any (hb.sys S) :))) rfl ?_ | refine U1 _ (U4 rfl rfl) rfl ?_ | refine U1 _ (U5 rfl rfl) rfl ?_ | refine U1 _ (U2 rfl) rfl ?_ | refine U1 _ (U3 tok rfl rfl rfl rfl rfl) rfl ?_) | (refine M4 ?_; first | refine M6 ?_ | refine U6 rfl (by kernel_rfl) ?_ | refine U7 (by kernel_rfl) ?_) | (refine M5 ?_; first | exact M7 | refine U8 rfl ?_ | refine U9 rfl rfl ?_ ?_))
  refine XL.split _ _ rfl (fun h0 => ?_) (fun h0 => ?_) <;> rw [h0]
  rotate_left
  · have hE : chkE b ≠ 0 := by simpa using h0
    obtain ⟨e1, e2⟩ := vol_c (v := l) hE
    repeat (first | (refine M0 ?_; first | refine O0 ?_ | refine z1 tok rfl ?_ | refine O1 rfl ?_ rfl | refine O2 rfl ?_ | refine O3 rfl ?_ rfl | refine O4 rfl rfl rfl (fun _ _ => ?_) | refine O5 tok rfl rfl rfl (fun _ _ => ?_) | refine U0 _ (U2 rfl) rfl ?_ | refine U0 _ (U3 tok rfl rfl rfl rfl rfl) rfl ?_ | refine z3 tok rfl ?_ | refine U0 _ (U4 rfl rfl) rfl ?_ | refine U0 _ (U5 rfl rfl) rfl ?_) | (refine M1 ?_; first | refine J0 ?_ | refine J1 ?_ | refine J2 mixed rfl (by kernel_rfl) ?_ | refine J3 mixed rfl rfl (by kernel_rfl) ?_ | refine J4 ?_ | refine J5 ?_ | refine J6 ?_ | refine J7 ?_ | refine J8 rfl ?_ | refine J9 rfl ?_) | (refine M2 ?_; first | refine I0 ?_ | refine I1 ?_ | refine I2 ?_ | refine I3 ?_ | refine I4 ?_ | refine I5 ?_ | refine I6 rfl ?_ | refine I7 ?_ | refine I8 ?_ | refine z4 ?_) | (refine M3 ?_; first | refine O6 ?_ | refine z2 tok rfl ?_ | refine O8 rfl ?_ | refine O7 rfl ?_ rfl | refine O9 rfl ?_ rfl | refine U1 _ (U4 rfl rfl) rfl ?_ | refine U1 _ (U5 rfl rfl) rfl ?_ | refine U1 _ (U2 rfl) rfl ?_ | refine U1 _ (U3 tok rfl rfl rfl rfl rfl) rfl ?_) | (refine M4 ?_; first | refine M6 ?_ | refine U6 rfl (by kernel_rfl) ?_ | refine U7 (by kernel_rfl) ?_) | (refine M5 ?_; first | exact M7 | refine U8 rfl ?_ | refine U9 rfl rfl ?_ ?_))
    refine XC.cond _ rfl (fun h1 => ?_) (fun h1 => absurd hE (by simpa using h1))
    repeat (first | (refine M0 ?_; first | refine O0 ?_ | refine z1 tok rfl ?_ | refine O1 rfl ?_ rfl | refine O2 rfl ?_ | refine O3 rfl ?_ rfl | refine O4 rfl rfl rfl (fun _ _ => ?_) | refine O5 tok rfl rfl rfl (fun _ _ => ?_) | refine U0 _ (U2 rfl) rfl ?_ | refine U0 _ (U3 tok rfl rfl rfl rfl rfl) rfl ?_ | refine z3 tok rfl ?_ | refine U0 _ (U4 rfl rfl) rfl ?_ | refine U0 _ (U5 rfl rfl) rfl ?_) | (refine M1 ?_; first | refine J0 ?_ | refine J1 ?_ | refine J2 mixed rfl (by kernel_rfl) ?_ | refine J3 mixed rfl rfl (by kernel_rfl) ?_ | refine J4 ?_ | refine J5 ?_ | refine J6 ?_ | refine J7 ?_ | refine J8 rfl ?_ | refine J9 rfl ?_) | (refine M2 ?_; first | refine I0 ?_ | refine I1 ?_ | refine I2 ?_ | refine I3 ?_ | refine I4 ?_ | refine I5 ?_ | refine I6 rfl ?_ | refine I7 ?_ | refine I8 ?_ | refine z4 ?_) | (refine M3 ?_; first | refine O6 ?_ | refine z2 tok rfl ?_ | refine O8 rfl ?_ | refine O7 rfl ?_ rfl | refine O9 rfl ?_ rfl | refine U1 _ (U4 rfl rfl) rfl ?_ | refine U1 _ (U5 rfl rfl) rfl ?_ | refine U1 _ (U2 rfl) rfl ?_ | refine U1 _ (U3 tok rfl rfl rfl rfl rfl) rfl ?_) | (refine M4 ?_; first | refine M6 ?_ | refine U6 rfl (by kernel_rfl) ?_ | refine U7 (by kernel_rfl) ?_) | (refine M5 ?_; first | exact M7 | refine U8 rfl ?_ | refine U9 rfl rfl ?_ ?_))
    refine XE.retg tok Tryd.results37 rfl (by simp only [and_self, and_true]) (fun w' S => ?_)
    rw [e1, e2]
    exact ⟨rfl, S.toBelow⟩
  have hE : chkE b = 0 := by simpa using h0
  have ho := ok_of hE
  repeat (first | (refine M0 ?_; first | refine O0 ?_ | refine z1 tok rfl ?_ | refine O1 rfl ?_ rfl | refine O2 rfl ?_ | refine O3 rfl ?_ rfl | refine U0 _ (Ev.call (f := 58) (ck rfl) rfl (fun w S => (limited_any (p := p) (hb.sys S) ho.rowsOk l :))) rfl ?_ | refine O4 rfl rfl rfl (fun _ _ => ?_) | refine O5 tok rfl rfl rfl (fun _ _ => ?_) | refine U0 _ (U2 rfl) rfl ?_ | refine U0 _ (U3 tok rfl rfl rfl rfl rfl) rfl ?_ | refine z3 tok rfl ?_ | refine U0 _ (U4 rfl rfl) rfl ?_ | refine U0 _ (U5 rfl rfl) rfl ?_) | (refine M1 ?_; first | refine J0 ?_ | refine J1 ?_ | refine J2 mixed rfl (by kernel_rfl) ?_ | refine J3 mixed rfl rfl (by kernel_rfl) ?_ | refine J4 ?_ | refine J5 ?_ | refine J6 ?_ | refine J7 ?_ | refine J8 rfl ?_ | refine J9 rfl ?_) | (refine M2 ?_; first | refine I0 ?_ | refine I1 ?_ | refine I2 ?_ | refine I3 ?_ | refine I4 ?_ | refine I5 ?_ | refine I6 rfl ?_ | refine I7 ?_ | refine I8 ?_ | refine z4 ?_) | (refine M3 ?_; first | refine O6 ?_ | refine z2 tok rfl ?_ | refine O8 rfl ?_ | refine O7 rfl ?_ rfl | refine O9 rfl ?_ rfl | refine U1 _ (Ev.call (f := 58) (ck rfl) rfl (fun w S => (limited_any (p := p) (hb.sys S) ho.rowsOk l :))) rfl ?_ | refine U1 _ (U4 rfl rfl) rfl ?_ | refine U1 _ (U5 rfl rfl) rfl ?_ | refine U1 _ (U2 rfl) rfl ?_ | refine U1 _ (U3 tok rfl rfl rfl rfl rfl) rfl ?_) | (refine M4 ?_; first | refine M6 ?_ | refine U6 rfl (by kernel_rfl) ?_ | refine U7 (by kernel_rfl) ?_) | (refine M5 ?_; first | exact M7 | refine U8 rfl ?_ | refine U9 rfl rfl ?_ ?_))
  refine XC.cond _ rfl (fun h1 => ?_) (fun h1 => ?_)
  · have h4 : outB l (b.row 0).level 20000 = true := by simpa using h1
    obtain ⟨e1, e2⟩ := vol_7 hE h4
    repeat (first | (refine M0 ?_; first | refine O0 ?_ | refine z1 tok rfl ?_ | refine O1 rfl ?_ rfl | refine O2 rfl ?_ | refine O3 rfl ?_ rfl | refine O4 rfl rfl rfl (fun _ _ => ?_) | refine O5 tok rfl rfl rfl (fun _ _ => ?_) | refine U0 _ (U2 rfl) rfl ?_ | refine U0 _ (U3 tok rfl rfl rfl rfl rfl) rfl ?_ | refine z3 tok rfl ?_ | refine U0 _ (U4 rfl rfl) rfl ?_ | refine U0 _ (U5 rfl rfl) rfl ?_) | (refine M1 ?_; first | refine J0 ?_ | refine J1 ?_ | refine J2 mixed rfl (by kernel_rfl) ?_ | refine J3 mixed rfl rfl (by kernel_rfl) ?_ | refine J4 ?_ | refine J5 ?_ | refine J6 ?_ | refine J7 ?_ | refine J8 rfl ?_ | refine J9 rfl ?_) | (refine M2 ?_; first | refine I0 ?_ | refine I1 ?_ | refine I2 ?_ | refine I3 ?_ | refine I4 ?_ | refine I5 ?_ | refine I6 rfl ?_ | refine I7 ?_ | refine I8 ?_ | refine z4 ?_) | (refine M3 ?_; first | refine O6 ?_ | refine z2 tok rfl ?_ | refine O8 rfl ?_ | refine O7 rfl ?_ rfl | refine O9 rfl ?_ rfl | refine U1 _ (U4 rfl rfl) rfl ?_ | refine U1 _ (U5 rfl rfl) rfl ?_ | refine U1 _ (U2 rfl) rfl ?_ | refine U1 _ (U3 tok rfl rfl rfl rfl rfl) rfl ?_) | (refine M4 ?_; first | refine M6 ?_ | refine U6 rfl (by kernel_rfl) ?_ | refine U7 (by kernel_rfl) ?_) | (refine M5 ?_; first | exact M7 | refine U8 rfl ?_ | refine U9 rfl rfl ?_ ?_))
    refine XE.retg tok Tryd.results37 rfl (by simp only [and_self, and_true]) (fun w' S => ?_)
    rw [e1, e2]
    exact ⟨rfl, S.toBelow⟩
  have h4 : outB l (b.row 0).level 20000 = false := by simpa using h1
  obtain ⟨e1, e2⟩ := vol_0 hE h4
  repeat (first | (refine M0 ?_; first | refine O0 ?_ | refine z1 tok rfl ?_ | refine O1 rfl ?_ rfl | refine O2 rfl ?_ | refine O3 rfl ?_ rfl | refine O4 rfl rfl rfl (fun _ _ => ?_) | refine O5 tok rfl rfl rfl (fun _ _ => ?_) | refine U0 _ (U2 rfl) rfl ?_ | refine U0 _ (U3 tok rfl rfl rfl rfl rfl) rfl ?_ | refine z3 tok rfl ?_ | refine U0 _ (U4 rfl rfl) rfl ?_ | refine U0 _ (U5 rfl rfl) rfl ?_) | (refine M1 ?_; first | refine J0 ?_ | refine J1 ?_ | refine J2 mixed rfl (by kernel_rfl) ?_ | refine J3 mixed rfl rfl (by kernel_rfl) ?_ | refine J4 ?_ | refine J5 ?_ | refine J6 ?_ | refine J7 ?_ | refine J8 rfl ?_ | refine J9 rfl ?_) | (refine M2 ?_; first | refine I0 ?_ | refine I1 ?_ | refine I2 ?_ | refine I3 ?_ | refine I4 ?_ | refine I5 ?_ | refine I6 rfl ?_ | refine I7 ?_ | refine I8 ?_ | refine z4 ?_) | (refine M3 ?_; first | refine O6 ?_ | refine z2 tok rfl ?_ | refine O8 rfl ?_ | refine O7 rfl ?_ rfl | refine O9 rfl ?_ rfl | refine U1 _ (U4 rfl rfl) rfl ?_ | refine U1 _ (U5 rfl rfl) rfl ?_ | refine U1 _ (U2 rfl) rfl ?_ | refine U1 _ (U3 tok rfl rfl rfl rfl rfl) rfl ?_) | (refine M4 ?_; first | refine M6 ?_ | refine U6 rfl (by kernel_rfl) ?_ | refine U7 (by kernel_rfl) ?_) | (refine M5 ?_; first | exact M7 | refine U8 rfl ?_ | refine U9 rfl rfl ?_ ?_))
  refine XC.cond _ rfl (fun h => absurd hE (by simpa using h)) (fun h => ?_)
  repeat (first | (refine M0 ?_; first | refine O0 ?_ | refine z1 tok rfl ?_ | refine O1 rfl ?_ rfl | refine O2 rfl ?_ | refine O3 rfl ?_ rfl | refine U0 _ (Ev.call (f := 70) (ck rfl) rfl (fun w S => (most_any (p := p) (hb.sys S) ho h4 :))) rfl ?_ | refine O4 rfl rfl rfl (fun _ _ => ?_) | refine O5 tok rfl rfl rfl (fun _ _ => ?_) | refine U0 _ (U2 rfl) rfl ?_ | refine U0 _ (U3 tok rfl rfl rfl rfl rfl) rfl ?_ | refine z3 tok rfl ?_ | refine U0 _ (U4 rfl rfl) rfl ?_ | refine U0 _ (U5 rfl rfl) rfl ?_) | (refine M1 ?_; first | refine J0 ?_ | refine J1 ?_ | refine J2 mixed rfl (by kernel_rfl) ?_ | refine J3 mixed rfl rfl (by kernel_rfl) ?_ | refine J4 ?_ | refine J5 ?_ | refine J6 ?_ | refine J7 ?_ | refine J8 rfl ?_ | refine J9 rfl ?_) | (refine M2 ?_; first | refine I0 ?_ | refine I1 ?_ | refine I2 ?_ | refine I3 ?_ | refine I4 ?_ | refine I5 ?_ | refine I6 rfl ?_ | refine I7 ?_ | refine I8 ?_ | refine z4 ?_) | (refine M3 ?_; first | refine O6 ?_ | refine z2 tok rfl ?_ | refine O8 rfl ?_ | refine O7 rfl ?_ rfl | refine O9 rfl ?_ rfl | refine U1 _ (Ev.call (f := 70) (ck rfl) rfl (fun w S => (most_any (p := p) (hb.sys S) ho h4 :))) rfl ?_ | refine U1 _ (U4 rfl rfl) rfl ?_ | refine U1 _ (U5 rfl rfl) rfl ?_ | refine U1 _ (U2 rfl) rfl ?_ | refine U1 _ (U3 tok rfl rfl rfl rfl rfl) rfl ?_) | (refine M4 ?_; first | refine M6 ?_ | refine U6 rfl (by kernel_rfl) ?_ | refine U7 (by kernel_rfl) ?_) | (refine M5 ?_; first | exact M7 | refine U8 rfl ?_ | refine U9 rfl rfl ?_ ?_))
  refine XE.retg tok Tryd.results37 rfl (by simp only [and_self, and_true]) (fun w' S => ?_)
  rw [e1, e2]
  exact ⟨rfl, S.toBelow⟩
set_option maxHeartbeats 8000000 in
theorem Volume_any {p : BV} {b : Bas} {l : Int} {w : World} (hb : BasAt w w.heap.size p b) :
    Calls Tryd.prog 36 #[basV p b, .int .i64 l] w fun e w' => e = .returned (.tuple ⟨[.int .i64 (volN b l), .int .i64 (volE b l)]⟩) ∧ Below w.heap.size w w' := by
  obtain ⟨A, n, c, A2, n2, c2⟩ := p
  have hn := hb.n_eq
  simp only at hn
  subst hn
  have hmax := hb.len
  simp only at hmax
  simp only [basV, basC]
  refine enter Tryd.func36 rfl Tryd.ntmps36 rfl ?_; simp only [frame, Nat.zero_add, Nat.reduceAdd]
  repeat (first | (refine M0 ?_; first | refine O0 ?_ | refine z1 tok rfl ?_ | refine O1 rfl ?_ rfl | refine O2 rfl ?_ | refine O3 rfl ?_ rfl | refine U0 _ (Ev.call (f := 50) (ck rfl) rfl (fun w S => (valid_any (hb.sys S) :))) rfl ?_ | refine O4 rfl rfl rfl (fun _ _ => ?_) | refine O5 tok rfl rfl rfl (fun _ _ => ?_) | refine U0 _ (U2 rfl) rfl ?_ | refine U0 _ (U3 tok rfl rfl rfl rfl rfl) rfl ?_ | refine z3 tok rfl ?_ | refine U0 _ (U4 rfl rfl) rfl ?_ | refine U0 _ (U5 rfl rfl) rfl ?_) | (refine M1 ?_; first | refine J0 ?_ | refine J1 ?_ | refine J2 mixed rfl (by kernel_rfl) ?_ | refine J3 mixed rfl rfl (by kernel_rfl) ?_ | refine J4 ?_ | refine J5 ?_ | refine J6 ?_ | refine J7 ?_ | refine J8 rfl ?_ | refine J9 rfl ?_) | (refine M2 ?_; first | refine I0 ?_ | refine I1 ?_ | refine I2 ?_ | refine I3 ?_ | refine I4 ?_ | refine I5 ?_ | refine I6 rfl ?_ | refine I7 ?_ | refine I8 ?_ | refine z4 ?_) | (refine M3 ?_; first | refine O6 ?_ | refine z2 tok rfl ?_ | refine O8 rfl ?_ | refine O7 rfl ?_ rfl | refine O9 rfl ?_ rfl | refine U1 _ (Ev.call (f := 50) (ck rfl) rfl (fun w S => (valid_any (hb.sys S) :))) rfl ?_ | refine U1 _ (U4 rfl rfl) rfl ?_ | refine U1 _ (U5 rfl rfl) rfl ?_ | refine U1 _ (U2 rfl) rfl ?_ | refine U1 _ (U3 tok rfl rfl rfl rfl rfl) rfl ?_) | (refine M4 ?_; first | refine M6 ?_ | refine U6 rfl (by kernel_rfl) ?_ | refine U7 (by kernel_rfl) ?_) | (refine M5 ?_; first | exact M7 | refine U8 rfl ?_ | refine U9 rfl rfl ?_ ?_))
  refine XC.cond _ rfl (fun h => ?_) (fun h => ?_)
  · have hE : chkE b ≠ 0 := by simpa using h
    obtain ⟨e1, e2⟩ := vol_c (v := l) hE
    repeat (first | (refine M0 ?_; first | refine O0 ?_ | refine z1 tok rfl ?_ | refine O1 rfl ?_ rfl | refine O2 rfl ?_ | refine O3 rfl ?_ rfl | refine O4 rfl rfl rfl (fun _ _ => ?_) | refine O5 tok rfl rfl rfl (fun _ _ => ?_) | refine U0 _ (U2 rfl) rfl ?_ | refine U0 _ (U3 tok rfl rfl rfl rfl rfl) rfl ?_ | refine z3 tok rfl ?_ | refine U0 _ (U4 rfl rfl) rfl ?_ | refine U0 _ (U5 rfl rfl) rfl ?_) | (refine M1 ?_; first | refine J0 ?_ | refine J1 ?_ | refine J2 mixed rfl (by kernel_rfl) ?_ | refine J3 mixed rfl rfl (by kernel_rfl) ?_ | refine J4 ?_ | refine J5 ?_ | refine J6 ?_ | refine J7 ?_ | refine J8 rfl ?_ | refine J9 rfl ?_) | (refine M2 ?_; first | refine I0 ?_ | refine I1 ?_ | refine I2 ?_ | refine I3 ?_ | refine I4 ?_ | refine I5 ?_ | refine I6 rfl ?_ | refine I7 ?_ | refine I8 ?_ | refine z4 ?_) | (refine M3 ?_; first | refine O6 ?_ | refine z2 tok rfl ?_ | refine O8 rfl ?_ | refine O7 rfl ?_ rfl | refine O9 rfl ?_ rfl | refine U1 _ (U4 rfl rfl) rfl ?_ | refine U1 _ (U5 rfl rfl) rfl ?_ | refine U1 _ (U2 rfl) rfl ?_ | refine U1 _ (U3 tok rfl rfl rfl rfl rfl) rfl ?_) | (refine M4 ?_; first | refine M6 ?_ | refine U6 rfl (by kernel_rfl) ?_ | refine U7 (by kernel_rfl) ?_) | (refine M5 ?_; first | exact M7 | refine U8 rfl ?_ | refine U9 rfl rfl ?_ ?_))
    refine XE.retg tok Tryd.results36 rfl (by simp only [and_self, and_true]) (fun w' S => ?_)
    rw [e1, e2]
    exact ⟨rfl, S.toBelow⟩
  have hE : chkE b = 0 := by simpa using h
  have ho := (ok_of hE).rowsOk
  have h2 := ho.n2
  have h12 := ho.n12
  obtain ⟨ad, rfl, hlt⟩ := hb.rows.addr (by simp only; omega)
  repeat (first | (refine M0 ?_; first | refine O0 ?_ | refine z1 tok rfl ?_ | refine O1 rfl ?_ rfl | refine O2 rfl ?_ | refine O3 rfl ?_ rfl | refine U0 _ (Ev.load_old tok rfl rfl (add_lt2 hlt) (hb.rowLevel (i := 0) (by omega))) rfl ?_ | refine U0 _ (Ev.call (f := 51) (ck rfl) rfl (fun w S => out_any _ _ _ w)) rfl ?_ | refine O4 rfl rfl rfl (fun _ _ => ?_) | refine O5 tok rfl rfl rfl (fun _ _ => ?_) | refine U0 _ (U2 rfl) rfl ?_ | refine U0 _ (U3 tok rfl rfl rfl rfl rfl) rfl ?_ | refine z3 tok rfl ?_ | refine U0 _ (U4 rfl rfl) rfl ?_ | refine U0 _ (U5 rfl rfl) rfl ?_) | (refine M1 ?_; first | refine J0 ?_ | refine J1 ?_ | refine J2 mixed rfl (by kernel_rfl) ?_ | refine J3 mixed rfl rfl (by kernel_rfl) ?_ | refine J4 ?_ | refine J5 ?_ | refine J6 ?_ | refine J7 ?_ | refine J8 rfl ?_ | refine J9 rfl ?_) | (refine M2 ?_; first | refine I0 ?_ | refine I1 ?_ | refine I2 ?_ | refine I3 ?_ | refine I4 ?_ | refine I5 ?_ | refine I6 rfl ?_ | refine I7 ?_ | refine I8 ?_ | refine z4 ?_) | (refine M3 ?_; first | refine O6 ?_ | refine z2 tok rfl ?_ | refine O8 rfl ?_ | refine O7 rfl ?_ rfl | refine O9 rfl ?_ rfl | refine U1 _ (Ev.load_old tok rfl rfl (add_lt2 hlt) (hb.rowLevel (i := 0) (by omega))) rfl ?_ | refine U1 _ (Ev.call (f := 51) (ck rfl) rfl (fun w S => out_any _ _ _ w)) rfl ?_ | refine U1 _ (U4 rfl rfl) rfl ?_ | refine U1 _ (U5 rfl rfl) rfl ?_ | refine U1 _ (U2 rfl) rfl ?_ | refine U1 _ (U3 tok rfl rfl rfl rfl rfl) rfl ?_) | (refine M4 ?_; first | refine M6 ?_ | refine U6 rfl (by kernel_rfl) ?_ | refine U7 (by kernel_rfl) ?_) | (refine M5 ?_; first | exact M7 | refine U8 rfl ?_ | refine U9 rfl rfl ?_ ?_))
  refine XC.cond _ rfl (fun h4 => ?_) (fun h4 => ?_)
  · obtain ⟨e1, e2⟩ := vol_7 hE h4
    repeat (first | (refine M0 ?_; first | refine O0 ?_ | refine z1 tok rfl ?_ | refine O1 rfl ?_ rfl | refine O2 rfl ?_ | refine O3 rfl ?_ rfl | refine O4 rfl rfl rfl (fun _ _ => ?_) | refine O5 tok rfl rfl rfl (fun _ _ => ?_) | refine U0 _ (U2 rfl) rfl ?_ | refine U0 _ (U3 tok rfl rfl rfl rfl rfl) rfl ?_ | refine z3 tok rfl ?_ | refine U0 _ (U4 rfl rfl) rfl ?_ | refine U0 _ (U5 rfl rfl) rfl ?_) | (refine M1 ?_; first | refine J0 ?_ | refine J1 ?_ | refine J2 mixed rfl (by kernel_rfl) ?_ | refine J3 mixed rfl rfl (by kernel_rfl) ?_ | refine J4 ?_ | refine J5 ?_ | refine J6 ?_ | refine J7 ?_ | refine J8 rfl ?_ | refine J9 rfl ?_) | (refine M2 ?_; first | refine I0 ?_ | refine I1 ?_ | refine I2 ?_ | refine I3 ?_ | refine I4 ?_ | refine I5 ?_ | refine I6 rfl ?_ | refine I7 ?_ | refine I8 ?_ | refine z4 ?_) | (refine M3 ?_; first | refine O6 ?_ | refine z2 tok rfl ?_ | refine O8 rfl ?_ | refine O7 rfl ?_ rfl | refine O9 rfl ?_ rfl | refine U1 _ (U4 rfl rfl) rfl ?_ | refine U1 _ (U5 rfl rfl) rfl ?_ | refine U1 _ (U2 rfl) rfl ?_ | refine U1 _ (U3 tok rfl rfl rfl rfl rfl) rfl ?_) | (refine M4 ?_; first | refine M6 ?_ | refine U6 rfl (by kernel_rfl) ?_ | refine U7 (by kernel_rfl) ?_) | (refine M5 ?_; first | exact M7 | refine U8 rfl ?_ | refine U9 rfl rfl ?_ ?_))
    refine XE.retg tok Tryd.results36 rfl (by simp only [and_self, and_true]) (fun w' S => ?_)
    rw [e1, e2]
    exact ⟨rfl, S.toBelow⟩
  obtain ⟨e1, e2⟩ := vol_0 hE h4
  have hl := outB_f.1 h4
  obtain ⟨i1, i2, i3⟩ := lseg_spec ho hl.1
  repeat (first | (refine M0 ?_; first | refine O0 ?_ | refine z1 tok rfl ?_ | refine O1 rfl ?_ rfl | refine O2 rfl ?_ | refine O3 rfl ?_ rfl | refine O4 rfl rfl rfl (fun _ _ => ?_) | refine O5 tok rfl rfl rfl (fun _ _ => ?_) | refine U0 _ (U2 rfl) rfl ?_ | refine U0 _ (U3 tok rfl rfl rfl rfl rfl) rfl ?_ | refine z3 tok rfl ?_ | refine U0 _ (U4 rfl rfl) rfl ?_ | refine U0 _ (U5 rfl rfl) rfl ?_) | (refine M1 ?_; first | refine J0 ?_ | refine J1 ?_ | refine J2 mixed rfl (by kernel_rfl) ?_ | refine J3 mixed rfl rfl (by kernel_rfl) ?_ | refine J4 ?_ | refine J5 ?_ | refine J6 ?_ | refine J7 ?_ | refine J8 rfl ?_ | refine J9 rfl ?_) | (refine M2 ?_; first | refine I0 ?_ | refine I1 ?_ | refine I2 ?_ | refine I3 ?_ | refine I4 ?_ | refine I5 ?_ | refine I6 rfl ?_ | refine I7 ?_ | refine I8 ?_ | refine z4 ?_) | (refine M3 ?_; first | refine O6 ?_ | refine z2 tok rfl ?_ | refine O8 rfl ?_ | refine O7 rfl ?_ rfl | refine O9 rfl ?_ rfl | refine U1 _ (U4 rfl rfl) rfl ?_ | refine U1 _ (U5 rfl rfl) rfl ?_ | refine U1 _ (U2 rfl) rfl ?_ | refine U1 _ (U3 tok rfl rfl rfl rfl rfl) rfl ?_) | (refine M4 ?_; first | refine M6 ?_ | refine U6 rfl (by kernel_rfl) ?_ | refine U7 (by kernel_rfl) ?_) | (refine M5 ?_; first | exact M7 | refine U8 rfl ?_ | refine U9 rfl rfl ?_ ?_))
  refine XC.loopk [1, 2] rfl (fun i : Int => [(7, .int .i64 i)]) (fun _ => [_]) (fun _ => w)
    (fun i => (lseg b l : Int) ≤ i ∧ i ≤ (b.rows.length : Int) - 2 ∧ ∀ j : Nat, i < j → (j : Int) ≤ (b.rows.length : Int) - 2 → l < (b.row j).level) (fun i => i.toNat) ((b.rows.length : Int) - 2)
    ⟨by omega, Int.le_refl _, fun j h5 h6 => by omega⟩ (by repeat (first | exact Sub.nil | refine Sub.cons rfl ?_)) (fun _ h => h) ?_
  rintro i ⟨h5, h6, h7⟩
  obtain ⟨k, rfl⟩ : ∃ k : Nat, i = (k : Int) := ⟨i.toNat, by omega⟩
  have hk : k + 1 < b.rows.length := by omega
  dsimp only [List.cons_append, List.nil_append]
  repeat (first | (refine M0 ?_; first | refine O0 ?_ | refine z1 tok rfl ?_ | refine O1 rfl ?_ rfl | refine O2 rfl ?_ | refine O3 rfl ?_ rfl | refine U0 _ (Ev.load_old tok rfl rfl (add_lt2 hlt) (hb.rowLevel (i := k) (by omega))) rfl ?_ | refine O4 rfl rfl rfl (fun _ _ => ?_) | refine O5 tok rfl rfl rfl (fun _ _ => ?_) | refine U0 _ (U2 rfl) rfl ?_ | refine U0 _ (U3 tok rfl rfl rfl rfl rfl) rfl ?_ | refine z3 tok rfl ?_ | refine U0 _ (U4 rfl rfl) rfl ?_ | refine U0 _ (U5 rfl rfl) rfl ?_) | (refine M1 ?_; first | refine J0 ?_ | refine J1 ?_ | refine J2 mixed rfl (by kernel_rfl) ?_ | refine J3 mixed rfl rfl (by kernel_rfl) ?_ | refine J4 ?_ | refine J5 ?_ | refine J6 ?_ | refine J7 ?_ | refine J8 rfl ?_ | refine J9 rfl ?_) | (refine M2 ?_; first | refine I0 ?_ | refine I1 ?_ | refine I2 ?_ | refine I3 ?_ | refine I4 ?_ | refine I5 ?_ | refine I6 rfl ?_ | refine I7 ?_ | refine I8 ?_ | refine z4 ?_) | (refine M3 ?_; first | refine O6 ?_ | refine z2 tok rfl ?_ | refine O8 rfl ?_ | refine O7 rfl ?_ rfl | refine O9 rfl ?_ rfl | refine U1 _ (Ev.load_old tok rfl rfl (add_lt2 hlt) (hb.rowLevel (i := k) (by omega))) rfl ?_ | refine U1 _ (U4 rfl rfl) rfl ?_ | refine U1 _ (U5 rfl rfl) rfl ?_ | refine U1 _ (U2 rfl) rfl ?_ | refine U1 _ (U3 tok rfl rfl rfl rfl rfl) rfl ?_) | (refine M4 ?_; first | refine M6 ?_ | refine U6 rfl (by kernel_rfl) ?_ | refine U7 (by kernel_rfl) ?_) | (refine M5 ?_; first | exact M7 | refine U8 rfl ?_ | refine U9 rfl rfl ?_ ?_))
  refine XC.cond _ rfl (fun h8 => ?_) (fun h8 => ?_)
  · have h9 : l < (b.row k).level := by simpa using h8
    have h10 : lseg b l ≠ k := fun e => by rw [← e] at h9; omega
    repeat (first | (refine M0 ?_; first | refine O0 ?_ | refine z1 tok rfl ?_ | refine O1 rfl ?_ rfl | refine O2 rfl ?_ | refine O3 rfl ?_ rfl | refine O4 rfl rfl rfl (fun _ _ => ?_) | refine O5 tok rfl rfl rfl (fun _ _ => ?_) | refine U0 _ (U2 rfl) rfl ?_ | refine U0 _ (U3 tok rfl rfl rfl rfl rfl) rfl ?_ | refine z3 tok rfl ?_ | refine U0 _ (U4 rfl rfl) rfl ?_ | refine U0 _ (U5 rfl rfl) rfl ?_) | (refine M1 ?_; first | refine J0 ?_ | refine J1 ?_ | refine J2 mixed rfl (by kernel_rfl) ?_ | refine J3 mixed rfl rfl (by kernel_rfl) ?_ | refine J4 ?_ | refine J5 ?_ | refine J6 ?_ | refine J7 ?_ | refine J8 rfl ?_ | refine J9 rfl ?_) | (refine M2 ?_; first | refine I0 ?_ | refine I1 ?_ | refine I2 ?_ | refine I3 ?_ | refine I4 ?_ | refine I5 ?_ | refine I6 rfl ?_ | refine I7 ?_ | refine I8 ?_ | refine z4 ?_) | (refine M3 ?_; first | refine O6 ?_ | refine z2 tok rfl ?_ | refine O8 rfl ?_ | refine O7 rfl ?_ rfl | refine O9 rfl ?_ rfl | refine U1 _ (U4 rfl rfl) rfl ?_ | refine U1 _ (U5 rfl rfl) rfl ?_ | refine U1 _ (U2 rfl) rfl ?_ | refine U1 _ (U3 tok rfl rfl rfl rfl rfl) rfl ?_) | (refine M4 ?_; first | refine M6 ?_ | refine U6 rfl (by kernel_rfl) ?_ | refine U7 (by kernel_rfl) ?_) | (refine M5 ?_; first | exact M7 | refine U8 rfl ?_ | refine U9 rfl rfl ?_ ?_))
    refine XE.round (s := (k : Int)) ((k : Int) - 1) ⟨by omega, by omega, fun j hj hj2 => ?_⟩ (by omega) (by repeat (first | exact Sub.nil | refine Sub.cons rfl ?_)) (fun _ h => h)
    by_cases e : j = k
    · subst e; exact h9
    · exact h7 j (by omega) hj2
  · have h9 : (b.row k).level ≤ l := by
      have : ¬ l < (b.row k).level := by simpa using h8
      omega
    have hki : lseg b l = k := by
      rcases Nat.lt_or_ge (lseg b l) k with h10 | h10
      · have := i3 k h10 hk; omega
      · omega
    have hup := ho.levelUp k hk
    have hvp := ho.volUp k hk
    have v1 := ho.vol k (by omega)
    have v2 := ho.vol (k + 1) hk
    have l1 := ho.level k (by omega)
    have l2 := ho.level (k + 1) hk
    have hmul := mul_bd (X := 40000) (Y := 1000000000) (x := l - (b.row k).level) (y := (b.row (k + 1)).vol - (b.row k).vol) (by omega) (by omega)
    have hnn : 0 ≤ (l - (b.row k).level) * ((b.row (k + 1)).vol - (b.row k).vol) := Int.mul_nonneg (by omega) (by omega)
    have hdiv : ((l - (b.row k).level) * ((b.row (k + 1)).vol - (b.row k).vol)).tdiv ((b.row (k + 1)).level - (b.row k).level) = (l - (b.row k).level) * ((b.row (k + 1)).vol - (b.row k).vol) / ((b.row (k + 1)).level - (b.row k).level) := Int.tdiv_eq_ediv_of_nonneg hnn
    have hd0 : 0 ≤ (l - (b.row k).level) * ((b.row (k + 1)).vol - (b.row k).vol) / ((b.row (k + 1)).level - (b.row k).level) := Int.ediv_nonneg hnn (by omega)
    have hd1 : (l - (b.row k).level) * ((b.row (k + 1)).vol - (b.row k).vol) / ((b.row (k + 1)).level - (b.row k).level) ≤ (l - (b.row k).level) * ((b.row (k + 1)).vol - (b.row k).vol) := Int.ediv_le_self _ hnn
    repeat (first | (refine M0 ?_; first | refine O0 ?_ | refine z1 tok rfl ?_ | refine O1 rfl ?_ rfl | refine O2 rfl ?_ | refine O3 rfl ?_ rfl | refine O4 rfl rfl rfl (fun _ _ => ?_) | refine O5 tok rfl rfl rfl (fun _ _ => ?_) | refine U0 _ (U2 rfl) rfl ?_ | refine U0 _ (U3 tok rfl rfl rfl rfl rfl) rfl ?_ | refine z3 tok rfl ?_ | refine U0 _ (U4 rfl rfl) rfl ?_ | refine U0 _ (U5 rfl rfl) rfl ?_) | (refine M1 ?_; first | refine J0 ?_ | refine J1 ?_ | refine J2 mixed rfl (by kernel_rfl) ?_ | refine J3 mixed rfl rfl (by kernel_rfl) ?_ | refine J4 ?_ | refine J5 ?_ | refine J6 ?_ | refine J7 ?_ | refine J8 rfl ?_ | refine J9 rfl ?_) | (refine M2 ?_; first | refine I0 ?_ | refine I1 ?_ | refine I2 ?_ | refine I3 ?_ | refine I4 ?_ | refine I5 ?_ | refine I6 rfl ?_ | refine I7 ?_ | refine I8 ?_ | refine z4 ?_) | (refine M3 ?_; first | refine O6 ?_ | refine z2 tok rfl ?_ | refine O8 rfl ?_ | refine O7 rfl ?_ rfl | refine O9 rfl ?_ rfl | refine U1 _ (U4 rfl rfl) rfl ?_ | refine U1 _ (U5 rfl rfl) rfl ?_ | refine U1 _ (U2 rfl) rfl ?_ | refine U1 _ (U3 tok rfl rfl rfl rfl rfl) rfl ?_) | (refine M4 ?_; first | refine M6 ?_ | refine U6 rfl (by kernel_rfl) ?_ | refine U7 (by kernel_rfl) ?_) | (refine M5 ?_; first | exact M7 | refine U8 rfl ?_ | refine U9 rfl rfl ?_ ?_))
    refine XC.cutln [1] rfl (fun s : Nat × Nat => [(8, .pointer (some ⟨s.1, 0, none⟩)), (9, .pointer (some ⟨s.2, 0, none⟩))]) (fun s => [(s.1, cel 67 (rowC (b.row k))), (s.2, cel 67 (rowC (b.row (k + 1))))]) (fun s => w.heap.size ≤ s.1 ∧ w.heap.size ≤ s.2) ?_ ?_
    · refine XC.drawR _ [0, 1, 2, 3, 4, 5, 6, 7, 8, 9, 10] [11, 12, 13, 14] mixed (fun _ h => h) rfl (by kernel_rfl) ?_
      repeat (any_goals (first | (refine M0 ?_; first | refine O0 ?_ | refine z1 tok rfl ?_ | refine O1 rfl ?_ rfl | refine O2 rfl ?_ | refine O3 rfl ?_ rfl | (refine XL.split _ _ rfl (fun h => ?_) (fun h => ?_) <;> rw [h]) | refine U0 _ (Ev.load_old_agg tok (rowC (b.row k)) rfl rfl rfl (add_lt hlt) (hb.row (by omega))) rfl ?_ | refine U0 _ (Ev.load_old_agg tok (rowC (b.row (k + 1))) rfl rfl rfl (add_lt hlt) (hb.row hk)) rfl ?_ | refine O4 rfl rfl rfl (fun _ _ => ?_) | refine O5 tok rfl rfl rfl (fun _ _ => ?_) | refine U0 _ (U2 rfl) rfl ?_ | refine U0 _ (U3 tok rfl rfl rfl rfl rfl) rfl ?_ | refine z3 tok rfl ?_ | refine U0 _ (U4 rfl rfl) rfl ?_ | refine U0 _ (U5 rfl rfl) rfl ?_) | (refine M1 ?_; first | refine J0 ?_ | refine J1 ?_ | refine J2 mixed rfl (by kernel_rfl) ?_ | refine J3 mixed rfl rfl (by kernel_rfl) ?_ | refine J4 ?_ | refine J5 ?_ | refine J6 ?_ | refine J7 ?_ | refine J8 rfl ?_ | refine J9 rfl ?_ | refine XC.cond _ rfl (fun h => ?_) (fun h => ?_)) | (refine M2 ?_; first | refine I0 ?_ | refine I1 ?_ | refine I2 ?_ | refine I3 ?_ | refine I4 ?_ | refine I5 ?_ | refine I6 rfl ?_ | refine I7 ?_ | refine I8 ?_ | refine z4 ?_) | (refine M3 ?_; first | refine O6 ?_ | refine z2 tok rfl ?_ | refine O8 rfl ?_ | refine O7 rfl ?_ rfl | refine O9 rfl ?_ rfl | (refine Fw.split _ _ rfl (fun h => ?_) (fun h => ?_) <;> rw [h]) | refine U1 _ (Ev.load_old_agg tok (rowC (b.row k)) rfl rfl rfl (add_lt hlt) (hb.row (by omega))) rfl ?_ | refine U1 _ (Ev.load_old_agg tok (rowC (b.row (k + 1))) rfl rfl rfl (add_lt hlt) (hb.row hk)) rfl ?_ | refine U1 _ (U4 rfl rfl) rfl ?_ | refine U1 _ (U5 rfl rfl) rfl ?_ | refine U1 _ (U2 rfl) rfl ?_ | refine U1 _ (U3 tok rfl rfl rfl rfl rfl) rfl ?_) | (refine M4 ?_; first | refine M6 ?_ | refine U6 rfl (by kernel_rfl) ?_ | refine U7 (by kernel_rfl) ?_) | (refine M5 ?_; first | exact M7 | refine U8 rfl ?_ | refine U9 rfl rfl ?_ ?_)))
      all_goals
        refine XE.leaf (_, _) (by repeat (first | exact Sub.nil | refine Sub.cons rfl ?_)) (fun _ S' => by first | exact S' | exact S'.perm (by repeat (first | exact List.Perm.refl _ | refine perm1 ?_ | refine List.Perm.cons _ ?_ | refine perm2 ?_)) | exact (S'.pop (by assumption)) | exact (S'.pop2 (by assumption))) ?_
        exact ⟨by assumption, by assumption⟩
    rintro ⟨g8, g9⟩ ⟨hg8, hg9⟩
    simp only at hg8 hg9
    simp only [rowC]
    dsimp only [List.cons_append, List.nil_append]
    refine XC.hint 8 2 (XC.hint 9 1 ?_)
    have hm1 : i64in ((l - (b.row k).level) * ((b.row (k + 1)).vol - (b.row k).vol)) := by unfold i64in; omega
    have hm2 : i64in ((b.row k).vol + ((l - (b.row k).level) * ((b.row (k + 1)).vol - (b.row k).vol)).tdiv ((b.row (k + 1)).level - (b.row k).level)) := by rw [hdiv]; unfold i64in; omega
    repeat (first | (refine M0 ?_; first | refine O0 ?_ | refine z1 tok rfl ?_ | refine O1 rfl ?_ rfl | refine O2 rfl ?_ | refine O3 rfl ?_ rfl | refine O4 rfl rfl rfl (fun _ _ => ?_) | refine O5 tok rfl rfl rfl (fun _ _ => ?_) | refine U0 _ (U2 rfl) rfl ?_ | refine U0 _ (U3 tok rfl rfl rfl rfl rfl) rfl ?_ | refine z3 tok rfl ?_ | refine U0 _ (U4 rfl rfl) rfl ?_ | refine U0 _ (U5 rfl rfl) rfl ?_) | (refine M1 ?_; first | refine J0 ?_ | refine J1 ?_ | refine J2 mixed rfl (by kernel_rfl) ?_ | refine J3 mixed rfl rfl (by kernel_rfl) ?_ | refine J4 ?_ | refine J5 ?_ | refine J6 ?_ | refine J7 ?_ | refine J8 rfl ?_ | refine J9 rfl ?_) | (refine M2 ?_; first | refine I0 ?_ | refine I1 ?_ | refine I2 ?_ | refine I3 ?_ | refine I4 ?_ | refine I5 ?_ | refine I6 rfl ?_ | refine I7 ?_ | refine I8 ?_ | refine z4 ?_) | (refine M3 ?_; first | refine O6 ?_ | refine z2 tok rfl ?_ | refine O8 rfl ?_ | refine O7 rfl ?_ rfl | refine O9 rfl ?_ rfl | refine U1 _ (U4 rfl rfl) rfl ?_ | refine U1 _ (U5 rfl rfl) rfl ?_ | refine U1 _ (U2 rfl) rfl ?_ | refine U1 _ (U3 tok rfl rfl rfl rfl rfl) rfl ?_) | (refine M4 ?_; first | refine M6 ?_ | refine U6 rfl (by kernel_rfl) ?_ | refine U7 (by kernel_rfl) ?_) | (refine M5 ?_; first | exact M7 | refine U8 rfl ?_ | refine U9 rfl rfl ?_ ?_))
    refine XE.retg tok Tryd.results36 rfl (by simp only [and_self, and_true]) (fun w' S => ?_)
    rw [e1, e2]
    refine ⟨?_, S.toBelow⟩
    unfold volOf volAt
    rw [hki, hdiv]
    rfl
set_option maxHeartbeats 8000000 in
theorem BasinChecks_any {p : BV} {b : Bas} {v l : Int} {w : World} (hL : Laid w) (hb : BasAt w w.heap.size p b) :
    Calls Tryd.prog 7 #[basV p b, .int .i64 v, .int .i64 l] w fun e w' => e = .returned (.bool true) ∧ Below w.heap.size w w' := by
  simp only [basV, basC]
  refine enter Tryd.func7 rfl Tryd.ntmps7 rfl ?_; simp only [frame, Nat.zero_add, Nat.reduceAdd]
  repeat (first | (refine M0 ?_; first | refine O0 ?_ | refine z1 tok rfl ?_ | refine O1 rfl ?_ rfl | refine O2 rfl ?_ | refine O3 rfl ?_ rfl | refine U0 _ (Ev.call (f := 32) (ck rfl) rfl (fun w S => (check_any p b w (hb.sys S) :))) rfl ?_ | refine U0 _ (Ev.call (f := 33) (ck rfl) rfl (fun w S => (refCheck_any (p := p) (b := b) (hb.sys S) :))) rfl ?_ | refine O4 rfl rfl rfl (fun _ _ => ?_) | refine O5 tok rfl rfl rfl (fun _ _ => ?_) | refine U0 _ (U2 rfl) rfl ?_ | refine U0 _ (U3 tok rfl rfl rfl rfl rfl) rfl ?_ | refine z3 tok rfl ?_ | refine U0 _ (U4 rfl rfl) rfl ?_ | refine U0 _ (U5 rfl rfl) rfl ?_) | (refine M1 ?_; first | refine J0 ?_ | refine J1 ?_ | refine J2 mixed rfl (by kernel_rfl) ?_ | refine J3 mixed rfl rfl (by kernel_rfl) ?_ | refine J4 ?_ | refine J5 ?_ | refine J6 ?_ | refine J7 ?_ | refine J8 rfl ?_ | refine J9 rfl ?_) | (refine M2 ?_; first | refine I0 ?_ | refine I1 ?_ | refine I2 ?_ | refine I3 ?_ | refine I4 ?_ | refine I5 ?_ | refine I6 rfl ?_ | refine I7 ?_ | refine I8 ?_ | refine z4 ?_) | (refine M3 ?_; first | refine O6 ?_ | refine z2 tok rfl ?_ | refine O8 rfl ?_ | refine O7 rfl ?_ rfl | refine O9 rfl ?_ rfl | refine U1 _ (Ev.call (f := 32) (ck rfl) rfl (fun w S => (check_any p b w (hb.sys S) :))) rfl ?_ | refine U1 _ (Ev.call (f := 33) (ck rfl) rfl (fun w S => (refCheck_any (p := p) (b := b) (hb.sys S) :))) rfl ?_ | refine U1 _ (U4 rfl rfl) rfl ?_ | refine U1 _ (U5 rfl rfl) rfl ?_ | refine U1 _ (U2 rfl) rfl ?_ | refine U1 _ (U3 tok rfl rfl rfl rfl rfl) rfl ?_) | (refine M4 ?_; first | refine M6 ?_ | refine U6 rfl (by kernel_rfl) ?_ | refine U7 (by kernel_rfl) ?_) | (refine M5 ?_; first | exact M7 | refine U8 rfl ?_ | refine U9 rfl rfl ?_ ?_))
  simp only [chkV]
  repeat (first | (refine M0 ?_; first | refine O0 ?_ | refine z1 tok rfl ?_ | refine O1 rfl ?_ rfl | refine O2 rfl ?_ | refine O3 rfl ?_ rfl | refine O4 rfl rfl rfl (fun _ _ => ?_) | refine O5 tok rfl rfl rfl (fun _ _ => ?_) | refine U0 _ (U2 rfl) rfl ?_ | refine U0 _ (U3 tok rfl rfl rfl rfl rfl) rfl ?_ | refine z3 tok rfl ?_ | refine U0 _ (U4 rfl rfl) rfl ?_ | refine U0 _ (U5 rfl rfl) rfl ?_) | (refine M1 ?_; first | refine J0 ?_ | refine J1 ?_ | refine J2 mixed rfl (by kernel_rfl) ?_ | refine J3 mixed rfl rfl (by kernel_rfl) ?_ | refine J4 ?_ | refine J5 ?_ | refine J6 ?_ | refine J7 ?_ | refine J8 rfl ?_ | refine J9 rfl ?_) | (refine M2 ?_; first | refine I0 ?_ | refine I1 ?_ | refine I2 ?_ | refine I3 ?_ | refine I4 ?_ | refine I5 ?_ | refine I6 rfl ?_ | refine I7 ?_ | refine I8 ?_ | refine z4 ?_) | (refine M3 ?_; first | refine O6 ?_ | refine z2 tok rfl ?_ | refine O8 rfl ?_ | refine O7 rfl ?_ rfl | refine O9 rfl ?_ rfl | refine U1 _ (U4 rfl rfl) rfl ?_ | refine U1 _ (U5 rfl rfl) rfl ?_ | refine U1 _ (U2 rfl) rfl ?_ | refine U1 _ (U3 tok rfl rfl rfl rfl rfl) rfl ?_) | (refine M4 ?_; first | refine M6 ?_ | refine U6 rfl (by kernel_rfl) ?_ | refine U7 (by kernel_rfl) ?_) | (refine M5 ?_; first | exact M7 | refine U8 rfl ?_ | refine U9 rfl rfl ?_ ?_))
  refine XL.split _ _ rfl (fun h => absurd h (by simp)) (fun h => ?_)
  rw [h]
  repeat (first | (refine M0 ?_; first | refine O0 ?_ | refine z1 tok rfl ?_ | refine O1 rfl ?_ rfl | refine O2 rfl ?_ | refine O3 rfl ?_ rfl | refine O4 rfl rfl rfl (fun _ _ => ?_) | refine O5 tok rfl rfl rfl (fun _ _ => ?_) | refine U0 _ (U2 rfl) rfl ?_ | refine U0 _ (U3 tok rfl rfl rfl rfl rfl) rfl ?_ | refine z3 tok rfl ?_ | refine U0 _ (U4 rfl rfl) rfl ?_ | refine U0 _ (U5 rfl rfl) rfl ?_) | (refine M1 ?_; first | refine J0 ?_ | refine J1 ?_ | refine J2 mixed rfl (by kernel_rfl) ?_ | refine J3 mixed rfl rfl (by kernel_rfl) ?_ | refine J4 ?_ | refine J5 ?_ | refine J6 ?_ | refine J7 ?_ | refine J8 rfl ?_ | refine J9 rfl ?_) | (refine M2 ?_; first | refine I0 ?_ | refine I1 ?_ | refine I2 ?_ | refine I3 ?_ | refine I4 ?_ | refine I5 ?_ | refine I6 rfl ?_ | refine I7 ?_ | refine I8 ?_ | refine z4 ?_) | (refine M3 ?_; first | refine O6 ?_ | refine z2 tok rfl ?_ | refine O8 rfl ?_ | refine O7 rfl ?_ rfl | refine O9 rfl ?_ rfl | refine U1 _ (U4 rfl rfl) rfl ?_ | refine U1 _ (U5 rfl rfl) rfl ?_ | refine U1 _ (U2 rfl) rfl ?_ | refine U1 _ (U3 tok rfl rfl rfl rfl rfl) rfl ?_) | (refine M4 ?_; first | refine M6 ?_ | refine U6 rfl (by kernel_rfl) ?_ | refine U7 (by kernel_rfl) ?_) | (refine M5 ?_; first | exact M7 | refine U8 rfl ?_ | refine U9 rfl rfl ?_ ?_))
  refine XL.split _ _ rfl (fun h => absurd h (by simp)) (fun h => ?_)
  rw [h]
  repeat (first | (refine M0 ?_; first | refine O0 ?_ | refine z1 tok rfl ?_ | refine O1 rfl ?_ rfl | refine O2 rfl ?_ | refine O3 rfl ?_ rfl | refine O4 rfl rfl rfl (fun _ _ => ?_) | refine O5 tok rfl rfl rfl (fun _ _ => ?_) | refine U0 _ (U2 rfl) rfl ?_ | refine U0 _ (U3 tok rfl rfl rfl rfl rfl) rfl ?_ | refine z3 tok rfl ?_ | refine U0 _ (U4 rfl rfl) rfl ?_ | refine U0 _ (U5 rfl rfl) rfl ?_) | (refine M1 ?_; first | refine J0 ?_ | refine J1 ?_ | refine J2 mixed rfl (by kernel_rfl) ?_ | refine J3 mixed rfl rfl (by kernel_rfl) ?_ | refine J4 ?_ | refine J5 ?_ | refine J6 ?_ | refine J7 ?_ | refine J8 rfl ?_ | refine J9 rfl ?_) | (refine M2 ?_; first | refine I0 ?_ | refine I1 ?_ | refine I2 ?_ | refine I3 ?_ | refine I4 ?_ | refine I5 ?_ | refine I6 rfl ?_ | refine I7 ?_ | refine I8 ?_ | refine z4 ?_) | (refine M3 ?_; first | refine O6 ?_ | refine z2 tok rfl ?_ | refine O8 rfl ?_ | refine O7 rfl ?_ rfl | refine O9 rfl ?_ rfl | refine U1 _ (U4 rfl rfl) rfl ?_ | refine U1 _ (U5 rfl rfl) rfl ?_ | refine U1 _ (U2 rfl) rfl ?_ | refine U1 _ (U3 tok rfl rfl rfl rfl rfl) rfl ?_) | (refine M4 ?_; first | refine M6 ?_ | refine U6 rfl (by kernel_rfl) ?_ | refine U7 (by kernel_rfl) ?_) | (refine M5 ?_; first | exact M7 | refine U8 rfl ?_ | refine U9 rfl rfl ?_ ?_))
  refine XC.cond _ rfl (fun h => absurd h (by simp)) (fun h => ?_)
  repeat (first | (refine M0 ?_; first | refine O0 ?_ | refine z1 tok rfl ?_ | refine O1 rfl ?_ rfl | refine O2 rfl ?_ | refine O3 rfl ?_ rfl | refine U0 _ (Ev.call (f := 34) (ck rfl) rfl (fun w S => (Level_any (p := p) (b := b) (v := v) (hb.sys S) :))) rfl ?_ | refine U0 _ (Ev.call (f := 35) (ck rfl) rfl (fun w S => (refLevel_any (p := p) (b := b) (v := v) (hb.sys S) :))) rfl ?_ | refine U0 _ (Ev.spanNeq rfl rfl) rfl ?_ | refine O4 rfl rfl rfl (fun _ _ => ?_) | refine O5 tok rfl rfl rfl (fun _ _ => ?_) | refine U0 _ (U2 rfl) rfl ?_ | refine U0 _ (U3 tok rfl rfl rfl rfl rfl) rfl ?_ | refine z3 tok rfl ?_ | refine U0 _ (U4 rfl rfl) rfl ?_ | refine U0 _ (U5 rfl rfl) rfl ?_) | (refine M1 ?_; first | refine J0 ?_ | refine J1 ?_ | refine J2 mixed rfl (by kernel_rfl) ?_ | refine J3 mixed rfl rfl (by kernel_rfl) ?_ | refine J4 ?_ | refine J5 ?_ | refine J6 ?_ | refine J7 ?_ | refine J8 rfl ?_ | refine J9 rfl ?_) | (refine M2 ?_; first | refine I0 ?_ | refine I1 ?_ | refine I2 ?_ | refine I3 ?_ | refine I4 ?_ | refine I5 ?_ | refine I6 rfl ?_ | refine I7 ?_ | refine I8 ?_ | refine z4 ?_) | (refine M3 ?_; first | refine O6 ?_ | refine z2 tok rfl ?_ | refine O8 rfl ?_ | refine O7 rfl ?_ rfl | refine O9 rfl ?_ rfl | refine U1 _ (Ev.call (f := 34) (ck rfl) rfl (fun w S => (Level_any (p := p) (b := b) (v := v) (hb.sys S) :))) rfl ?_ | refine U1 _ (Ev.call (f := 35) (ck rfl) rfl (fun w S => (refLevel_any (p := p) (b := b) (v := v) (hb.sys S) :))) rfl ?_ | refine U1 _ (Ev.spanNeq rfl rfl) rfl ?_ | refine U1 _ (U4 rfl rfl) rfl ?_ | refine U1 _ (U5 rfl rfl) rfl ?_ | refine U1 _ (U2 rfl) rfl ?_ | refine U1 _ (U3 tok rfl rfl rfl rfl rfl) rfl ?_) | (refine M4 ?_; first | refine M6 ?_ | refine U6 rfl (by kernel_rfl) ?_ | refine U7 (by kernel_rfl) ?_) | (refine M5 ?_; first | exact M7 | refine U8 rfl ?_ | refine U9 rfl rfl ?_ ?_))
  refine XL.split _ _ rfl (fun h => absurd h (by simp)) (fun h => ?_)
  rw [h]
  repeat (first | (refine M0 ?_; first | refine O0 ?_ | refine z1 tok rfl ?_ | refine O1 rfl ?_ rfl | refine O2 rfl ?_ | refine O3 rfl ?_ rfl | refine O4 rfl rfl rfl (fun _ _ => ?_) | refine O5 tok rfl rfl rfl (fun _ _ => ?_) | refine U0 _ (U2 rfl) rfl ?_ | refine U0 _ (U3 tok rfl rfl rfl rfl rfl) rfl ?_ | refine z3 tok rfl ?_ | refine U0 _ (U4 rfl rfl) rfl ?_ | refine U0 _ (U5 rfl rfl) rfl ?_) | (refine M1 ?_; first | refine J0 ?_ | refine J1 ?_ | refine J2 mixed rfl (by kernel_rfl) ?_ | refine J3 mixed rfl rfl (by kernel_rfl) ?_ | refine J4 ?_ | refine J5 ?_ | refine J6 ?_ | refine J7 ?_ | refine J8 rfl ?_ | refine J9 rfl ?_) | (refine M2 ?_; first | refine I0 ?_ | refine I1 ?_ | refine I2 ?_ | refine I3 ?_ | refine I4 ?_ | refine I5 ?_ | refine I6 rfl ?_ | refine I7 ?_ | refine I8 ?_ | refine z4 ?_) | (refine M3 ?_; first | refine O6 ?_ | refine z2 tok rfl ?_ | refine O8 rfl ?_ | refine O7 rfl ?_ rfl | refine O9 rfl ?_ rfl | refine U1 _ (U4 rfl rfl) rfl ?_ | refine U1 _ (U5 rfl rfl) rfl ?_ | refine U1 _ (U2 rfl) rfl ?_ | refine U1 _ (U3 tok rfl rfl rfl rfl rfl) rfl ?_) | (refine M4 ?_; first | refine M6 ?_ | refine U6 rfl (by kernel_rfl) ?_ | refine U7 (by kernel_rfl) ?_) | (refine M5 ?_; first | exact M7 | refine U8 rfl ?_ | refine U9 rfl rfl ?_ ?_))
  refine XC.cond _ rfl (fun h => absurd h (by simp)) (fun h => ?_)
  repeat (first | (refine M0 ?_; first | refine O0 ?_ | refine z1 tok rfl ?_ | refine O1 rfl ?_ rfl | refine O2 rfl ?_ | refine O3 rfl ?_ rfl | refine U0 _ (Ev.call (f := 36) (ck rfl) rfl (fun w S => (Volume_any (p := p) (b := b) (l := l) (hb.sys S) :))) rfl ?_ | refine U0 _ (Ev.call (f := 37) (ck rfl) rfl (fun w S => (refVolume_any (p := p) (b := b) (l := l) (hb.sys S) :))) rfl ?_ | refine O4 rfl rfl rfl (fun _ _ => ?_) | refine O5 tok rfl rfl rfl (fun _ _ => ?_) | refine U0 _ (U2 rfl) rfl ?_ | refine U0 _ (U3 tok rfl rfl rfl rfl rfl) rfl ?_ | refine z3 tok rfl ?_ | refine U0 _ (U4 rfl rfl) rfl ?_ | refine U0 _ (U5 rfl rfl) rfl ?_) | (refine M1 ?_; first | refine J0 ?_ | refine J1 ?_ | refine J2 mixed rfl (by kernel_rfl) ?_ | refine J3 mixed rfl rfl (by kernel_rfl) ?_ | refine J4 ?_ | refine J5 ?_ | refine J6 ?_ | refine J7 ?_ | refine J8 rfl ?_ | refine J9 rfl ?_) | (refine M2 ?_; first | refine I0 ?_ | refine I1 ?_ | refine I2 ?_ | refine I3 ?_ | refine I4 ?_ | refine I5 ?_ | refine I6 rfl ?_ | refine I7 ?_ | refine I8 ?_ | refine z4 ?_) | (refine M3 ?_; first | refine O6 ?_ | refine z2 tok rfl ?_ | refine O8 rfl ?_ | refine O7 rfl ?_ rfl | refine O9 rfl ?_ rfl | refine U1 _ (Ev.call (f := 36) (ck rfl) rfl (fun w S => (Volume_any (p := p) (b := b) (l := l) (hb.sys S) :))) rfl ?_ | refine U1 _ (Ev.call (f := 37) (ck rfl) rfl (fun w S => (refVolume_any (p := p) (b := b) (l := l) (hb.sys S) :))) rfl ?_ | refine U1 _ (U4 rfl rfl) rfl ?_ | refine U1 _ (U5 rfl rfl) rfl ?_ | refine U1 _ (U2 rfl) rfl ?_ | refine U1 _ (U3 tok rfl rfl rfl rfl rfl) rfl ?_) | (refine M4 ?_; first | refine M6 ?_ | refine U6 rfl (by kernel_rfl) ?_ | refine U7 (by kernel_rfl) ?_) | (refine M5 ?_; first | exact M7 | refine U8 rfl ?_ | refine U9 rfl rfl ?_ ?_))
  rw [show decide (volN b l = volN b l) = true by simp]
  repeat (first | (refine M0 ?_; first | refine O0 ?_ | refine z1 tok rfl ?_ | refine O1 rfl ?_ rfl | refine O2 rfl ?_ | refine O3 rfl ?_ rfl | refine O4 rfl rfl rfl (fun _ _ => ?_) | refine O5 tok rfl rfl rfl (fun _ _ => ?_) | refine U0 _ (U2 rfl) rfl ?_ | refine U0 _ (U3 tok rfl rfl rfl rfl rfl) rfl ?_ | refine z3 tok rfl ?_ | refine U0 _ (U4 rfl rfl) rfl ?_ | refine U0 _ (U5 rfl rfl) rfl ?_) | (refine M1 ?_; first | refine J0 ?_ | refine J1 ?_ | refine J2 mixed rfl (by kernel_rfl) ?_ | refine J3 mixed rfl rfl (by kernel_rfl) ?_ | refine J4 ?_ | refine J5 ?_ | refine J6 ?_ | refine J7 ?_ | refine J8 rfl ?_ | refine J9 rfl ?_) | (refine M2 ?_; first | refine I0 ?_ | refine I1 ?_ | refine I2 ?_ | refine I3 ?_ | refine I4 ?_ | refine I5 ?_ | refine I6 rfl ?_ | refine I7 ?_ | refine I8 ?_ | refine z4 ?_) | (refine M3 ?_; first | refine O6 ?_ | refine z2 tok rfl ?_ | refine O8 rfl ?_ | refine O7 rfl ?_ rfl | refine O9 rfl ?_ rfl | refine U1 _ (U4 rfl rfl) rfl ?_ | refine U1 _ (U5 rfl rfl) rfl ?_ | refine U1 _ (U2 rfl) rfl ?_ | refine U1 _ (U3 tok rfl rfl rfl rfl rfl) rfl ?_) | (refine M4 ?_; first | refine M6 ?_ | refine U6 rfl (by kernel_rfl) ?_ | refine U7 (by kernel_rfl) ?_) | (refine M5 ?_; first | exact M7 | refine U8 rfl ?_ | refine U9 rfl rfl ?_ ?_))
  rw [show decide (volE b l = volE b l) = true by simp]
  repeat (first | (refine M0 ?_; first | refine O0 ?_ | refine z1 tok rfl ?_ | refine O1 rfl ?_ rfl | refine O2 rfl ?_ | refine O3 rfl ?_ rfl | refine U0 _ (Ev.call (f := 23) (ck rfl) rfl (fun w S => (Awake_any (hL.below S.toBelow) :))) rfl ?_ | refine O4 rfl rfl rfl (fun _ _ => ?_) | refine O5 tok rfl rfl rfl (fun _ _ => ?_) | refine U0 _ (U2 rfl) rfl ?_ | refine U0 _ (U3 tok rfl rfl rfl rfl rfl) rfl ?_ | refine z3 tok rfl ?_ | refine U0 _ (U4 rfl rfl) rfl ?_ | refine U0 _ (U5 rfl rfl) rfl ?_) | (refine M1 ?_; first | refine J0 ?_ | refine J1 ?_ | refine J2 mixed rfl (by kernel_rfl) ?_ | refine J3 mixed rfl rfl (by kernel_rfl) ?_ | refine J4 ?_ | refine J5 ?_ | refine J6 ?_ | refine J7 ?_ | refine J8 rfl ?_ | refine J9 rfl ?_) | (refine M2 ?_; first | refine I0 ?_ | refine I1 ?_ | refine I2 ?_ | refine I3 ?_ | refine I4 ?_ | refine I5 ?_ | refine I6 rfl ?_ | refine I7 ?_ | refine I8 ?_ | refine z4 ?_) | (refine M3 ?_; first | refine O6 ?_ | refine z2 tok rfl ?_ | refine O8 rfl ?_ | refine O7 rfl ?_ rfl | refine O9 rfl ?_ rfl | refine U1 _ (Ev.call (f := 23) (ck rfl) rfl (fun w S => (Awake_any (hL.below S.toBelow) :))) rfl ?_ | refine U1 _ (U4 rfl rfl) rfl ?_ | refine U1 _ (U5 rfl rfl) rfl ?_ | refine U1 _ (U2 rfl) rfl ?_ | refine U1 _ (U3 tok rfl rfl rfl rfl rfl) rfl ?_) | (refine M4 ?_; first | refine M6 ?_ | refine U6 rfl (by kernel_rfl) ?_ | refine U7 (by kernel_rfl) ?_) | (refine M5 ?_; first | exact M7 | refine U8 rfl ?_ | refine U9 rfl rfl ?_ ?_))
  refine XE.retg tok Tryd.results7 rfl (by simp only [and_self, and_true]) (fun w' S => ?_)
  exact ⟨rfl, S.toBelow⟩
end Go.Proofs.YtoiepgcjinccpaaDoor.X
/-
  The law BasinLasts.
-/
namespace Go.Proofs.YtoiepgcjinccpaaDoor.Bs
theorem staErr_c0 {b : Bas} {s : Sta} (h : staErr b s = 0) : chkE b = 0 := by
  by_cases h0 : chkE b = 0
  · exact h0
  · rw [staErr_c h0] at h; exact absurd h h0
theorem hi_le_iff {b : Bas} (h : RowsOk b) {v l : Int} : levHi b v ≤ l ↔ num b v ≤ l * den b v := by
  have p1 := den_pos h v
  constructor
  · intro h1
    have h2 := hi_ge h (v := v)
    have h3 : levHi b v * den b v ≤ l * den b v := Int.mul_le_mul_of_nonneg_right h1 (by omega)
    omega
  · intro h1
    unfold levHi
    have : -l ≤ (-(num b v)) / den b v := by
      rw [Int.le_ediv_iff_mul_le (by omega), Int.neg_mul]
      omega
    omega
end Go.Proofs.YtoiepgcjinccpaaDoor.Bs
namespace Go.Proofs.YtoiepgcjinccpaaDoor.X
open Go Go.RowKit Go.Proofs.YtoiepgcjinccpaaDoor.Bs
set_option linter.unusedVariables false
section
variable {P : Program} {N : Nat} {B : Nat} {w0 : World} {ds : List Deferred} {F : Fr} {L : Lo} {pu : Prop} {dst : Option Tmp} {ty : TypeId} {p : String} {af : Array Edge} {gd : Option (Nat × Bool)}
theorem Ev.boolNeq {x y : Operand} {t u : TypeId} {a b : Bool} (ht : P.underlying t = some .bool) (hx : evo F x = some (.bool a)) (hy : evo F y = some (.bool b)) :
    Ev P N B w0 ds pu F L ⟨dst, .binOp .neq t x y u, ty, p, af, gd⟩ (.bool (!(a == b))) := .of_run fun a' w hf hw => by
  have e1 := hf.eval hx
  have e2 := hf.eval hy
  have h2 := run_neq_bool (P := P) w t a b ht
  simp only [execOp, e1, e2]
  simp [eqGuard, h2]
end
theorem stay_ok {b : Bas} {s : Sta} {ts : List Tick} {lim : Int} (h : stayE b s ts lim = 0) : runE b s ts = 0 ∧ outB lim (b.row 0).level 20000 = false ∧ stayN b s ts lim = (((momsAt b s ts ts.length).findIdx fun x => overB b lim x.1.vol : Nat) : Int) := by
  by_cases h0 : runE b s ts = 0
  · cases h1 : outB lim (b.row 0).level 20000 with
    | true => rw [(stay_out h0 h1).1] at h; cases h
    | false => exact ⟨h0, rfl, (stay_in h0 h1).2⟩
  · rw [(stay_run h0).1] at h; exact absurd h h0
set_option maxHeartbeats 8000000 in
theorem BasinLasts_any {p : BV} {b : Bas} {x : CV} {c : Cas} {w : World} (hL : Laid w) (hb : BasAt w w.heap.size p b) (hc : CaseAt w (Lt w.heap.size) x c) :
    Calls Tryd.prog 10 #[basV p b, caseV x c] w fun e w' => e = .returned (.bool true) ∧ Below w.heap.size w w' := by
  obtain ⟨q, ⟨A7, n7, c7⟩⟩ := x
  obtain ⟨s, ts, lim⟩ := c
  obtain ⟨hq, ht⟩ := hc
  simp only at hq ht
  have hn7 := ht.len
  simp only at hn7
  subst hn7
  simp only [basV, basC, caseV, caseC]
  refine enter Tryd.func10 rfl Tryd.ntmps10 rfl ?_; simp only [frame, Nat.zero_add, Nat.reduceAdd]
  repeat (first | (refine M0 ?_; first | refine O0 ?_ | refine z1 tok rfl ?_ | refine O1 rfl ?_ rfl | refine O2 rfl ?_ | refine O3 rfl ?_ rfl | refine U0 _ (Ev.call (f := 27) (ck rfl) rfl (fun w S => (Stay_any (p := p) (q := q) (r := ⟨A7, ts.length, c7⟩) (s := s) (ts := ts) (lim := lim) (hL.below S.toBelow) (hb.sys S) (hq.arg S) (ht.arg S) :))) rfl ?_ | refine O4 rfl rfl rfl (fun _ _ => ?_) | refine O5 tok rfl rfl rfl (fun _ _ => ?_) | refine U0 _ (U2 rfl) rfl ?_ | refine U0 _ (U3 tok rfl rfl rfl rfl rfl) rfl ?_ | refine z3 tok rfl ?_ | refine U0 _ (U4 rfl rfl) rfl ?_ | refine U0 _ (U5 rfl rfl) rfl ?_) | (refine M1 ?_; first | refine J0 ?_ | refine J1 ?_ | refine J2 mixed rfl (by kernel_rfl) ?_ | refine J3 mixed rfl rfl (by kernel_rfl) ?_ | refine J4 ?_ | refine J5 ?_ | refine J6 ?_ | refine J7 ?_ | refine J8 rfl ?_ | refine J9 rfl ?_) | (refine M2 ?_; first | refine I0 ?_ | refine I1 ?_ | refine I2 ?_ | refine I3 ?_ | refine I4 ?_ | refine I5 ?_ | refine I6 rfl ?_ | refine I7 ?_ | refine I8 ?_ | refine z4 ?_) | (refine M3 ?_; first | refine O6 ?_ | refine z2 tok rfl ?_ | refine O8 rfl ?_ | refine O7 rfl ?_ rfl | refine O9 rfl ?_ rfl | refine U1 _ (Ev.call (f := 27) (ck rfl) rfl (fun w S => (Stay_any (p := p) (q := q) (r := ⟨A7, ts.length, c7⟩) (s := s) (ts := ts) (lim := lim) (hL.below S.toBelow) (hb.sys S) (hq.arg S) (ht.arg S) :))) rfl ?_ | refine U1 _ (U4 rfl rfl) rfl ?_ | refine U1 _ (U5 rfl rfl) rfl ?_ | refine U1 _ (U2 rfl) rfl ?_ | refine U1 _ (U3 tok rfl rfl rfl rfl rfl) rfl ?_) | (refine M4 ?_; first | refine M6 ?_ | refine U6 rfl (by kernel_rfl) ?_ | refine U7 (by kernel_rfl) ?_) | (refine M5 ?_; first | exact M7 | refine U8 rfl ?_ | refine U9 rfl rfl ?_ ?_))
  rename_i g2 hg2 g3 hg3
  refine XL.callF (RunV b s ts) (ck rfl) rfl rfl (Fam.start (ks := []) (Nat.le_refl w.heap.size)) (fun _ h => by cases h) (Below.refl w.heap.size w) (fun w1 S1 _ _ => Run_made (p := p) (q := q) (r := ⟨A7, ts.length, c7⟩) (hL.below S1.toBelow) (hb.sys S1) (hq.arg S1) (ht.arg S1)) (fun w2 v new hR hF2 hB2 hk2 => ?_)
  obtain ⟨⟨A1, n1, c1⟩, r2, l1, l2, rfl, rfl, e1, e2⟩ := hR
  have hls : ListAt staK w2 (Free w2 w.heap.size _ _) ⟨A1, n1, c1⟩ l1 := hF2.held (hList staK ⟨A1, n1, c1⟩ l1) (.head _)
  have hn1 := hls.len (by decide)
  simp only at hn1
  subst hn1
  have hmx := hls.max
  simp only at hmx
  simp only [svV]
  repeat (first | (refine M0 ?_; first | refine O0 ?_ | refine z1 tok rfl ?_ | refine O1 rfl ?_ rfl | refine O2 rfl ?_ | refine O3 rfl ?_ rfl | refine O4 rfl rfl rfl (fun _ _ => ?_) | refine O5 tok rfl rfl rfl (fun _ _ => ?_) | refine U0 _ (U2 rfl) rfl ?_ | refine U0 _ (U3 tok rfl rfl rfl rfl rfl) rfl ?_ | refine z3 tok rfl ?_ | refine U0 _ (U4 rfl rfl) rfl ?_ | refine U0 _ (U5 rfl rfl) rfl ?_) | (refine M1 ?_; first | refine J0 ?_ | refine J1 ?_ | refine J2 mixed rfl (by kernel_rfl) ?_ | refine J3 mixed rfl rfl (by kernel_rfl) ?_ | refine J4 ?_ | refine J5 ?_ | refine J6 ?_ | refine J7 ?_ | refine J8 rfl ?_ | refine J9 rfl ?_) | (refine M2 ?_; first | refine I0 ?_ | refine I1 ?_ | refine I2 ?_ | refine I3 ?_ | refine I4 ?_ | refine I5 ?_ | refine I6 rfl ?_ | refine I7 ?_ | refine I8 ?_ | refine z4 ?_) | (refine M3 ?_; first | refine O6 ?_ | refine z2 tok rfl ?_ | refine O8 rfl ?_ | refine O7 rfl ?_ rfl | refine O9 rfl ?_ rfl | refine U1 _ (U4 rfl rfl) rfl ?_ | refine U1 _ (U5 rfl rfl) rfl ?_ | refine U1 _ (U2 rfl) rfl ?_ | refine U1 _ (U3 tok rfl rfl rfl rfl rfl) rfl ?_) | (refine M4 ?_; first | refine M6 ?_ | refine U6 rfl (by kernel_rfl) ?_ | refine U7 (by kernel_rfl) ?_) | (refine M5 ?_; first | exact M7 | refine U8 rfl ?_ | refine U9 rfl rfl ?_ ?_))
  refine XC.cond _ rfl (fun h0 => ?_) (fun h0 => ?_)
  · repeat (first | (refine M0 ?_; first | refine O0 ?_ | refine z1 tok rfl ?_ | refine O1 rfl ?_ rfl | refine O2 rfl ?_ | refine O3 rfl ?_ rfl | refine U0 _ (Ev.call (f := 23) (ck rfl) rfl (fun w S => (Awake_any (hL.below (hB2.trans S.toBelow)) :))) rfl ?_ | refine O4 rfl rfl rfl (fun _ _ => ?_) | refine O5 tok rfl rfl rfl (fun _ _ => ?_) | refine U0 _ (U2 rfl) rfl ?_ | refine U0 _ (U3 tok rfl rfl rfl rfl rfl) rfl ?_ | refine z3 tok rfl ?_ | refine U0 _ (U4 rfl rfl) rfl ?_ | refine U0 _ (U5 rfl rfl) rfl ?_) | (refine M1 ?_; first | refine J0 ?_ | refine J1 ?_ | refine J2 mixed rfl (by kernel_rfl) ?_ | refine J3 mixed rfl rfl (by kernel_rfl) ?_ | refine J4 ?_ | refine J5 ?_ | refine J6 ?_ | refine J7 ?_ | refine J8 rfl ?_ | refine J9 rfl ?_) | (refine M2 ?_; first | refine I0 ?_ | refine I1 ?_ | refine I2 ?_ | refine I3 ?_ | refine I4 ?_ | refine I5 ?_ | refine I6 rfl ?_ | refine I7 ?_ | refine I8 ?_ | refine z4 ?_) | (refine M3 ?_; first | refine O6 ?_ | refine z2 tok rfl ?_ | refine O8 rfl ?_ | refine O7 rfl ?_ rfl | refine O9 rfl ?_ rfl | refine U1 _ (Ev.call (f := 23) (ck rfl) rfl (fun w S => (Awake_any (hL.below (hB2.trans S.toBelow)) :))) rfl ?_ | refine U1 _ (U4 rfl rfl) rfl ?_ | refine U1 _ (U5 rfl rfl) rfl ?_ | refine U1 _ (U2 rfl) rfl ?_ | refine U1 _ (U3 tok rfl rfl rfl rfl rfl) rfl ?_) | (refine M4 ?_; first | refine M6 ?_ | refine U6 rfl (by kernel_rfl) ?_ | refine U7 (by kernel_rfl) ?_) | (refine M5 ?_; first | exact M7 | refine U8 rfl ?_ | refine U9 rfl rfl ?_ ?_))
    refine XE.retg tok Tryd.results10 rfl (by simp only [and_self, and_true]) (fun w' S => ?_)
    exact ⟨rfl, hB2.trans S.toBelow⟩
  have hS : stayE b s ts lim = 0 := by simpa using h0
  obtain ⟨hE, hout, hN⟩ := stay_ok hS
  obtain ⟨hs0, h300, herr⟩ := runE_0 hE
  obtain ⟨ho, hs⟩ := staOk_of hs0
  have hl1 : l1.length = ts.length := by
    have := congrArg List.length e1
    rw [runS_len hE] at this
    simpa using this
  rw [← runS_find e1 hE] at hN
  obtain ⟨m, hm⟩ : ∃ m, m = l1.findIdx fun a => overB b lim a.s.vol := ⟨_, rfl⟩
  rw [← hm] at hN
  have hml : m ≤ l1.length := by rw [hm]; exact List.findIdx_le_length
  have hlt1 : ∀ j, (hj : j < l1.length) → j < m → overB b lim l1[j].s.vol = false := fun j hj h => by
    have := List.not_of_lt_findIdx (p := fun a : StaI => overB b lim a.s.vol) (xs := l1) (i := j) (by rw [← hm]; exact h)
    simpa using this
  have hge1 : (hj : m < l1.length) → overB b lim l1[m].s.vol = true := fun hj => by
    have := List.findIdx_getElem (p := fun a : StaI => overB b lim a.s.vol) (xs := l1) (w := by rw [← hm]; exact hj)
    simpa [← hm] using this
  rw [hN, hE]
  repeat (first | (refine M0 ?_; first | refine O0 ?_ | refine z1 tok rfl ?_ | refine O1 rfl ?_ rfl | refine O2 rfl ?_ | refine O3 rfl ?_ rfl | refine O4 rfl rfl rfl (fun _ _ => ?_) | refine O5 tok rfl rfl rfl (fun _ _ => ?_) | refine U0 _ (U2 rfl) rfl ?_ | refine U0 _ (U3 tok rfl rfl rfl rfl rfl) rfl ?_ | refine z3 tok rfl ?_ | refine U0 _ (U4 rfl rfl) rfl ?_ | refine U0 _ (U5 rfl rfl) rfl ?_) | (refine M1 ?_; first | refine J0 ?_ | refine J1 ?_ | refine J2 mixed rfl (by kernel_rfl) ?_ | refine J3 mixed rfl rfl (by kernel_rfl) ?_ | refine J4 ?_ | refine J5 ?_ | refine J6 ?_ | refine J7 ?_ | refine J8 rfl ?_ | refine J9 rfl ?_) | (refine M2 ?_; first | refine I0 ?_ | refine I1 ?_ | refine I2 ?_ | refine I3 ?_ | refine I4 ?_ | refine I5 ?_ | refine I6 rfl ?_ | refine I7 ?_ | refine I8 ?_ | refine z4 ?_) | (refine M3 ?_; first | refine O6 ?_ | refine z2 tok rfl ?_ | refine O8 rfl ?_ | refine O7 rfl ?_ rfl | refine O9 rfl ?_ rfl | refine U1 _ (U4 rfl rfl) rfl ?_ | refine U1 _ (U5 rfl rfl) rfl ?_ | refine U1 _ (U2 rfl) rfl ?_ | refine U1 _ (U3 tok rfl rfl rfl rfl rfl) rfl ?_) | (refine M4 ?_; first | refine M6 ?_ | refine U6 rfl (by kernel_rfl) ?_ | refine U7 (by kernel_rfl) ?_) | (refine M5 ?_; first | exact M7 | refine U8 rfl ?_ | refine U9 rfl rfl ?_ ?_))
  refine XL.split _ _ rfl (fun h => absurd h (by simp; omega)) (fun h => ?_)
  rw [h]
  repeat (first | (refine M0 ?_; first | refine O0 ?_ | refine z1 tok rfl ?_ | refine O1 rfl ?_ rfl | refine O2 rfl ?_ | refine O3 rfl ?_ rfl | refine O4 rfl rfl rfl (fun _ _ => ?_) | refine O5 tok rfl rfl rfl (fun _ _ => ?_) | refine U0 _ (U2 rfl) rfl ?_ | refine U0 _ (U3 tok rfl rfl rfl rfl rfl) rfl ?_ | refine z3 tok rfl ?_ | refine U0 _ (U4 rfl rfl) rfl ?_ | refine U0 _ (U5 rfl rfl) rfl ?_) | (refine M1 ?_; first | refine J0 ?_ | refine J1 ?_ | refine J2 mixed rfl (by kernel_rfl) ?_ | refine J3 mixed rfl rfl (by kernel_rfl) ?_ | refine J4 ?_ | refine J5 ?_ | refine J6 ?_ | refine J7 ?_ | refine J8 rfl ?_ | refine J9 rfl ?_) | (refine M2 ?_; first | refine I0 ?_ | refine I1 ?_ | refine I2 ?_ | refine I3 ?_ | refine I4 ?_ | refine I5 ?_ | refine I6 rfl ?_ | refine I7 ?_ | refine I8 ?_ | refine z4 ?_) | (refine M3 ?_; first | refine O6 ?_ | refine z2 tok rfl ?_ | refine O8 rfl ?_ | refine O7 rfl ?_ rfl | refine O9 rfl ?_ rfl | refine U1 _ (U4 rfl rfl) rfl ?_ | refine U1 _ (U5 rfl rfl) rfl ?_ | refine U1 _ (U2 rfl) rfl ?_ | refine U1 _ (U3 tok rfl rfl rfl rfl rfl) rfl ?_) | (refine M4 ?_; first | refine M6 ?_ | refine U6 rfl (by kernel_rfl) ?_ | refine U7 (by kernel_rfl) ?_) | (refine M5 ?_; first | exact M7 | refine U8 rfl ?_ | refine U9 rfl rfl ?_ ?_))
  refine XC.cond _ rfl (fun h => absurd h (by simp; omega)) (fun h => ?_)
  repeat (first | (refine M0 ?_; first | refine O0 ?_ | refine z1 tok rfl ?_ | refine O1 rfl ?_ rfl | refine O2 rfl ?_ | refine O3 rfl ?_ rfl | refine O4 rfl rfl rfl (fun _ _ => ?_) | refine O5 tok rfl rfl rfl (fun _ _ => ?_) | refine U0 _ (U2 rfl) rfl ?_ | refine U0 _ (U3 tok rfl rfl rfl rfl rfl) rfl ?_ | refine z3 tok rfl ?_ | refine U0 _ (U4 rfl rfl) rfl ?_ | refine U0 _ (U5 rfl rfl) rfl ?_) | (refine M1 ?_; first | refine J0 ?_ | refine J1 ?_ | refine J2 mixed rfl (by kernel_rfl) ?_ | refine J3 mixed rfl rfl (by kernel_rfl) ?_ | refine J4 ?_ | refine J5 ?_ | refine J6 ?_ | refine J7 ?_ | refine J8 rfl ?_ | refine J9 rfl ?_) | (refine M2 ?_; first | refine I0 ?_ | refine I1 ?_ | refine I2 ?_ | refine I3 ?_ | refine I4 ?_ | refine I5 ?_ | refine I6 rfl ?_ | refine I7 ?_ | refine I8 ?_ | refine z4 ?_) | (refine M3 ?_; first | refine O6 ?_ | refine z2 tok rfl ?_ | refine O8 rfl ?_ | refine O7 rfl ?_ rfl | refine O9 rfl ?_ rfl | refine U1 _ (U4 rfl rfl) rfl ?_ | refine U1 _ (U5 rfl rfl) rfl ?_ | refine U1 _ (U2 rfl) rfl ?_ | refine U1 _ (U3 tok rfl rfl rfl rfl rfl) rfl ?_) | (refine M4 ?_; first | refine M6 ?_ | refine U6 rfl (by kernel_rfl) ?_ | refine U7 (by kernel_rfl) ?_) | (refine M5 ?_; first | exact M7 | refine U8 rfl ?_ | refine U9 rfl rfl ?_ ?_))
  refine XC.loopk [2, 3, 5, 7] rfl (fun k : Nat => [(10, .int .i64 (k : Nat))]) (fun _ => [(g3, cel 49 [.int .i64 s.vol, .slice q.A q.n q.c, .slice A7 ts.length c7, .int .i64 lim]), (g2, cel 25 [.slice p.A p.n p.c, .int .i64 b.leak, .int .i64 b.crest, .int .i64 b.over, .slice p.A2 p.n2 p.c2])]) (fun _ => w2)
    (fun k => k ≤ l1.length ∧ k ≤ m + 1) (fun k => l1.length - k) 0 ⟨Nat.zero_le _, Nat.zero_le _⟩ (by repeat (first | exact Sub.nil | refine Sub.cons rfl ?_)) (fun _ h => h) ?_
  rintro k ⟨hk, hkm⟩
  dsimp only [List.cons_append, List.nil_append]
  repeat (first | (refine M0 ?_; first | refine O0 ?_ | refine z1 tok rfl ?_ | refine O1 rfl ?_ rfl | refine O2 rfl ?_ | refine O3 rfl ?_ rfl | refine O4 rfl rfl rfl (fun _ _ => ?_) | refine O5 tok rfl rfl rfl (fun _ _ => ?_) | refine U0 _ (U2 rfl) rfl ?_ | refine U0 _ (U3 tok rfl rfl rfl rfl rfl) rfl ?_ | refine z3 tok rfl ?_ | refine U0 _ (U4 rfl rfl) rfl ?_ | refine U0 _ (U5 rfl rfl) rfl ?_) | (refine M1 ?_; first | refine J0 ?_ | refine J1 ?_ | refine J2 mixed rfl (by kernel_rfl) ?_ | refine J3 mixed rfl rfl (by kernel_rfl) ?_ | refine J4 ?_ | refine J5 ?_ | refine J6 ?_ | refine J7 ?_ | refine J8 rfl ?_ | refine J9 rfl ?_) | (refine M2 ?_; first | refine I0 ?_ | refine I1 ?_ | refine I2 ?_ | refine I3 ?_ | refine I4 ?_ | refine I5 ?_ | refine I6 rfl ?_ | refine I7 ?_ | refine I8 ?_ | refine z4 ?_) | (refine M3 ?_; first | refine O6 ?_ | refine z2 tok rfl ?_ | refine O8 rfl ?_ | refine O7 rfl ?_ rfl | refine O9 rfl ?_ rfl | refine U1 _ (U4 rfl rfl) rfl ?_ | refine U1 _ (U5 rfl rfl) rfl ?_ | refine U1 _ (U2 rfl) rfl ?_ | refine U1 _ (U3 tok rfl rfl rfl rfl rfl) rfl ?_) | (refine M4 ?_; first | refine M6 ?_ | refine U6 rfl (by kernel_rfl) ?_ | refine U7 (by kernel_rfl) ?_) | (refine M5 ?_; first | exact M7 | refine U8 rfl ?_ | refine U9 rfl rfl ?_ ?_))
  refine XL.split _ _ rfl (fun h => ?_) (fun h => ?_) <;> rw [h]
  rotate_left
  · repeat (first | (refine M0 ?_; first | refine O0 ?_ | refine z1 tok rfl ?_ | refine O1 rfl ?_ rfl | refine O2 rfl ?_ | refine O3 rfl ?_ rfl | refine U0 _ (Ev.call (f := 23) (ck rfl) rfl (fun w S => (Awake_any (hL.below (hB2.trans S.toBelow)) :))) rfl ?_ | refine O4 rfl rfl rfl (fun _ _ => ?_) | refine O5 tok rfl rfl rfl (fun _ _ => ?_) | refine U0 _ (U2 rfl) rfl ?_ | refine U0 _ (U3 tok rfl rfl rfl rfl rfl) rfl ?_ | refine z3 tok rfl ?_ | refine U0 _ (U4 rfl rfl) rfl ?_ | refine U0 _ (U5 rfl rfl) rfl ?_) | (refine M1 ?_; first | refine J0 ?_ | refine J1 ?_ | refine J2 mixed rfl (by kernel_rfl) ?_ | refine J3 mixed rfl rfl (by kernel_rfl) ?_ | refine J4 ?_ | refine J5 ?_ | refine J6 ?_ | refine J7 ?_ | refine J8 rfl ?_ | refine J9 rfl ?_) | (refine M2 ?_; first | refine I0 ?_ | refine I1 ?_ | refine I2 ?_ | refine I3 ?_ | refine I4 ?_ | refine I5 ?_ | refine I6 rfl ?_ | refine I7 ?_ | refine I8 ?_ | refine z4 ?_) | (refine M3 ?_; first | refine O6 ?_ | refine z2 tok rfl ?_ | refine O8 rfl ?_ | refine O7 rfl ?_ rfl | refine O9 rfl ?_ rfl | refine U1 _ (Ev.call (f := 23) (ck rfl) rfl (fun w S => (Awake_any (hL.below (hB2.trans S.toBelow)) :))) rfl ?_ | refine U1 _ (U4 rfl rfl) rfl ?_ | refine U1 _ (U5 rfl rfl) rfl ?_ | refine U1 _ (U2 rfl) rfl ?_ | refine U1 _ (U3 tok rfl rfl rfl rfl rfl) rfl ?_) | (refine M4 ?_; first | refine M6 ?_ | refine U6 rfl (by kernel_rfl) ?_ | refine U7 (by kernel_rfl) ?_) | (refine M5 ?_; first | exact M7 | refine U8 rfl ?_ | refine U9 rfl rfl ?_ ?_))
    refine XE.retg tok Tryd.results10 rfl (by simp only [and_self, and_true]) (fun w' S => ?_)
    exact ⟨rfl, hB2.trans S.toBelow⟩
  have hkm' : k ≤ m := by have : (k : Int) ≤ m := by simpa using h
                          omega
  repeat (first | (refine M0 ?_; first | refine O0 ?_ | refine z1 tok rfl ?_ | refine O1 rfl ?_ rfl | refine O2 rfl ?_ | refine O3 rfl ?_ rfl | refine O4 rfl rfl rfl (fun _ _ => ?_) | refine O5 tok rfl rfl rfl (fun _ _ => ?_) | refine U0 _ (U2 rfl) rfl ?_ | refine U0 _ (U3 tok rfl rfl rfl rfl rfl) rfl ?_ | refine z3 tok rfl ?_ | refine U0 _ (U4 rfl rfl) rfl ?_ | refine U0 _ (U5 rfl rfl) rfl ?_) | (refine M1 ?_; first | refine J0 ?_ | refine J1 ?_ | refine J2 mixed rfl (by kernel_rfl) ?_ | refine J3 mixed rfl rfl (by kernel_rfl) ?_ | refine J4 ?_ | refine J5 ?_ | refine J6 ?_ | refine J7 ?_ | refine J8 rfl ?_ | refine J9 rfl ?_) | (refine M2 ?_; first | refine I0 ?_ | refine I1 ?_ | refine I2 ?_ | refine I3 ?_ | refine I4 ?_ | refine I5 ?_ | refine I6 rfl ?_ | refine I7 ?_ | refine I8 ?_ | refine z4 ?_) | (refine M3 ?_; first | refine O6 ?_ | refine z2 tok rfl ?_ | refine O8 rfl ?_ | refine O7 rfl ?_ rfl | refine O9 rfl ?_ rfl | refine U1 _ (U4 rfl rfl) rfl ?_ | refine U1 _ (U5 rfl rfl) rfl ?_ | refine U1 _ (U2 rfl) rfl ?_ | refine U1 _ (U3 tok rfl rfl rfl rfl rfl) rfl ?_) | (refine M4 ?_; first | refine M6 ?_ | refine U6 rfl (by kernel_rfl) ?_ | refine U7 (by kernel_rfl) ?_) | (refine M5 ?_; first | exact M7 | refine U8 rfl ?_ | refine U9 rfl rfl ?_ ?_))
  refine XC.cond _ rfl (fun h1 => ?_) (fun h1 => ?_)
  rotate_left
  · repeat (first | (refine M0 ?_; first | refine O0 ?_ | refine z1 tok rfl ?_ | refine O1 rfl ?_ rfl | refine O2 rfl ?_ | refine O3 rfl ?_ rfl | refine U0 _ (Ev.call (f := 23) (ck rfl) rfl (fun w S => (Awake_any (hL.below (hB2.trans S.toBelow)) :))) rfl ?_ | refine O4 rfl rfl rfl (fun _ _ => ?_) | refine O5 tok rfl rfl rfl (fun _ _ => ?_) | refine U0 _ (U2 rfl) rfl ?_ | refine U0 _ (U3 tok rfl rfl rfl rfl rfl) rfl ?_ | refine z3 tok rfl ?_ | refine U0 _ (U4 rfl rfl) rfl ?_ | refine U0 _ (U5 rfl rfl) rfl ?_) | (refine M1 ?_; first | refine J0 ?_ | refine J1 ?_ | refine J2 mixed rfl (by kernel_rfl) ?_ | refine J3 mixed rfl rfl (by kernel_rfl) ?_ | refine J4 ?_ | refine J5 ?_ | refine J6 ?_ | refine J7 ?_ | refine J8 rfl ?_ | refine J9 rfl ?_) | (refine M2 ?_; first | refine I0 ?_ | refine I1 ?_ | refine I2 ?_ | refine I3 ?_ | refine I4 ?_ | refine I5 ?_ | refine I6 rfl ?_ | refine I7 ?_ | refine I8 ?_ | refine z4 ?_) | (refine M3 ?_; first | refine O6 ?_ | refine z2 tok rfl ?_ | refine O8 rfl ?_ | refine O7 rfl ?_ rfl | refine O9 rfl ?_ rfl | refine U1 _ (Ev.call (f := 23) (ck rfl) rfl (fun w S => (Awake_any (hL.below (hB2.trans S.toBelow)) :))) rfl ?_ | refine U1 _ (U4 rfl rfl) rfl ?_ | refine U1 _ (U5 rfl rfl) rfl ?_ | refine U1 _ (U2 rfl) rfl ?_ | refine U1 _ (U3 tok rfl rfl rfl rfl rfl) rfl ?_) | (refine M4 ?_; first | refine M6 ?_ | refine U6 rfl (by kernel_rfl) ?_ | refine U7 (by kernel_rfl) ?_) | (refine M5 ?_; first | exact M7 | refine U8 rfl ?_ | refine U9 rfl rfl ?_ ?_))
    refine XE.retg tok Tryd.results10 rfl (by simp only [and_self, and_true]) (fun w' S => ?_)
    exact ⟨rfl, hB2.trans S.toBelow⟩
  have hkn : k < l1.length := by simpa using h1
  obtain ⟨ad, rfl, hfr⟩ := hls.addr (by decide) (by omega)
  have hcell := hls.elem (List.getElem?_eq_getElem hkn) 0 (.int .i64 l1[k].s.vol) rfl
  have hsk := runS_ok ho hs herr e1 _ (List.getElem_mem hkn)
  have hov : outB l1[k].s.vol (b.row 0).vol 1000000000 = false := outB_f.2 hsk.vol
  obtain ⟨x1, x2, x3⟩ := lvl_0 (staErr_c0 hs0) hov
  have hb2 := hb.below hB2
  have hhi : decide ((k : Int) < m) = decide (levHi b l1[k].s.vol ≤ lim) := by
    rcases Nat.lt_or_ge k m with h5 | h5
    · have h6 := hlt1 k hkn h5
      have h7 := (hi_le_iff ho.rowsOk (v := l1[k].s.vol) (l := lim)).2 (by simpa [overB] using h6)
      simp [h5, h7]
    · have : k = m := by omega
      subst this
      have h6 := hge1 hkn
      have h7 : ¬ levHi b l1[k].s.vol ≤ lim := fun h8 => by
        have := (hi_le_iff ho.rowsOk (v := l1[k].s.vol) (l := lim)).1 h8
        simp [overB] at h6
        omega
      simp [h7]
  repeat (first | (refine M0 ?_; first | refine O0 ?_ | refine z1 tok rfl ?_ | refine O1 rfl ?_ rfl | refine O2 rfl ?_ | refine O3 rfl ?_ rfl | refine O4 rfl rfl rfl (fun _ _ => ?_) | refine O5 tok rfl rfl rfl (fun _ _ => ?_) | refine U0 _ (U2 rfl) rfl ?_ | refine U0 _ (U3 tok rfl rfl rfl rfl rfl) rfl ?_ | refine z3 tok rfl ?_ | refine U0 _ (U4 rfl rfl) rfl ?_ | refine U0 _ (U5 rfl rfl) rfl ?_) | (refine M1 ?_; first | refine J0 ?_ | refine J1 ?_ | refine J2 mixed rfl (by kernel_rfl) ?_ | refine J3 mixed rfl rfl (by kernel_rfl) ?_ | refine J4 ?_ | refine J5 ?_ | refine J6 ?_ | refine J7 ?_ | refine J8 rfl ?_ | refine J9 rfl ?_) | (refine M2 ?_; first | refine I0 ?_ | refine I1 ?_ | refine I2 ?_ | refine I3 ?_ | refine I4 ?_ | refine I5 ?_ | refine I6 rfl ?_ | refine I7 ?_ | refine I8 ?_ | refine z4 ?_) | (refine M3 ?_; first | refine O6 ?_ | refine z2 tok rfl ?_ | refine O8 rfl ?_ | refine O7 rfl ?_ rfl | refine O9 rfl ?_ rfl | refine U1 _ (U4 rfl rfl) rfl ?_ | refine U1 _ (U5 rfl rfl) rfl ?_ | refine U1 _ (U2 rfl) rfl ?_ | refine U1 _ (U3 tok rfl rfl rfl rfl rfl) rfl ?_) | (refine M4 ?_; first | refine M6 ?_ | refine U6 rfl (by kernel_rfl) ?_ | refine U7 (by kernel_rfl) ?_) | (refine M5 ?_; first | exact M7 | refine U8 rfl ?_ | refine U9 rfl rfl ?_ ?_))
  refine XC.cutln [2, 3, 5, 7, 10] rfl (fun g : Nat => [(11, .pointer (some ⟨g, 0, none⟩)), (12, .int .i64 0)]) (fun g => [(g, cel 61 [.int .i64 (levLo b l1[k].s.vol), .int .i64 (levHi b l1[k].s.vol)])]) (fun g => w2.heap.size ≤ g) ?_ ?_
  · refine XC.drawR _ [0, 1, 2, 3, 4, 5] [6, 7, 8, 9, 10, 11, 12] mixed (fun _ h => h) rfl (by kernel_rfl) ?_
    repeat (any_goals (first | (refine M0 ?_; first | refine O0 ?_ | refine z1 tok rfl ?_ | refine O1 rfl ?_ rfl | refine O2 rfl ?_ | refine O3 rfl ?_ rfl | (refine XL.split _ _ rfl (fun h => ?_) (fun h => ?_) <;> rw [h]) | refine U0 _ (Ev.load_far tok rfl rfl (add_lt2 hfr.2.1) (fun e he => by rw [add_block, add_block]; exact hfr.ne (fun e he => by simp only [List.mem_cons, List.not_mem_nil, or_false] at he; rcases he with rfl | rfl <;> simp) e he) hcell) rfl ?_ | refine U0 _ (Ev.call (f := 34) (ck rfl) rfl (fun w S => (Level_any (p := p) (b := b) (v := l1[k].s.vol) (hb2.sys S) :))) rfl ?_ | refine O4 rfl rfl rfl (fun _ _ => ?_) | refine O5 tok rfl rfl rfl (fun _ _ => ?_) | refine U0 _ (U2 rfl) rfl ?_ | refine U0 _ (U3 tok rfl rfl rfl rfl rfl) rfl ?_ | refine z3 tok rfl ?_ | refine U0 _ (U4 rfl rfl) rfl ?_ | refine U0 _ (U5 rfl rfl) rfl ?_) | (refine M1 ?_; first | refine J0 ?_ | refine J1 ?_ | refine J2 mixed rfl (by kernel_rfl) ?_ | refine J3 mixed rfl rfl (by kernel_rfl) ?_ | refine J4 ?_ | refine J5 ?_ | refine J6 ?_ | refine J7 ?_ | refine J8 rfl ?_ | refine J9 rfl ?_ | refine XC.cond _ rfl (fun h => ?_) (fun h => ?_)) | (refine M2 ?_; first | refine I0 ?_ | refine I1 ?_ | refine I2 ?_ | refine I3 ?_ | refine I4 ?_ | refine I5 ?_ | refine I6 rfl ?_ | refine I7 ?_ | refine I8 ?_ | refine z4 ?_) | (refine M3 ?_; first | refine O6 ?_ | refine z2 tok rfl ?_ | refine O8 rfl ?_ | refine O7 rfl ?_ rfl | refine O9 rfl ?_ rfl | (refine Fw.split _ _ rfl (fun h => ?_) (fun h => ?_) <;> rw [h]) | refine U1 _ (Ev.load_far tok rfl rfl (add_lt2 hfr.2.1) (fun e he => by rw [add_block, add_block]; exact hfr.ne (fun e he => by simp only [List.mem_cons, List.not_mem_nil, or_false] at he; rcases he with rfl | rfl <;> simp) e he) hcell) rfl ?_ | refine U1 _ (Ev.call (f := 34) (ck rfl) rfl (fun w S => (Level_any (p := p) (b := b) (v := l1[k].s.vol) (hb2.sys S) :))) rfl ?_ | refine U1 _ (U4 rfl rfl) rfl ?_ | refine U1 _ (U5 rfl rfl) rfl ?_ | refine U1 _ (U2 rfl) rfl ?_ | refine U1 _ (U3 tok rfl rfl rfl rfl rfl) rfl ?_) | (refine M4 ?_; first | refine M6 ?_ | refine U6 rfl (by kernel_rfl) ?_ | refine U7 (by kernel_rfl) ?_) | (refine M5 ?_; first | exact M7 | refine U8 rfl ?_ | refine U9 rfl rfl ?_ ?_)))
    all_goals
      simp only [x1, x2, x3]
      refine XE.leaf _ (by repeat (first | exact Sub.nil | refine Sub.cons rfl ?_)) (fun _ S' => by first | exact S' | exact S'.perm (by repeat (first | exact List.Perm.refl _ | refine perm1 ?_ | refine List.Perm.cons _ ?_ | refine perm2 ?_)) | exact (S'.pop (by assumption)) | exact (S'.pop2 (by assumption))) ?_
      assumption
  rintro g hg
  dsimp only [List.cons_append, List.nil_append]
  refine XC.hint 11 2 ?_
  repeat (first | (refine M0 ?_; first | refine O0 ?_ | refine z1 tok rfl ?_ | refine O1 rfl ?_ rfl | refine O2 rfl ?_ | refine O3 rfl ?_ rfl | refine U0 _ (Ev.boolNeq Tryd.underlying4 rfl rfl) rfl ?_ | refine O4 rfl rfl rfl (fun _ _ => ?_) | refine O5 tok rfl rfl rfl (fun _ _ => ?_) | refine U0 _ (U2 rfl) rfl ?_ | refine U0 _ (U3 tok rfl rfl rfl rfl rfl) rfl ?_ | refine z3 tok rfl ?_ | refine U0 _ (U4 rfl rfl) rfl ?_ | refine U0 _ (U5 rfl rfl) rfl ?_) | (refine M1 ?_; first | refine J0 ?_ | refine J1 ?_ | refine J2 mixed rfl (by kernel_rfl) ?_ | refine J3 mixed rfl rfl (by kernel_rfl) ?_ | refine J4 ?_ | refine J5 ?_ | refine J6 ?_ | refine J7 ?_ | refine J8 rfl ?_ | refine J9 rfl ?_) | (refine M2 ?_; first | refine I0 ?_ | refine I1 ?_ | refine I2 ?_ | refine I3 ?_ | refine I4 ?_ | refine I5 ?_ | refine I6 rfl ?_ | refine I7 ?_ | refine I8 ?_ | refine z4 ?_) | (refine M3 ?_; first | refine O6 ?_ | refine z2 tok rfl ?_ | refine O8 rfl ?_ | refine O7 rfl ?_ rfl | refine O9 rfl ?_ rfl | refine U1 _ (Ev.boolNeq Tryd.underlying4 rfl rfl) rfl ?_ | refine U1 _ (U4 rfl rfl) rfl ?_ | refine U1 _ (U5 rfl rfl) rfl ?_ | refine U1 _ (U2 rfl) rfl ?_ | refine U1 _ (U3 tok rfl rfl rfl rfl rfl) rfl ?_) | (refine M4 ?_; first | refine M6 ?_ | refine U6 rfl (by kernel_rfl) ?_ | refine U7 (by kernel_rfl) ?_) | (refine M5 ?_; first | exact M7 | refine U8 rfl ?_ | refine U9 rfl rfl ?_ ?_))
  rw [hhi]
  simp only [beq_self_eq_true, Bool.not_true]
  repeat (first | (refine M0 ?_; first | refine O0 ?_ | refine z1 tok rfl ?_ | refine O1 rfl ?_ rfl | refine O2 rfl ?_ | refine O3 rfl ?_ rfl | refine O4 rfl rfl rfl (fun _ _ => ?_) | refine O5 tok rfl rfl rfl (fun _ _ => ?_) | refine U0 _ (U2 rfl) rfl ?_ | refine U0 _ (U3 tok rfl rfl rfl rfl rfl) rfl ?_ | refine z3 tok rfl ?_ | refine U0 _ (U4 rfl rfl) rfl ?_ | refine U0 _ (U5 rfl rfl) rfl ?_) | (refine M1 ?_; first | refine J0 ?_ | refine J1 ?_ | refine J2 mixed rfl (by kernel_rfl) ?_ | refine J3 mixed rfl rfl (by kernel_rfl) ?_ | refine J4 ?_ | refine J5 ?_ | refine J6 ?_ | refine J7 ?_ | refine J8 rfl ?_ | refine J9 rfl ?_) | (refine M2 ?_; first | refine I0 ?_ | refine I1 ?_ | refine I2 ?_ | refine I3 ?_ | refine I4 ?_ | refine I5 ?_ | refine I6 rfl ?_ | refine I7 ?_ | refine I8 ?_ | refine z4 ?_) | (refine M3 ?_; first | refine O6 ?_ | refine z2 tok rfl ?_ | refine O8 rfl ?_ | refine O7 rfl ?_ rfl | refine O9 rfl ?_ rfl | refine U1 _ (U4 rfl rfl) rfl ?_ | refine U1 _ (U5 rfl rfl) rfl ?_ | refine U1 _ (U2 rfl) rfl ?_ | refine U1 _ (U3 tok rfl rfl rfl rfl rfl) rfl ?_) | (refine M4 ?_; first | refine M6 ?_ | refine U6 rfl (by kernel_rfl) ?_ | refine U7 (by kernel_rfl) ?_) | (refine M5 ?_; first | exact M7 | refine U8 rfl ?_ | refine U9 rfl rfl ?_ ?_))
  refine XE.round (k + 1) ⟨by omega, by omega⟩ (by omega) (by repeat (first | exact Sub.nil | refine Sub.cons rfl ?_)) (fun _ h => h.pop hg)
end Go.Proofs.YtoiepgcjinccpaaDoor.X
/-
  Rows that take whole lists; rows that are built or made; a slice from a place on.
-/
namespace Go.Proofs.YtoiepgcjinccpaaDoor.X
open Go Go.RowKit
set_option linter.unusedVariables false
section
variable {W W' w w0 w1 w2 : World} {b0 B : Nat} {ks ks' : List Nat} {rs : List RowX} {hs hs' : List Held} {L : Lo}
/-- a row takes a list. -/
theorem Fam.pushL {α : Type} {K : Kind α} {v v' : Value} {l l2 : List α} {i : Nat} (h : Fam W b0 ks rs hs) (hi : rs[i]? = some ⟨α, K, v, l⟩) (ha : ∀ a, a ∈ l2 → ∀ x, x ∈ K.sl a → x.p W (Free W b0 ks rs)) (hrow : W'.ownsRow b0 K.ty K.m v' (l.length + l2.length) (l.flatMap K.c ++ l2.flatMap K.c))
    (hsz : W.heap.size ≤ W'.heap.size) (ho : ∀ j, j < W.heap.size → j ∉ ks → v.ownBlock ≠ some j → W'.heap[j]? = W.heap[j]?) (hfr : ∀ k, v'.ownBlock = some k → v.ownBlock = some k ∨ (W.heap.size ≤ k ∧ k ∉ ks)) :
    Fam W' b0 ks (rs.set i ⟨α, K, v', l ++ l2⟩) hs := by
  have hm : ∀ r, r ∈ rs.set i ⟨α, K, v', l ++ l2⟩ → r = ⟨α, K, v', l ++ l2⟩ ∨ (r ∈ rs ∧ ∀ k, r.v.ownBlock = some k → v.ownBlock ≠ some k) := fun r hr => by
    obtain ⟨j, hj, rfl⟩ := List.mem_iff_getElem.1 hr
    by_cases hij : i = j
    · subst hij; left; simp
    · right
      rw [List.getElem_set_ne hij]
      simp at hj
      refine ⟨List.getElem_mem _, fun k hk h2 => ?_⟩
      obtain ⟨hil, hie⟩ := List.getElem?_eq_some_iff.1 hi
      have hp := List.pairwise_iff_getElem.1 h.two
      rcases Nat.lt_or_gt_of_ne hij with h3 | h3
      · have := hp i j hil hj h3 k (by rw [hie]; exact h2)
        exact this hk
      · have := hp j i hj hil h3 k hk
        rw [hie] at this
        exact this h2
  have hri : (⟨α, K, v, l⟩ : RowX) ∈ rs := List.mem_of_getElem? hi
  have hf : ∀ j, Free W b0 ks rs j → Free W' b0 ks (rs.set i ⟨α, K, v', l ++ l2⟩) j := fun j hj => ⟨hj.1, by have := hj.2.1; omega, hj.2.2.1, fun r hr h1 => by
    rcases hm r hr with rfl | ⟨h2, _⟩
    · rcases hfr j h1 with h3 | h3
      · exact hj.2.2.2 _ hri h3
      · have := hj.2.1; omega
    · exact hj.2.2.2 r h2 h1⟩
  have hk : ∀ j, Free W b0 ks rs j → W'.heap[j]? = W.heap[j]? := fun j hj => ho j hj.2.1 hj.2.2.1 fun h1 => hj.2.2.2 _ hri h1
  refine ⟨Nat.le_trans h.base hsz, fun r hr => ?_, fun r hr k h1 => ?_, ?_, fun r hr b hb x hx => ?_, fun x hx => x.mono (x.keep (h.held x hx) hk) hf⟩
  · rcases hm r hr with rfl | ⟨h2, h3⟩
    · simpa using hrow
    · exact owns_move' (h.row r h2) fun k h4 => ho k (h.lt h2 h4).2 (h.sep r h2 k h4) (h3 k h4)
  · rcases hm r hr with rfl | ⟨h2, h3⟩
    · rcases hfr k h1 with h4 | h4
      · exact h.sep _ hri k h4
      · exact h4.2
    · exact h.sep r h2 k h1
  · rw [List.pairwise_iff_getElem]
    have hp := List.pairwise_iff_getElem.1 h.two
    obtain ⟨hil, hie⟩ := List.getElem?_eq_some_iff.1 hi
    intro p q hpl hql hpq k hk1 hk2
    simp at hpl hql
    by_cases h1 : i = p
    · subst h1
      have h2 : i ≠ q := by omega
      rw [List.getElem_set_ne h2] at hk2
      simp at hk1
      rcases hfr k hk1 with h4 | h4
      · exact hp i q hpl hql hpq k (by rw [hie]; exact h4) hk2
      · have := (h.lt (List.getElem_mem hql) hk2).2; omega
    · by_cases h2 : i = q
      · subst h2
        rw [List.getElem_set_ne h1] at hk1
        simp at hk2
        rcases hfr k hk2 with h4 | h4
        · have := hp p i hpl hql hpq k hk1
          rw [hie] at this
          exact this h4
        · have := (h.lt (List.getElem_mem hpl) hk1).2; omega
      · rw [List.getElem_set_ne h1] at hk1
        rw [List.getElem_set_ne h2] at hk2
        exact hp p q hpl hql hpq k hk1 hk2
  · rcases hm r hr with rfl | ⟨h2, h3⟩
    · rcases List.mem_append.1 hb with h4 | h4
      · exact x.mono (x.keep (h.ins _ hri b h4 x hx) hk) hf
      · exact x.mono (x.keep (ha b h4 x hx) hk) hf
    · exact x.mono (x.keep (h.ins r h2 b hb x hx) hk) hf
theorem svV_inj {r q : SV} (h : svV r = svV q) : r = q := by
  obtain ⟨a, b, c⟩ := r
  obtain ⟨a', b', c'⟩ := q
  simp only [svV, Value.slice.injEq] at h
  obtain ⟨rfl, rfl, rfl⟩ := h
  rfl
theorem Fam.listOf {α : Type} {K : Kind α} {r : SV} {l : List α} (h : Fam W b0 ks rs hs) (hr : (⟨α, K, svV r, l⟩ : RowX) ∈ rs) : ListAt K W (Btw b0 W.heap.size) r l := by
  obtain ⟨q, e, h1⟩ := h.list hr
  rw [svV_inj e]
  exact h1
/-- a new row. -/
theorem Fam.fresh {α : Type} {K : Kind α} {v : Value} {l : List α} (h : Fam W b0 ks rs hs) (hsz : W.heap.size ≤ W'.heap.size) (ho : ∀ j, j < W.heap.size → j ∉ ks → W'.heap[j]? = W.heap[j]?) (hrow : W'.ownsRow b0 K.ty K.m v l.length (l.flatMap K.c))
    (hv : ∀ k, v.ownBlock = some k → W.heap.size ≤ k ∧ k ∉ ks) (ha : ∀ a, a ∈ l → ∀ x, x ∈ K.sl a → x.p W (Free W b0 ks rs)) : Fam W' b0 ks (⟨α, K, v, l⟩ :: rs) hs := by
  have h1 := h.move hsz ho
  have hf : ∀ j, Free W b0 ks rs j → Free W' b0 ks (⟨α, K, v, l⟩ :: rs) j := fun j hj => ⟨hj.1, by have := hj.2.1; omega, hj.2.2.1, fun r hr h2 => by
    rcases List.mem_cons.1 hr with rfl | hr
    · have := (hv j h2).1; have := hj.2.1; omega
    · exact hj.2.2.2 r hr h2⟩
  have hk : ∀ j, Free W b0 ks rs j → W'.heap[j]? = W.heap[j]? := fun j hj => ho j hj.2.1 hj.2.2.1
  refine ⟨h1.base, fun r hr => ?_, fun r hr k h2 => ?_, .cons (fun r hr k h2 h3 => ?_) h.two, fun r hr a hb x hx => ?_, fun x hx => x.mono (x.keep (h.held x hx) hk) hf⟩
  · rcases List.mem_cons.1 hr with rfl | hr
    · exact hrow
    · exact h1.row r hr
  · rcases List.mem_cons.1 hr with rfl | hr
    · exact (hv k h2).2
    · exact h.sep r hr k h2
  · have := (hv k h2).1; have := (h.lt hr h3).2; omega
  · rcases List.mem_cons.1 hr with rfl | hr
    · exact x.mono (x.keep (ha a hb x hx) hk) hf
    · exact x.mono (x.keep (h.ins r hr a hb x hx) hk) hf
end
section
variable {P : Program} {T : TT} {N : Nat} {B : Nat} {w0 : World} {ds : List Deferred} {Q : Exit → Act → World → Prop} {F : Fr} {L : Lo} {pu : Prop} {ops : Array Oper} {rest : List Oper} {ty : TypeId} {p : String} {af : Array Edge}
variable {dst : Option Tmp} {gd : Option (Nat × Bool)}
theorem append_none_run {w : World} {base t e size bytes n c : Nat} {v : Value} {xs : List Value} (he : elemOk P t e size bytes = true) (hown : w.ownsRow base e size v n xs) : (Builtin.append_ #[t, t] ty #[v, .slice none 0 c]).run P w = .ok v w := by
  obtain ⟨hu, i, z, hi, hz, e1, e2, e3⟩ := elemOk_spec he
  rcases hown.2 with ⟨rfl, rfl⟩ | ⟨g, cap, cur, rfl, hb, hg, hc, hm, h⟩
  · simp [Builtin.append_, run_underlying hu, sizeOf_run hi, Builtin.lenOf, Builtin.firstCells]
  · have : ¬ cap < n := by omega
    simp [Builtin.append_, run_underlying hu, sizeOf_run hi, Builtin.lenOf, Builtin.firstCells, storeCells, hc, this]
/-- append(row, a whole list). -/
theorem XL.pushL {α : Type} {K : Kind α} {d : Nat} {t : TypeId} {x y : Operand} {v : Value} {l l2 : List α} {r2 : SV} {bytes b0 : Nat} {ks : List Nat} {rs : List RowX} {hs : List Held} {wE : World} (i : Nat) (he : elemOk P t K.ty K.m bytes = true) (h0 : 0 < K.m)
    (hx : evo F x = some v) (hy : evo F y = some (.slice r2.A r2.n r2.c)) (hd : Nat.blt d N = true) (hF : Fam w0 b0 ks rs hs) (hi : rs[i]? = some ⟨α, K, v, l⟩) (hks : ∀ k, k ∈ ks → k < w0.heap.size) (hbl : Below B wE w0) (hB : B ≤ b0)
    (hr : ∀ w, Sys B w0 L w → ListAt K w (Lt w.heap.size) r2 l2) (ha : ∀ a, a ∈ l2 → ∀ x, x ∈ K.sl a → x.p w0 (Free w0 b0 ks rs)) (h1 : ∀ a : α, (K.c a).all Value.oneCell' = true) (h63 : l.length + l2.length ≤ 10000000) (hb : bytes ≤ 10000000)
    (k : ∀ w' v', Fam w' b0 (L.map (·.1) ++ ks) (rs.set i ⟨α, K, v', l ++ l2⟩) hs → Below B wE w' → (∀ k, k ∈ L.map (·.1) ++ ks → k < w'.heap.size) → XL P N B w' ds Q ops rest ((d, v') :: F) L)
    (hL : ∀ e, e ∈ L → e.1 ∈ ks ∨ w0.heap.size ≤ e.1 := by (intro e he; repeat (first | (cases he; done) | (rcases List.mem_cons.1 he with rfl | he; · first | (right; assumption) | (left; simp <;> fail)))) <;> fail) :
    XL P N B w0 ds Q ops ({ dst := some d, op := .call { callee := .builtin .append, args := #[x, y], argTypes := #[t, t] }, type := ty, pos := p, after := af, guard := none } :: rest) F L := by
  obtain ⟨A, m, c⟩ := r2
  have hri : (⟨α, K, v, l⟩ : RowX) ∈ rs := List.mem_of_getElem? hi
  have hk2 : ∀ k, k ∈ L.map (·.1) ++ ks → k ∈ ks ∨ w0.heap.size ≤ k := fun k hk => by
    rcases List.mem_append.1 hk with h | h
    · obtain ⟨e, he, rfl⟩ := List.mem_map.1 h
      exact hL e he
    · exact .inl h
  have hk3 : ∀ w, Sys B w0 L w → ∀ k, k ∈ L.map (·.1) ++ ks → k < w.heap.size := fun w S k hk => by
    rcases List.mem_append.1 hk with h | h
    · obtain ⟨e, he, rfl⟩ := List.mem_map.1 h
      exact S.lt he
    · exact Nat.lt_of_lt_of_le (hks k h) S.size
  have hsepL : ∀ k, v.ownBlock = some k → ∀ e, e ∈ L → e.1 ≠ k := fun k hk e he e1 => by
    rcases hL e he with h | h
    · exact hF.sep _ hri k hk (e1 ▸ h)
    · have := (hF.lt hri hk).2; omega
  cases A with
  | none =>
    refine ⟨fun a w hf S => ?_⟩
    refine wpList_plain rfl fun Kk hK => ?_
    unfold Oper.wp
    have hl := hr w S
    have hm := hl.len h0
    simp only at hm
    have hm0 : m = 0 := by
      rcases Nat.eq_zero_or_pos m with h | h
      · exact h
      · obtain ⟨ad, e, _⟩ := hl.rd.at_ (by simpa using h)
        cases e
    subst hm0
    have hl2 : l2 = [] := List.length_eq_zero_iff.1 hm.symm
    subst hl2
    have hrun := append_none_run (ty := ty) (c := c) he (owns_sys (hF.row _ hri) S hsepL)
    have : (execOp a.eval { dst := some d, op := .call { callee := .builtin .append, args := #[x, y], argTypes := #[t, t] }, type := ty, pos := p, after := af, guard := none }).run P w = .ok (.value v) w := by
      have hm : (#[x, y] : Array Operand).map a.eval = #[v, .slice none 0 c] := by simp [hf.eval hx, hf.eval hy]
      simp only [execOp, resolve, Sem.run_bind, Sem.run_pure, Result.andThen_ok, invoke, builtin, hm, hrun]
    rw [this]
    refine hK _ _ ((k w v ?_ (hbl.trans S.toBelow) (hk3 w S)).run _ _ (hf.put hd) (S.rebase (List.Sublist.refl _)))
    have h2 := (hF.add (ks' := L.map (·.1) ++ ks) hk2).sys S fun e he => .inl (List.mem_append_left _ (List.mem_map.2 ⟨e, he, rfl⟩))
    obtain ⟨hil, hie⟩ := List.getElem?_eq_some_iff.1 hi
    have h3 : rs.set i ⟨α, K, v, l ++ []⟩ = rs := by
      rw [List.append_nil, ← hie]
      exact List.set_getElem_self hil
    rw [h3]
    exact h2
  | some A =>
    by_cases hex : ∃ w, Sys B w0 L w
    · obtain ⟨wx, Sx⟩ := hex
      have hm := (hr wx Sx).len h0
      simp only at hm
      subst hm
      refine XL.append2 (v := v) (m := l2.length) (n := l.length) (size := K.m) (bytes := bytes) (base := b0) (A := A) (xs := l.flatMap K.c) (news := l2.flatMap K.c) (L' := L) he h0 hx hy hd (hF.row _ hri) hsepL (by rw [flat_len K.c K.m K.len])
        (fun w S j u hj => ?_) ?_ (by unfold maxLen; omega) (Nat.le_trans (Nat.mul_le_mul h63 hb) (by decide)) hF.base (List.Sublist.refl _) (fun w v' w' S ho hg _ hfr => ?_)
      · have h2 := hr w S
        have hjl := (List.getElem?_eq_some_iff.1 hj).1
        rw [flat_len K.c K.m K.len] at hjl
        have hpos : 0 < l2.length := by
          rcases Nat.eq_zero_or_pos l2.length with h | h
          · rw [h] at hjl; omega
          · exact h
        obtain ⟨ad, e, _, h3⟩ := h2.rd.at_ hpos
        cases e
        exact h3 j u hj
      · rw [List.all_eq_true]
        intro u hu
        obtain ⟨a, ha', hu'⟩ := List.mem_flatMap.1 hu
        exact List.all_eq_true.1 (h1 a) u hu'
      · have hsz := hg.size
        have hS := S.size
        refine k w' v' ?_ (hbl.trans (grown_below S hg fun k hk => Nat.le_trans hB (hF.lt hri hk).1)) fun q hq => Nat.lt_of_lt_of_le (hk3 w S q hq) hsz
        have hfa : ∀ j, Free w0 b0 ks rs j → Free w0 b0 (L.map (·.1) ++ ks) rs j := fun j hj => ⟨hj.1, hj.2.1, fun h => by
          rcases hk2 j h with h4 | h4
          · exact hj.2.2.1 h4
          · have := hj.2.1; omega, hj.2.2.2⟩
        refine (hF.add (ks' := L.map (·.1) ++ ks) hk2).pushL hi (fun a h4 x hx => x.mono (ha a h4 x hx) hfa) ho (Nat.le_trans hS hsz) (fun j hj hn hv => ?_) (fun k hk => ?_)
        · exact grown_old S hg hj (fun e he e1 => hn (List.mem_append_left _ (List.mem_map.2 ⟨e, he, e1⟩))) fun e1 => hv e1.symm
        · rcases hfr k hk with h | h
          · exact .inl h
          · exact .inr ⟨Nat.le_trans hS h, fun h2 => by have := hk3 w S k h2; omega⟩
    · exact ⟨fun a w hf S => absurd ⟨w, S⟩ hex⟩
theorem XL.weak1 {t : Nat} {u : Value} (h : XL P N B w0 ds Q ops rest F L) : XL P N B w0 ds Q ops rest ((1000000 + t, u) :: F) L :=
  ⟨fun a w hf hs => h.run a w ⟨hf.size, hf.defers, fun t' v ht hv => hf.get t' v ht (by
    unfold lk
    have : Nat.beq (1000000 + t) t' = false := by
      cases hb : Nat.beq (1000000 + t) t' with
      | false => rfl
      | true => have := Nat.eq_of_beq_eq_true hb; omega
    rw [this]
    exact hv)⟩ hs⟩
/-- a slice literal is a new row. -/
theorem XL.newRow (hT : TOK P T) {α : Type} {K : Kind α} {l : List α} {d : Nat} {t e : TypeId} {n size b0 : Nat} {ps : List (Nat × Operand)} {z : Value} {zs cs : List Value} {ks : List Nat} {rs : List RowX} {hs : List Held} {wE : World}
    (hs' : lkG T.sl t = some (e, size)) (hz : lkG T.zero e = some z) (hzs : cellsO z = some zs) (hsz : Nat.beq zs.length size = true) (h0 : Nat.blt 0 size = true) (hbig : Nat.ble (n * size) 16777216 = true) {zl : List Value} (hzl : zerosO zs n = some zl) (hc : fillS F size zl ps = some cs) (hd : Nat.blt d N = true)
    (hK : K.ty = e ∧ K.m = size) (hcs : cs = l.flatMap K.c) (hn : l.length = n) (hF : Fam w0 b0 ks rs hs) (hks : ∀ k, k ∈ ks → k < w0.heap.size) (hbl : Below B wE w0) (hb0 : b0 ≤ w0.heap.size) (ha : ∀ a, a ∈ l → ∀ x, x ∈ K.sl a → x.p w0 (Free w0 b0 ks rs))
    (k : ∀ w' g, Fam w' b0 (L.map (·.1) ++ ks) (⟨α, K, .slice (some ⟨g, 0, none⟩) n n, l⟩ :: rs) hs → Below B wE w' → (∀ k, k ∈ L.map (·.1) ++ ks → k < w'.heap.size) → XL P N B w' ds Q ops rest ((d, .slice (some ⟨g, 0, none⟩) n n) :: F) L)
    (hL : ∀ e, e ∈ L → e.1 ∈ ks ∨ w0.heap.size ≤ e.1 := by (intro e he; repeat (first | (cases he; done) | (rcases List.mem_cons.1 he with rfl | he; · first | (right; assumption) | (left; simp <;> fail)))) <;> fail) :
    XL P N B w0 ds Q ops ({ dst := some d, op := .buildSlice t n ps.toArray, type := ty, pos := p, after := af, guard := none } :: rest) F L := by
  refine XL.buildSlice hT hs' hz hzs hsz h0 hbig hzl hc hd fun g hg => ?_
  refine XL.rebase (List.sublist_cons_self _ _) fun w1 S => ?_
  have hk2 : ∀ k, k ∈ L.map (·.1) ++ ks → k ∈ ks ∨ w0.heap.size ≤ k := fun k hk => by
    rcases List.mem_append.1 hk with h | h
    · obtain ⟨e, he, rfl⟩ := List.mem_map.1 h
      exact hL e he
    · exact .inl h
  have hk3 : ∀ k, k ∈ L.map (·.1) ++ ks → k < w1.heap.size := fun k hk => by
    rcases List.mem_append.1 hk with h | h
    · obtain ⟨e, he, rfl⟩ := List.mem_map.1 h
      exact S.lt (List.mem_cons_of_mem _ he)
    · exact Nat.lt_of_lt_of_le (hks k h) S.size
  have hgL : g ∉ L.map (·.1) := by have := S.nd; simp only [List.map_cons, List.nodup_cons] at this; exact this.1
  have hfa : ∀ j, Free w0 b0 ks rs j → Free w0 b0 (L.map (·.1) ++ ks) rs j := fun j hj => ⟨hj.1, hj.2.1, fun h => by
    rcases hk2 j h with h4 | h4
    · exact hj.2.2.1 h4
    · have := hj.2.1; omega, hj.2.2.2⟩
  obtain ⟨hK1, hK2⟩ := hK
  have hrow : w1.ownsRow b0 K.ty K.m (.slice (some ⟨g, 0, none⟩) n n) l.length (l.flatMap K.c) := by
    have h5 := (S.own (g, _) List.mem_cons_self).2
    have h6 : (l.flatMap K.c).length = n * K.m := by rw [flat_len K.c K.m K.len, hn]
    have hsz' : 0 < K.m := by rw [hK2]; exact Nat.le_of_ble_eq_true h0
    have hbig' : n * K.m ≤ 16777216 := by rw [hK2]; exact Nat.le_of_ble_eq_true hbig
    have hnm : n ≤ n * K.m := Nat.le_mul_of_pos_right n hsz'
    refine ⟨by rw [h6, hn], .inr ⟨g, n, ⟨l.flatMap K.c⟩, by rw [hn], Nat.le_trans hb0 hg, ?_, by omega, by unfold maxLen; omega, by simpa using h6, ?_⟩⟩
    · rw [hK1, ← hcs]; exact h5
    · rw [hn, ← h6]
      simp only [List.take_length]
  refine XL.weak1 (k w1 g ((hF.add (ks' := L.map (·.1) ++ ks) hk2).fresh S.size (fun j hj hn' => ?_) hrow (fun q hq => ?_) fun a h4 x hx => x.mono (ha a h4 x hx) hfa) (hbl.trans S.toBelow) hk3)
  · exact S.old j hj fun e he e1 => by
      rcases List.mem_cons.1 he with rfl | he
      · simp only at e1; omega
      · exact hn' (List.mem_append_left _ (List.mem_map.2 ⟨e, he, e1⟩))
  · simp only [Value.ownBlock, Option.some.injEq] at hq
    subst hq
    refine ⟨hg, fun h7 => ?_⟩
    rcases List.mem_append.1 h7 with h8 | h8
    · exact hgL h8
    · have := hks _ h8; omega
/-- make([]int, n). -/
theorem XL.makeInts {d : Nat} {t e : TypeId} {x y : Operand} {n : Nat} (he : elemOk P t e 1 8 = true) (hz : (P.info? e).bind (·.zero) = some (.int .i64 0)) (hx : evo F x = some (.int .i64 (n : Nat))) (hy : evo F y = some (.int .i64 (n : Nat))) (hd : Nat.blt d N = true) (hn : n ≤ 1000000)
    (k : ∀ g, w0.heap.size ≤ g → XL P N B w0 ds Q ops rest ((1000000 + d, .slice none L.length 0) :: (d, .slice (some ⟨g, 0, none⟩) n n) :: F) ((g, cel e (ints (List.replicate n 0))) :: L)) :
    XL P N B w0 ds Q ops ({ dst := some d, op := .makeSlice t x y, type := ty, pos := p, after := af, guard := none } :: rest) F L := by
  refine ⟨fun a w hf hw => ?_⟩
  refine wpList_plain rfl fun Kk hK => ?_
  unfold Oper.wp
  obtain ⟨hu, i, z, hi, hz', e1, e2, e3⟩ := elemOk_spec he
  rw [hi] at hz
  simp only [Option.bind_some] at hz
  have hz2 : z = .int .i64 0 := by rw [hz'] at hz; exact Option.some.inj hz
  subst hz2
  have hrun := run_makeSlice (P := P) w t e i (.int .i64 0) hu hi hz' .i64 .i64 (n : Int) (n : Int) (by omega) (Int.le_refl _) (by rw [e1]; simp; omega) (by rw [e2]; omega) (by omega)
  have hmc : madeCells (Value.int .i64 0).cells ((n : Int).toNat * i.size) = ⟨ints (List.replicate n 0)⟩ := by
    rw [e1]
    apply Array.ext
    · simp [madeCells, ints]
    · intro j h1 h2
      simp [madeCells, ints, Value.cells]
      rw [show j % 1 = 0 from by omega]
      rfl
  rw [hmc] at hrun
  simp only [Int.toNat_natCast] at hrun
  have : (execOp a.eval { dst := some d, op := .makeSlice t x y, type := ty, pos := p, after := af, guard := none }).run P w = .ok (.value (.slice (some ⟨w.heap.size, 0, none⟩) n n)) (w.alloc (cel e (ints (List.replicate n 0)))) := by
    simp [execOp, hf.eval hx, hf.eval hy, hrun]
  rw [this]
  exact hK _ _ ((k w.heap.size hw.size).run _ _ ((hf.put hd).hint d _) (hw.box _))
/-- x[j:], whatever room there is. -/
theorem Ev.slice_from (hT : TOK P T) {t e es : Nat} {x lo : Operand} {A : Option Addr} {n c : Nat} {k : IntKind} {q : Int} (j : Nat) (hx : evo F x = some (.slice A n c)) (hlo : evo F lo = some (.int k q)) (hq : q = (j : Int))
    (hs : lkG T.sl t = some (e, es)) (h1 : j ≤ n) : Ev P N B w0 ds pu F L ⟨dst, .slice t x (some lo) none none, ty, p, af, gd⟩ (.slice (if c = j then A else A.map (·.add (j * es))) (n - j) (c - j)) :=
  .of_run fun a w hf hw => by
    have h := tab_ok hT.sl hs
    unfold slOf at h
    cases hu : P.underlying t with
    | none => rw [hu] at h; cases h
    | some d =>
      rw [hu] at h
      cases d <;> simp at h
      obtain ⟨i, hi, rfl, rfl⟩ := h
      subst hq
      have hz := sizeOf_run hi w
      simp [execOp, hf.eval hx, hf.eval hlo, Instr.sliceAt, Instr.slice, run_underlying hu, Instr.sliceBounds, Instr.sliceBound, asIntOf, hz, h1]
end
end Go.Proofs.YtoiepgcjinccpaaDoor.X
