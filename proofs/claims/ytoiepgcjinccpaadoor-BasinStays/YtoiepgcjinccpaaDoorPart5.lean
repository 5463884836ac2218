/-
  The walks of the document's stay and Stay; of both Floods.
-/
import Derived.Test.YtoiepgcjinccpaaDoorPart4
import Derived.Deep.Slices
import Derived.WideShapes
import Derived.ChangeArms
import Derived.ChangeOld
set_option linter.unusedVariables false
set_option linter.unusedSimpArgs false
namespace Go.Proofs.YtoiepgcjinccpaaDoor.Bs
def Flo.t (f : Flo) (i : Nat) : Int := f.taken[i]?.getD 0
/-- the first tick in which polder i takes water, or -1. -/
def firstF (fs : List Flo) (i : Nat) : Int := match fs.findIdx? fun f => decide (0 < f.t i) with
  | some k => ((k : Nat) : Int)
  | none => -1
noncomputable def floods (b : Bas) (s : Sta) (ts : List Tick) : List Int := if runE b s ts ≠ 0 then [] else (List.range b.pols.length).map (firstF (runF b s ts))
end Go.Proofs.YtoiepgcjinccpaaDoor.Bs
namespace Go.Proofs.YtoiepgcjinccpaaDoor.X
open Go Go.RowKit Go.Proofs.YtoiepgcjinccpaaDoor.Bs
set_option linter.unusedVariables false
theorem over_find {b : Bas} {lim : Int} {l : List StaI} {k : Nat} (hk : k ≤ l.length) (h0 : ∀ j, (hj : j < l.length) → j < k → overB b lim l[j].s.vol = false) (h : (hk' : k < l.length) → overB b lim l[k].s.vol = true) : l.findIdx (fun a => overB b lim a.s.vol) = k := by
  rcases Nat.lt_or_ge k l.length with h1 | h1
  · rw [List.findIdx_eq h1]
    exact ⟨h h1, fun j hj => by simpa using h0 j (by omega) hj⟩
  · have : k = l.length := by omega
    subst this
    exact List.findIdx_eq_length.2 fun a ha => by
      obtain ⟨j, hj, rfl⟩ := List.mem_iff_getElem.1 ha
      simpa using h0 j hj hj
set_option maxHeartbeats 4000000 in
theorem refstay_any {p : BV} {b : Bas} {r : SV} {l : List StaI} {lim : Int} {w : World} (hb : BasAt w w.heap.size p b) (ho : Ok b) (hr : ListAt staK w (Lt w.heap.size) r l) (hv : ∀ a, a ∈ l → (b.row 0).vol ≤ a.s.vol ∧ a.s.vol ≤ 1000000000) (hl : -20000 ≤ lim ∧ lim ≤ 20000) (hn : l.length ≤ 1000) :
    Calls Tryd.prog 59 #[basV p b, svV r, .int .i64 lim] w fun e w' => e = .returned (.int .i64 ((l.findIdx fun a => overB b lim a.s.vol : Nat) : Int)) ∧ Below w.heap.size w w' := by
  obtain ⟨A, n, c⟩ := r
  have hln := hr.len (by decide)
  simp only at hln
  subst hln
  simp only [basV, basC, svV]
  refine enter Tryd.func59 rfl Tryd.ntmps59 rfl ?_; simp only [frame, Nat.zero_add, Nat.reduceAdd]
  repeat (first | (refine M0 ?_; first | refine O0 ?_ | refine z1 tok rfl ?_ | refine O1 rfl ?_ rfl | refine O2 rfl ?_ | refine O3 rfl ?_ rfl | refine O4 rfl rfl rfl (fun _ _ => ?_) | refine O5 tok rfl rfl rfl (fun _ _ => ?_) | refine U0 _ (U2 rfl) rfl ?_ | refine U0 _ (U3 tok rfl rfl rfl rfl rfl) rfl ?_ | refine z3 tok rfl ?_ | refine U0 _ (U4 rfl rfl) rfl ?_ | refine U0 _ (U5 rfl rfl) rfl ?_) | (refine M1 ?_; first | refine J0 ?_ | refine J1 ?_ | refine J2 mixed rfl (by kernel_rfl) ?_ | refine J3 mixed rfl rfl (by kernel_rfl) ?_ | refine J4 ?_ | refine J5 ?_ | refine J6 ?_ | refine J7 ?_ | refine J8 rfl ?_ | refine J9 rfl ?_) | (refine M2 ?_; first | refine I0 ?_ | refine I1 ?_ | refine I2 ?_ | refine I3 ?_ | refine I4 ?_ | refine I5 ?_ | refine I6 rfl ?_ | refine I7 ?_ | refine I8 ?_ | refine z4 ?_) | (refine M3 ?_; first | refine O6 ?_ | refine z2 tok rfl ?_ | refine O8 rfl ?_ | refine O7 rfl ?_ rfl | refine O9 rfl ?_ rfl | refine U1 _ (U4 rfl rfl) rfl ?_ | refine U1 _ (U5 rfl rfl) rfl ?_ | refine U1 _ (U2 rfl) rfl ?_ | refine U1 _ (U3 tok rfl rfl rfl rfl rfl) rfl ?_) | (refine M4 ?_; first | refine M6 ?_ | refine U6 rfl (by kernel_rfl) ?_ | refine U7 (by kernel_rfl) ?_) | (refine M5 ?_; first | exact M7 | refine U8 rfl ?_ | refine U9 rfl rfl ?_ ?_))
  refine XC.loopk [1, 2, 3] rfl (fun k : Nat => [(7, .int .i64 (k : Nat))]) (fun _ => [_]) (fun _ => w) (fun k => k ≤ l.length ∧ ∀ j, (hj : j < l.length) → j < k → overB b lim l[j].s.vol = false) (fun k => l.length - k) 0 ⟨Nat.zero_le _, fun j _ h => absurd h (by omega)⟩ (by repeat (first | exact Sub.nil | refine Sub.cons rfl ?_)) (fun _ h => h) ?_
  rintro k ⟨hk, h0⟩
  dsimp only [List.cons_append, List.nil_append]
  repeat (first | (refine M0 ?_; first | refine O0 ?_ | refine z1 tok rfl ?_ | refine O1 rfl ?_ rfl | refine O2 rfl ?_ | refine O3 rfl ?_ rfl | refine O4 rfl rfl rfl (fun _ _ => ?_) | refine O5 tok rfl rfl rfl (fun _ _ => ?_) | refine U0 _ (U2 rfl) rfl ?_ | refine U0 _ (U3 tok rfl rfl rfl rfl rfl) rfl ?_ | refine z3 tok rfl ?_ | refine U0 _ (U4 rfl rfl) rfl ?_ | refine U0 _ (U5 rfl rfl) rfl ?_) | (refine M1 ?_; first | refine J0 ?_ | refine J1 ?_ | refine J2 mixed rfl (by kernel_rfl) ?_ | refine J3 mixed rfl rfl (by kernel_rfl) ?_ | refine J4 ?_ | refine J5 ?_ | refine J6 ?_ | refine J7 ?_ | refine J8 rfl ?_ | refine J9 rfl ?_) | (refine M2 ?_; first | refine I0 ?_ | refine I1 ?_ | refine I2 ?_ | refine I3 ?_ | refine I4 ?_ | refine I5 ?_ | refine I6 rfl ?_ | refine I7 ?_ | refine I8 ?_ | refine z4 ?_) | (refine M3 ?_; first | refine O6 ?_ | refine z2 tok rfl ?_ | refine O8 rfl ?_ | refine O7 rfl ?_ rfl | refine O9 rfl ?_ rfl | refine U1 _ (U4 rfl rfl) rfl ?_ | refine U1 _ (U5 rfl rfl) rfl ?_ | refine U1 _ (U2 rfl) rfl ?_ | refine U1 _ (U3 tok rfl rfl rfl rfl rfl) rfl ?_) | (refine M4 ?_; first | refine M6 ?_ | refine U6 rfl (by kernel_rfl) ?_ | refine U7 (by kernel_rfl) ?_) | (refine M5 ?_; first | exact M7 | refine U8 rfl ?_ | refine U9 rfl rfl ?_ ?_))
  refine XC.cond _ rfl (fun h3 => ?_) (fun h3 => ?_)
  · have hkn : k < l.length := by simpa using h3
    obtain ⟨ad, rfl, hlt⟩ := hr.addr (by decide) (by omega)
    have hcell := hr.elem (List.getElem?_eq_getElem hkn) 0 (.int .i64 l[k].s.vol) rfl
    have hvk := hv _ (List.getElem_mem hkn)
    have hmul := lim_in ho hl l[k].s.vol
    repeat (first | (refine M0 ?_; first | refine O0 ?_ | refine z1 tok rfl ?_ | refine O1 rfl ?_ rfl | refine O2 rfl ?_ | refine O3 rfl ?_ rfl | refine U0 _ (Ev.load_old tok rfl rfl (add_lt2 hlt) hcell) rfl ?_ | refine U0 _ (Ev.call (f := 68) (ck rfl) rfl (fun w S => (refExact_any (hb.sys S) ho.rowsOk hvk :))) rfl ?_ | refine O4 rfl rfl rfl (fun _ _ => ?_) | refine O5 tok rfl rfl rfl (fun _ _ => ?_) | refine U0 _ (U2 rfl) rfl ?_ | refine U0 _ (U3 tok rfl rfl rfl rfl rfl) rfl ?_ | refine z3 tok rfl ?_ | refine U0 _ (U4 rfl rfl) rfl ?_ | refine U0 _ (U5 rfl rfl) rfl ?_) | (refine M1 ?_; first | refine J0 ?_ | refine J1 ?_ | refine J2 mixed rfl (by kernel_rfl) ?_ | refine J3 mixed rfl rfl (by kernel_rfl) ?_ | refine J4 ?_ | refine J5 ?_ | refine J6 ?_ | refine J7 ?_ | refine J8 rfl ?_ | refine J9 rfl ?_) | (refine M2 ?_; first | refine I0 ?_ | refine I1 ?_ | refine I2 ?_ | refine I3 ?_ | refine I4 ?_ | refine I5 ?_ | refine I6 rfl ?_ | refine I7 ?_ | refine I8 ?_ | refine z4 ?_) | (refine M3 ?_; first | refine O6 ?_ | refine z2 tok rfl ?_ | refine O8 rfl ?_ | refine O7 rfl ?_ rfl | refine O9 rfl ?_ rfl | refine U1 _ (Ev.load_old tok rfl rfl (add_lt2 hlt) hcell) rfl ?_ | refine U1 _ (Ev.call (f := 68) (ck rfl) rfl (fun w S => (refExact_any (hb.sys S) ho.rowsOk hvk :))) rfl ?_ | refine U1 _ (U4 rfl rfl) rfl ?_ | refine U1 _ (U5 rfl rfl) rfl ?_ | refine U1 _ (U2 rfl) rfl ?_ | refine U1 _ (U3 tok rfl rfl rfl rfl rfl) rfl ?_) | (refine M4 ?_; first | refine M6 ?_ | refine U6 rfl (by kernel_rfl) ?_ | refine U7 (by kernel_rfl) ?_) | (refine M5 ?_; first | exact M7 | refine U8 rfl ?_ | refine U9 rfl rfl ?_ ?_))
    refine XC.cond _ rfl (fun h4 => ?_) (fun h4 => ?_)
    · repeat (first | (refine M0 ?_; first | refine O0 ?_ | refine z1 tok rfl ?_ | refine O1 rfl ?_ rfl | refine O2 rfl ?_ | refine O3 rfl ?_ rfl | refine O4 rfl rfl rfl (fun _ _ => ?_) | refine O5 tok rfl rfl rfl (fun _ _ => ?_) | refine U0 _ (U2 rfl) rfl ?_ | refine U0 _ (U3 tok rfl rfl rfl rfl rfl) rfl ?_ | refine z3 tok rfl ?_ | refine U0 _ (U4 rfl rfl) rfl ?_ | refine U0 _ (U5 rfl rfl) rfl ?_) | (refine M1 ?_; first | refine J0 ?_ | refine J1 ?_ | refine J2 mixed rfl (by kernel_rfl) ?_ | refine J3 mixed rfl rfl (by kernel_rfl) ?_ | refine J4 ?_ | refine J5 ?_ | refine J6 ?_ | refine J7 ?_ | refine J8 rfl ?_ | refine J9 rfl ?_) | (refine M2 ?_; first | refine I0 ?_ | refine I1 ?_ | refine I2 ?_ | refine I3 ?_ | refine I4 ?_ | refine I5 ?_ | refine I6 rfl ?_ | refine I7 ?_ | refine I8 ?_ | refine z4 ?_) | (refine M3 ?_; first | refine O6 ?_ | refine z2 tok rfl ?_ | refine O8 rfl ?_ | refine O7 rfl ?_ rfl | refine O9 rfl ?_ rfl | refine U1 _ (U4 rfl rfl) rfl ?_ | refine U1 _ (U5 rfl rfl) rfl ?_ | refine U1 _ (U2 rfl) rfl ?_ | refine U1 _ (U3 tok rfl rfl rfl rfl rfl) rfl ?_) | (refine M4 ?_; first | refine M6 ?_ | refine U6 rfl (by kernel_rfl) ?_ | refine U7 (by kernel_rfl) ?_) | (refine M5 ?_; first | exact M7 | refine U8 rfl ?_ | refine U9 rfl rfl ?_ ?_))
      refine XE.retg tok Tryd.results59 rfl (by simp only [and_self, and_true]) (fun w' S => ?_)
      rw [over_find hk h0 fun _ => h4]
      exact ⟨rfl, S.toBelow⟩
    · repeat (first | (refine M0 ?_; first | refine O0 ?_ | refine z1 tok rfl ?_ | refine O1 rfl ?_ rfl | refine O2 rfl ?_ | refine O3 rfl ?_ rfl | refine O4 rfl rfl rfl (fun _ _ => ?_) | refine O5 tok rfl rfl rfl (fun _ _ => ?_) | refine U0 _ (U2 rfl) rfl ?_ | refine U0 _ (U3 tok rfl rfl rfl rfl rfl) rfl ?_ | refine z3 tok rfl ?_ | refine U0 _ (U4 rfl rfl) rfl ?_ | refine U0 _ (U5 rfl rfl) rfl ?_) | (refine M1 ?_; first | refine J0 ?_ | refine J1 ?_ | refine J2 mixed rfl (by kernel_rfl) ?_ | refine J3 mixed rfl rfl (by kernel_rfl) ?_ | refine J4 ?_ | refine J5 ?_ | refine J6 ?_ | refine J7 ?_ | refine J8 rfl ?_ | refine J9 rfl ?_) | (refine M2 ?_; first | refine I0 ?_ | refine I1 ?_ | refine I2 ?_ | refine I3 ?_ | refine I4 ?_ | refine I5 ?_ | refine I6 rfl ?_ | refine I7 ?_ | refine I8 ?_ | refine z4 ?_) | (refine M3 ?_; first | refine O6 ?_ | refine z2 tok rfl ?_ | refine O8 rfl ?_ | refine O7 rfl ?_ rfl | refine O9 rfl ?_ rfl | refine U1 _ (U4 rfl rfl) rfl ?_ | refine U1 _ (U5 rfl rfl) rfl ?_ | refine U1 _ (U2 rfl) rfl ?_ | refine U1 _ (U3 tok rfl rfl rfl rfl rfl) rfl ?_) | (refine M4 ?_; first | refine M6 ?_ | refine U6 rfl (by kernel_rfl) ?_ | refine U7 (by kernel_rfl) ?_) | (refine M5 ?_; first | exact M7 | refine U8 rfl ?_ | refine U9 rfl rfl ?_ ?_))
      refine XE.round (k + 1) ⟨hkn, fun j hj h5 => ?_⟩ (by omega) (by repeat (first | exact Sub.nil | refine Sub.cons rfl ?_)) (fun _ h => h)
      rcases Nat.lt_or_ge j k with h6 | h6
      · exact h0 j hj h6
      · have : j = k := by omega
        subst this
        exact h4
  · have hkn : ¬ k < l.length := by simpa using h3
    repeat (first | (refine M0 ?_; first | refine O0 ?_ | refine z1 tok rfl ?_ | refine O1 rfl ?_ rfl | refine O2 rfl ?_ | refine O3 rfl ?_ rfl | refine O4 rfl rfl rfl (fun _ _ => ?_) | refine O5 tok rfl rfl rfl (fun _ _ => ?_) | refine U0 _ (U2 rfl) rfl ?_ | refine U0 _ (U3 tok rfl rfl rfl rfl rfl) rfl ?_ | refine z3 tok rfl ?_ | refine U0 _ (U4 rfl rfl) rfl ?_ | refine U0 _ (U5 rfl rfl) rfl ?_) | (refine M1 ?_; first | refine J0 ?_ | refine J1 ?_ | refine J2 mixed rfl (by kernel_rfl) ?_ | refine J3 mixed rfl rfl (by kernel_rfl) ?_ | refine J4 ?_ | refine J5 ?_ | refine J6 ?_ | refine J7 ?_ | refine J8 rfl ?_ | refine J9 rfl ?_) | (refine M2 ?_; first | refine I0 ?_ | refine I1 ?_ | refine I2 ?_ | refine I3 ?_ | refine I4 ?_ | refine I5 ?_ | refine I6 rfl ?_ | refine I7 ?_ | refine I8 ?_ | refine z4 ?_) | (refine M3 ?_; first | refine O6 ?_ | refine z2 tok rfl ?_ | refine O8 rfl ?_ | refine O7 rfl ?_ rfl | refine O9 rfl ?_ rfl | refine U1 _ (U4 rfl rfl) rfl ?_ | refine U1 _ (U5 rfl rfl) rfl ?_ | refine U1 _ (U2 rfl) rfl ?_ | refine U1 _ (U3 tok rfl rfl rfl rfl rfl) rfl ?_) | (refine M4 ?_; first | refine M6 ?_ | refine U6 rfl (by kernel_rfl) ?_ | refine U7 (by kernel_rfl) ?_) | (refine M5 ?_; first | exact M7 | refine U8 rfl ?_ | refine U9 rfl rfl ?_ ?_))
    refine XE.retg tok Tryd.results59 rfl (by simp only [and_self, and_true]) (fun w' S => ?_)
    rw [over_find (Nat.le_refl _) (fun j hj h5 => h0 j hj (by omega)) fun h => absurd h (by omega)]
    exact ⟨rfl, S.toBelow⟩
theorem runS_find {b : Bas} {s : Sta} {ts : List Tick} {lim : Int} {l : List StaI} (h : l.map (·.s) = runS b s ts) (h0 : runE b s ts = 0) : (l.findIdx fun a => overB b lim a.s.vol) = (momsAt b s ts ts.length).findIdx fun x => overB b lim x.1.vol := by
  have h1 : (l.map (·.s)).findIdx (fun a => overB b lim a.vol) = ((momsAt b s ts ts.length).map (·.1)).findIdx (fun a => overB b lim a.vol) := by rw [h, (run_0 h0).1]
  rw [List.findIdx_map, List.findIdx_map] at h1
  exact h1
theorem runS_ok {b : Bas} {s : Sta} {ts : List Tick} (ho : Ok b) (hs : StaOk b s) (h : ∀ k, k < ts.length → errAt b s ts k = 0) {l : List StaI} (hl : l.map (·.s) = runS b s ts) : ∀ a, a ∈ l → StaOk b a.s := by
  intro a ha
  have h1 : a.s ∈ runS b s ts := by rw [← hl]; exact List.mem_map.2 ⟨a, ha, rfl⟩
  unfold runS at h1
  split at h1
  · cases h1
  · obtain ⟨i, hi, e⟩ := List.mem_map.1 h1
    rw [← e]
    exact staAt_ok ho hs (i + 1) fun j hj => h j (by have := List.mem_range.1 hi; omega)
theorem runE_0 {b : Bas} {s : Sta} {ts : List Tick} (h : runE b s ts = 0) : staErr b s = 0 ∧ ts.length ≤ 300 ∧ ∀ k, k < ts.length → errAt b s ts k = 0 := by
  unfold runE at h
  split at h
  · rename_i h1; exact absurd h h1
  · rename_i h1
    split at h
    · cases h
    · rename_i h2
      split at h
      · rename_i h3; exact ⟨by simpa using h1, by omega, badAt_errs h3⟩
      · rename_i k h3; exact absurd h (badAt_err h3)
theorem runS_len {b : Bas} {s : Sta} {ts : List Tick} (h : runE b s ts = 0) : (runS b s ts).length = ts.length := by simp [runS, h]
set_option maxHeartbeats 8000000 in
theorem refStay_any {p : BV} {b : Bas} {q r : SV} {s : Sta} {ts : List Tick} {lim : Int} {w : World} (hb : BasAt w w.heap.size p b) (hq : IntsAt w (Lt w.heap.size) q s.fil) (ht : TksAt w (Lt w.heap.size) r ts) :
    Calls Tryd.prog 28 #[basV p b, staV q s, svV r, .int .i64 lim] w fun e w' => e = .returned (.tuple ⟨[.int .i64 (stayN b s ts lim), .int .i64 (stayE b s ts lim)]⟩) ∧ Below w.heap.size w w' := by
  simp only [basV, basC, staV, staC, svV]
  refine enter Tryd.func28 rfl Tryd.ntmps28 rfl ?_; simp only [frame, Nat.zero_add, Nat.reduceAdd]
  repeat (first | (refine M0 ?_; first | refine O0 ?_ | refine z1 tok rfl ?_ | refine O1 rfl ?_ rfl | refine O2 rfl ?_ | refine O3 rfl ?_ rfl | refine O4 rfl rfl rfl (fun _ _ => ?_) | refine O5 tok rfl rfl rfl (fun _ _ => ?_) | refine U0 _ (U2 rfl) rfl ?_ | refine U0 _ (U3 tok rfl rfl rfl rfl rfl) rfl ?_ | refine z3 tok rfl ?_ | refine U0 _ (U4 rfl rfl) rfl ?_ | refine U0 _ (U5 rfl rfl) rfl ?_) | (refine M1 ?_; first | refine J0 ?_ | refine J1 ?_ | refine J2 mixed rfl (by kernel_rfl) ?_ | refine J3 mixed rfl rfl (by kernel_rfl) ?_ | refine J4 ?_ | refine J5 ?_ | refine J6 ?_ | refine J7 ?_ | refine J8 rfl ?_ | refine J9 rfl ?_) | (refine M2 ?_; first | refine I0 ?_ | refine I1 ?_ | refine I2 ?_ | refine I3 ?_ | refine I4 ?_ | refine I5 ?_ | refine I6 rfl ?_ | refine I7 ?_ | refine I8 ?_ | refine z4 ?_) | (refine M3 ?_; first | refine O6 ?_ | refine z2 tok rfl ?_ | refine O8 rfl ?_ | refine O7 rfl ?_ rfl | refine O9 rfl ?_ rfl | refine U1 _ (U4 rfl rfl) rfl ?_ | refine U1 _ (U5 rfl rfl) rfl ?_ | refine U1 _ (U2 rfl) rfl ?_ | refine U1 _ (U3 tok rfl rfl rfl rfl rfl) rfl ?_) | (refine M4 ?_; first | refine M6 ?_ | refine U6 rfl (by kernel_rfl) ?_ | refine U7 (by kernel_rfl) ?_) | (refine M5 ?_; first | exact M7 | refine U8 rfl ?_ | refine U9 rfl rfl ?_ ?_))
  refine XL.callF (RunV b s ts) (ck rfl) rfl rfl (Fam.start (ks := []) (Nat.le_refl w.heap.size)) (fun _ h => by cases h) (Below.refl w.heap.size w) (fun w1 S1 _ _ => refRun_any (p := p) (q := q) (r := r) (hb.sys S1) (hq.arg S1) (ht.arg S1)) (fun w2 v new hR hF2 hB2 hk2 => ?_)
  obtain ⟨r1, r2, l1, l2, rfl, rfl, e1, e2⟩ := hR
  simp only [svV]
  repeat (first | (refine M0 ?_; first | refine O0 ?_ | refine z1 tok rfl ?_ | refine O1 rfl ?_ rfl | refine O2 rfl ?_ | refine O3 rfl ?_ rfl | refine O4 rfl rfl rfl (fun _ _ => ?_) | refine O5 tok rfl rfl rfl (fun _ _ => ?_) | refine U0 _ (U2 rfl) rfl ?_ | refine U0 _ (U3 tok rfl rfl rfl rfl rfl) rfl ?_ | refine z3 tok rfl ?_ | refine U0 _ (U4 rfl rfl) rfl ?_ | refine U0 _ (U5 rfl rfl) rfl ?_) | (refine M1 ?_; first | refine J0 ?_ | refine J1 ?_ | refine J2 mixed rfl (by kernel_rfl) ?_ | refine J3 mixed rfl rfl (by kernel_rfl) ?_ | refine J4 ?_ | refine J5 ?_ | refine J6 ?_ | refine J7 ?_ | refine J8 rfl ?_ | refine J9 rfl ?_) | (refine M2 ?_; first | refine I0 ?_ | refine I1 ?_ | refine I2 ?_ | refine I3 ?_ | refine I4 ?_ | refine I5 ?_ | refine I6 rfl ?_ | refine I7 ?_ | refine I8 ?_ | refine z4 ?_) | (refine M3 ?_; first | refine O6 ?_ | refine z2 tok rfl ?_ | refine O8 rfl ?_ | refine O7 rfl ?_ rfl | refine O9 rfl ?_ rfl | refine U1 _ (U4 rfl rfl) rfl ?_ | refine U1 _ (U5 rfl rfl) rfl ?_ | refine U1 _ (U2 rfl) rfl ?_ | refine U1 _ (U3 tok rfl rfl rfl rfl rfl) rfl ?_) | (refine M4 ?_; first | refine M6 ?_ | refine U6 rfl (by kernel_rfl) ?_ | refine U7 (by kernel_rfl) ?_) | (refine M5 ?_; first | exact M7 | refine U8 rfl ?_ | refine U9 rfl rfl ?_ ?_))
  refine XL.split _ _ rfl (fun h0 => ?_) (fun h0 => ?_) <;> rw [h0]
  rotate_left
  · have hE : runE b s ts ≠ 0 := by simpa using h0
    obtain ⟨e3, e4⟩ := stay_run (lim := lim) hE
    repeat (first | (refine M0 ?_; first | refine O0 ?_ | refine z1 tok rfl ?_ | refine O1 rfl ?_ rfl | refine O2 rfl ?_ | refine O3 rfl ?_ rfl | refine O4 rfl rfl rfl (fun _ _ => ?_) | refine O5 tok rfl rfl rfl (fun _ _ => ?_) | refine U0 _ (U2 rfl) rfl ?_ | refine U0 _ (U3 tok rfl rfl rfl rfl rfl) rfl ?_ | refine z3 tok rfl ?_ | refine U0 _ (U4 rfl rfl) rfl ?_ | refine U0 _ (U5 rfl rfl) rfl ?_) | (refine M1 ?_; first | refine J0 ?_ | refine J1 ?_ | refine J2 mixed rfl (by kernel_rfl) ?_ | refine J3 mixed rfl rfl (by kernel_rfl) ?_ | refine J4 ?_ | refine J5 ?_ | refine J6 ?_ | refine J7 ?_ | refine J8 rfl ?_ | refine J9 rfl ?_) | (refine M2 ?_; first | refine I0 ?_ | refine I1 ?_ | refine I2 ?_ | refine I3 ?_ | refine I4 ?_ | refine I5 ?_ | refine I6 rfl ?_ | refine I7 ?_ | refine I8 ?_ | refine z4 ?_) | (refine M3 ?_; first | refine O6 ?_ | refine z2 tok rfl ?_ | refine O8 rfl ?_ | refine O7 rfl ?_ rfl | refine O9 rfl ?_ rfl | refine U1 _ (U4 rfl rfl) rfl ?_ | refine U1 _ (U5 rfl rfl) rfl ?_ | refine U1 _ (U2 rfl) rfl ?_ | refine U1 _ (U3 tok rfl rfl rfl rfl rfl) rfl ?_) | (refine M4 ?_; first | refine M6 ?_ | refine U6 rfl (by kernel_rfl) ?_ | refine U7 (by kernel_rfl) ?_) | (refine M5 ?_; first | exact M7 | refine U8 rfl ?_ | refine U9 rfl rfl ?_ ?_))
    refine XC.cond _ rfl (fun h1 => ?_) (fun h1 => absurd hE (by simpa using h1))
    repeat (first | (refine M0 ?_; first | refine O0 ?_ | refine z1 tok rfl ?_ | refine O1 rfl ?_ rfl | refine O2 rfl ?_ | refine O3 rfl ?_ rfl | refine O4 rfl rfl rfl (fun _ _ => ?_) | refine O5 tok rfl rfl rfl (fun _ _ => ?_) | refine U0 _ (U2 rfl) rfl ?_ | refine U0 _ (U3 tok rfl rfl rfl rfl rfl) rfl ?_ | refine z3 tok rfl ?_ | refine U0 _ (U4 rfl rfl) rfl ?_ | refine U0 _ (U5 rfl rfl) rfl ?_) | (refine M1 ?_; first | refine J0 ?_ | refine J1 ?_ | refine J2 mixed rfl (by kernel_rfl) ?_ | refine J3 mixed rfl rfl (by kernel_rfl) ?_ | refine J4 ?_ | refine J5 ?_ | refine J6 ?_ | refine J7 ?_ | refine J8 rfl ?_ | refine J9 rfl ?_) | (refine M2 ?_; first | refine I0 ?_ | refine I1 ?_ | refine I2 ?_ | refine I3 ?_ | refine I4 ?_ | refine I5 ?_ | refine I6 rfl ?_ | refine I7 ?_ | refine I8 ?_ | refine z4 ?_) | (refine M3 ?_; first | refine O6 ?_ | refine z2 tok rfl ?_ | refine O8 rfl ?_ | refine O7 rfl ?_ rfl | refine O9 rfl ?_ rfl | refine U1 _ (U4 rfl rfl) rfl ?_ | refine U1 _ (U5 rfl rfl) rfl ?_ | refine U1 _ (U2 rfl) rfl ?_ | refine U1 _ (U3 tok rfl rfl rfl rfl rfl) rfl ?_) | (refine M4 ?_; first | refine M6 ?_ | refine U6 rfl (by kernel_rfl) ?_ | refine U7 (by kernel_rfl) ?_) | (refine M5 ?_; first | exact M7 | refine U8 rfl ?_ | refine U9 rfl rfl ?_ ?_))
    refine XE.retg tok Tryd.results28 rfl (by simp only [and_self, and_true]) (fun w' S => ?_)
    rw [e3, e4]
    exact ⟨rfl, hB2.trans S.toBelow⟩
  have hE : runE b s ts = 0 := by simpa using h0
  obtain ⟨hs0, h300, herr⟩ := runE_0 hE
  obtain ⟨ho, hs⟩ := staOk_of hs0
  have hb2 := hb.below hB2
  repeat (first | (refine M0 ?_; first | refine O0 ?_ | refine z1 tok rfl ?_ | refine O1 rfl ?_ rfl | refine O2 rfl ?_ | refine O3 rfl ?_ rfl | refine U0 _ (Ev.call (f := 58) (ck rfl) rfl (fun w S => (limited_any (p := p) (hb2.sys S) ho.rowsOk lim :))) rfl ?_ | refine O4 rfl rfl rfl (fun _ _ => ?_) | refine O5 tok rfl rfl rfl (fun _ _ => ?_) | refine U0 _ (U2 rfl) rfl ?_ | refine U0 _ (U3 tok rfl rfl rfl rfl rfl) rfl ?_ | refine z3 tok rfl ?_ | refine U0 _ (U4 rfl rfl) rfl ?_ | refine U0 _ (U5 rfl rfl) rfl ?_) | (refine M1 ?_; first | refine J0 ?_ | refine J1 ?_ | refine J2 mixed rfl (by kernel_rfl) ?_ | refine J3 mixed rfl rfl (by kernel_rfl) ?_ | refine J4 ?_ | refine J5 ?_ | refine J6 ?_ | refine J7 ?_ | refine J8 rfl ?_ | refine J9 rfl ?_) | (refine M2 ?_; first | refine I0 ?_ | refine I1 ?_ | refine I2 ?_ | refine I3 ?_ | refine I4 ?_ | refine I5 ?_ | refine I6 rfl ?_ | refine I7 ?_ | refine I8 ?_ | refine z4 ?_) | (refine M3 ?_; first | refine O6 ?_ | refine z2 tok rfl ?_ | refine O8 rfl ?_ | refine O7 rfl ?_ rfl | refine O9 rfl ?_ rfl | refine U1 _ (Ev.call (f := 58) (ck rfl) rfl (fun w S => (limited_any (p := p) (hb2.sys S) ho.rowsOk lim :))) rfl ?_ | refine U1 _ (U4 rfl rfl) rfl ?_ | refine U1 _ (U5 rfl rfl) rfl ?_ | refine U1 _ (U2 rfl) rfl ?_ | refine U1 _ (U3 tok rfl rfl rfl rfl rfl) rfl ?_) | (refine M4 ?_; first | refine M6 ?_ | refine U6 rfl (by kernel_rfl) ?_ | refine U7 (by kernel_rfl) ?_) | (refine M5 ?_; first | exact M7 | refine U8 rfl ?_ | refine U9 rfl rfl ?_ ?_))
  refine XC.cond _ rfl (fun h1 => ?_) (fun h1 => ?_)
  · have h5 : outB lim (b.row 0).level 20000 = true := by simpa using h1
    obtain ⟨e3, e4⟩ := stay_out hE h5
    repeat (first | (refine M0 ?_; first | refine O0 ?_ | refine z1 tok rfl ?_ | refine O1 rfl ?_ rfl | refine O2 rfl ?_ | refine O3 rfl ?_ rfl | refine O4 rfl rfl rfl (fun _ _ => ?_) | refine O5 tok rfl rfl rfl (fun _ _ => ?_) | refine U0 _ (U2 rfl) rfl ?_ | refine U0 _ (U3 tok rfl rfl rfl rfl rfl) rfl ?_ | refine z3 tok rfl ?_ | refine U0 _ (U4 rfl rfl) rfl ?_ | refine U0 _ (U5 rfl rfl) rfl ?_) | (refine M1 ?_; first | refine J0 ?_ | refine J1 ?_ | refine J2 mixed rfl (by kernel_rfl) ?_ | refine J3 mixed rfl rfl (by kernel_rfl) ?_ | refine J4 ?_ | refine J5 ?_ | refine J6 ?_ | refine J7 ?_ | refine J8 rfl ?_ | refine J9 rfl ?_) | (refine M2 ?_; first | refine I0 ?_ | refine I1 ?_ | refine I2 ?_ | refine I3 ?_ | refine I4 ?_ | refine I5 ?_ | refine I6 rfl ?_ | refine I7 ?_ | refine I8 ?_ | refine z4 ?_) | (refine M3 ?_; first | refine O6 ?_ | refine z2 tok rfl ?_ | refine O8 rfl ?_ | refine O7 rfl ?_ rfl | refine O9 rfl ?_ rfl | refine U1 _ (U4 rfl rfl) rfl ?_ | refine U1 _ (U5 rfl rfl) rfl ?_ | refine U1 _ (U2 rfl) rfl ?_ | refine U1 _ (U3 tok rfl rfl rfl rfl rfl) rfl ?_) | (refine M4 ?_; first | refine M6 ?_ | refine U6 rfl (by kernel_rfl) ?_ | refine U7 (by kernel_rfl) ?_) | (refine M5 ?_; first | exact M7 | refine U8 rfl ?_ | refine U9 rfl rfl ?_ ?_))
    refine XE.retg tok Tryd.results28 rfl (by simp only [and_self, and_true]) (fun w' S => ?_)
    rw [e3, e4]
    exact ⟨rfl, hB2.trans S.toBelow⟩
  · have h5 : outB lim (b.row 0).level 20000 = false := by simpa using h1
    obtain ⟨e3, e4⟩ := stay_in hE h5
    have h6 := outB_f.1 h5
    have h7 := ho.rowsOk.level 0 (by have := ho.rowsOk.n2; omega)
    have hl : -20000 ≤ lim ∧ lim ≤ 20000 := by omega
    have hln : l1.length ≤ 1000 := by
      have := congrArg List.length e1
      rw [runS_len hE] at this
      simp at this
      omega
    repeat (first | (refine M0 ?_; first | refine O0 ?_ | refine z1 tok rfl ?_ | refine O1 rfl ?_ rfl | refine O2 rfl ?_ | refine O3 rfl ?_ rfl | refine O4 rfl rfl rfl (fun _ _ => ?_) | refine O5 tok rfl rfl rfl (fun _ _ => ?_) | refine U0 _ (U2 rfl) rfl ?_ | refine U0 _ (U3 tok rfl rfl rfl rfl rfl) rfl ?_ | refine z3 tok rfl ?_ | refine U0 _ (U4 rfl rfl) rfl ?_ | refine U0 _ (U5 rfl rfl) rfl ?_) | (refine M1 ?_; first | refine J0 ?_ | refine J1 ?_ | refine J2 mixed rfl (by kernel_rfl) ?_ | refine J3 mixed rfl rfl (by kernel_rfl) ?_ | refine J4 ?_ | refine J5 ?_ | refine J6 ?_ | refine J7 ?_ | refine J8 rfl ?_ | refine J9 rfl ?_) | (refine M2 ?_; first | refine I0 ?_ | refine I1 ?_ | refine I2 ?_ | refine I3 ?_ | refine I4 ?_ | refine I5 ?_ | refine I6 rfl ?_ | refine I7 ?_ | refine I8 ?_ | refine z4 ?_) | (refine M3 ?_; first | refine O6 ?_ | refine z2 tok rfl ?_ | refine O8 rfl ?_ | refine O7 rfl ?_ rfl | refine O9 rfl ?_ rfl | refine U1 _ (U4 rfl rfl) rfl ?_ | refine U1 _ (U5 rfl rfl) rfl ?_ | refine U1 _ (U2 rfl) rfl ?_ | refine U1 _ (U3 tok rfl rfl rfl rfl rfl) rfl ?_) | (refine M4 ?_; first | refine M6 ?_ | refine U6 rfl (by kernel_rfl) ?_ | refine U7 (by kernel_rfl) ?_) | (refine M5 ?_; first | exact M7 | refine U8 rfl ?_ | refine U9 rfl rfl ?_ ?_))
    refine XC.cond _ rfl (fun h2 => absurd hE (by simpa using h2)) (fun h2 => ?_)
    repeat (first | (refine M0 ?_; first | refine O0 ?_ | refine z1 tok rfl ?_ | refine O1 rfl ?_ rfl | refine O2 rfl ?_ | refine O3 rfl ?_ rfl | refine U0 _ (Ev.call (f := 59) (ck rfl) rfl (fun w S => (refstay_any (p := p) (r := r1) (l := l1) (lim := lim) (hb2.sys S) ho (Held.lt (x := hList staK r1 l1) ((hF2.sys S (by intro e he; repeat (first | (cases he; done) | (rcases List.mem_cons.1 he with rfl | he; · first | (right; assumption) | (left; simp <;> fail))))).get (.head _))) (fun a ha => (runS_ok ho hs herr e1 a ha).vol) hl hln :))) rfl ?_ | refine O4 rfl rfl rfl (fun _ _ => ?_) | refine O5 tok rfl rfl rfl (fun _ _ => ?_) | refine U0 _ (U2 rfl) rfl ?_ | refine U0 _ (U3 tok rfl rfl rfl rfl rfl) rfl ?_ | refine z3 tok rfl ?_ | refine U0 _ (U4 rfl rfl) rfl ?_ | refine U0 _ (U5 rfl rfl) rfl ?_) | (refine M1 ?_; first | refine J0 ?_ | refine J1 ?_ | refine J2 mixed rfl (by kernel_rfl) ?_ | refine J3 mixed rfl rfl (by kernel_rfl) ?_ | refine J4 ?_ | refine J5 ?_ | refine J6 ?_ | refine J7 ?_ | refine J8 rfl ?_ | refine J9 rfl ?_) | (refine M2 ?_; first | refine I0 ?_ | refine I1 ?_ | refine I2 ?_ | refine I3 ?_ | refine I4 ?_ | refine I5 ?_ | refine I6 rfl ?_ | refine I7 ?_ | refine I8 ?_ | refine z4 ?_) | (refine M3 ?_; first | refine O6 ?_ | refine z2 tok rfl ?_ | refine O8 rfl ?_ | refine O7 rfl ?_ rfl | refine O9 rfl ?_ rfl | refine U1 _ (Ev.call (f := 59) (ck rfl) rfl (fun w S => (refstay_any (p := p) (r := r1) (l := l1) (lim := lim) (hb2.sys S) ho (Held.lt (x := hList staK r1 l1) ((hF2.sys S (by intro e he; repeat (first | (cases he; done) | (rcases List.mem_cons.1 he with rfl | he; · first | (right; assumption) | (left; simp <;> fail))))).get (.head _))) (fun a ha => (runS_ok ho hs herr e1 a ha).vol) hl hln :))) rfl ?_ | refine U1 _ (U4 rfl rfl) rfl ?_ | refine U1 _ (U5 rfl rfl) rfl ?_ | refine U1 _ (U2 rfl) rfl ?_ | refine U1 _ (U3 tok rfl rfl rfl rfl rfl) rfl ?_) | (refine M4 ?_; first | refine M6 ?_ | refine U6 rfl (by kernel_rfl) ?_ | refine U7 (by kernel_rfl) ?_) | (refine M5 ?_; first | exact M7 | refine U8 rfl ?_ | refine U9 rfl rfl ?_ ?_))
    refine XE.retg tok Tryd.results28 rfl (by simp only [and_self, and_true]) (fun w' S => ?_)
    rw [e3, e4, runS_find e1 hE]
    exact ⟨rfl, hB2.trans S.toBelow⟩
end Go.Proofs.YtoiepgcjinccpaaDoor.X
/-
  The walks of both Floods.
-/
namespace Go.Proofs.YtoiepgcjinccpaaDoor.Bs
theorem flo_len {b : Bas} {s : Sta} {ts : List Tick} {f : Flo} (h : f ∈ runF b s ts) : f.taken.length = b.pols.length := by
  unfold runF at h
  split at h
  · cases h
  · rename_i h0
    have h1 := X.runE_0 (by simpa using h0 : runE b s ts = 0)
    obtain ⟨i, hi, rfl⟩ := List.mem_map.1 h
    have h2 : stepE b (staAt b s ts i) (tk ts i) = 0 := h1.2.2 i (List.mem_range.1 hi)
    show (outF b (staAt b s ts i) (tk ts i)).taken.length = _
    rw [outF_0 h2]
    simp [stepF, rg_len]
/-- the first tick from m on in which polder i takes water. -/
def firstG (fs : List Flo) (i m : Nat) : Int := match (fs.drop m).findIdx? fun f => decide (0 < f.t i) with
  | some k => (((m + k : Nat)) : Int)
  | none => -1
theorem firstG_0 (fs : List Flo) (i : Nat) : firstG fs i 0 = firstF fs i := by
  unfold firstG firstF
  rw [List.drop_zero]
  cases fs.findIdx? fun f => decide (0 < f.t i) with
  | none => rfl
  | some k => simp
theorem firstG_len (fs : List Flo) (i : Nat) : firstG fs i fs.length = -1 := by
  unfold firstG
  simp
theorem firstG_y {fs : List Flo} {i m : Nat} (hm : m < fs.length) (h : 0 < fs[m].t i) : firstG fs i m = (m : Nat) := by
  unfold firstG
  rw [List.drop_eq_getElem_cons hm, List.findIdx?_cons]
  simp [h]
theorem firstG_n {fs : List Flo} {i m : Nat} (hm : m < fs.length) (h : ¬ 0 < fs[m].t i) : firstG fs i m = firstG fs i (m + 1) := by
  unfold firstG
  rw [List.drop_eq_getElem_cons hm, List.findIdx?_cons]
  simp only [h, decide_false, Bool.false_eq_true, if_false]
  cases (fs.drop (m + 1)).findIdx? fun f => decide (0 < f.t i) with
  | none => rfl
  | some k => simp only [Option.map_some]; congr 1; omega
end Go.Proofs.YtoiepgcjinccpaaDoor.Bs
namespace Go.Proofs.YtoiepgcjinccpaaDoor.X
open Go Go.RowKit Go.Proofs.YtoiepgcjinccpaaDoor.Bs
set_option linter.unusedVariables false
def intK : Kind Int := ⟨3, 1, fun k => [.int .i64 k], fun _ => [], fun _ => rfl⟩
theorem intK_el : elemOk Tryd.prog 26 intK.ty intK.m 8 = true := by kernel_rfl
theorem ints_flat' (l : List Int) : l.flatMap intK.c = ints l := by
  unfold ints
  induction l with
  | nil => rfl
  | cons a l ih => rw [List.flatMap_cons, ih]; rfl
theorem ListAt.ints {w : World} {ok : Nat → Prop} {r : SV} {l : List Int} (h : ListAt intK w ok r l) : IntsAt w ok r l := ⟨by have := h.rd; rw [ints_flat'] at this; exact this, h.max⟩
/-- what run leaves. -/
def MomV (b : Bas) (s : Sta) (ts : List Tick) (v : Value) (new : List Held) : Prop :=
  ∃ (rm : SV) (ms : List Mom), v = .tuple ⟨[svV rm, .int .i64 (runE b s ts)]⟩ ∧ new = [hList momK rm ms] ∧ ms.length ≤ 300 ∧ ms.map (·.s) = runS b s ts ∧ ms.map (·.f) = runF b s ts
theorem run_made {p : BV} {b : Bas} {q r : SV} {s : Sta} {ts : List Tick} {w : World} (hL : Laid w) (hb : BasAt w w.heap.size p b) (hq : IntsAt w (Lt w.heap.size) q s.fil) (ht : TksAt w (Lt w.heap.size) r ts) :
    Calls Tryd.prog 55 #[basV p b, staV q s, svV r] w (Made w (MomV b s ts)) := by
  refine (run_any hL hb hq ht).mono fun e w' ⟨v, h1, h2, h3⟩ => ?_
  rcases h2 with ⟨h4, rfl⟩ | ⟨h4, hE, h5, h6, rm, ms, rfl, hrow, hms⟩
  · obtain ⟨e1, e2⟩ := run_n h4
    refine ⟨_, _, h1, ⟨⟨none, 0, 0⟩, [], rfl, rfl, by simp, e1.symm, e2.symm⟩, fun x hx => ?_, h3⟩
    rw [List.mem_singleton] at hx
    subst hx
    exact ListAt.nil
  · obtain ⟨e1, e2⟩ := run_0 h4
    have hl := congrArg List.length hms
    simp [momsAt] at hl
    refine ⟨_, _, h1, ⟨rm, ms, by rw [h4], rfl, by omega, ?_, ?_⟩, fun x hx => ?_, h3⟩
    · rw [e1, ← hms, List.map_map]; rfl
    · rw [e2, ← hms, List.map_map]; rfl
    · rw [List.mem_singleton] at hx
      subst hx
      exact hrow.list
/-- what Floods leaves. -/
def FloodV (b : Bas) (s : Sta) (ts : List Tick) (v : Value) (new : List Held) : Prop := ∃ r : SV, v = .tuple ⟨[svV r, .int .i64 (runE b s ts)]⟩ ∧ new = [hInts r (floods b s ts)]
theorem FloodV.made {b : Bas} {s : Sta} {ts : List Tick} {w w' : World} {r : SV} {e : Ending} (he : e = .returned (.tuple ⟨[svV r, .int .i64 (runE b s ts)]⟩)) (h : IntsAt w' (Btw w.heap.size w'.heap.size) r (floods b s ts)) (hB : Below w.heap.size w w') : Made w (FloodV b s ts) e w' :=
  ⟨_, _, he, ⟨r, rfl, rfl⟩, fun x hx => by rw [List.mem_singleton] at hx; subst hx; exact h, hB⟩
theorem floods_n {b : Bas} {s : Sta} {ts : List Tick} (h : runE b s ts ≠ 0) : floods b s ts = [] := by simp [floods, h]
theorem floods_0 {b : Bas} {s : Sta} {ts : List Tick} (h : runE b s ts = 0) : floods b s ts = (List.range b.pols.length).map (firstF (runF b s ts)) := by simp [floods, h]
set_option maxHeartbeats 4000000 in
theorem floods1_any {m : Mom} {gi i : Nat} {w : World} (h1 : w.heap[gi]? = some (cel 3 [.int .i64 (i : Nat)])) (hr : IntsAt w (Lt w.heap.size) m.r m.f.taken) (hi : i < m.f.taken.length) :
    Calls Tryd.prog 61 #[.agg ⟨m.c⟩, .pointer (some ⟨gi, 0, none⟩)] w fun e w' => e = .returned (.bool (decide (0 < m.f.t i))) ∧ Below w.heap.size w w' := by
  obtain ⟨s, f, q, ⟨A, n, c⟩⟩ := m
  simp only at hr hi ⊢
  have hn := hr.len
  have hmax := hr.max
  simp only at hn hmax
  subst hn
  obtain ⟨ad, rfl, hlt, hcells⟩ := hr.at_ (by omega)
  have hcell := hcells i hi
  have hl1 := (Array.getElem?_eq_some_iff.1 h1).1
  have hc1 : w.cell? ⟨gi, 0, none⟩ = some (.int .i64 (i : Nat)) := by simp [World.cell?, h1]
  simp only [Mom.c, momC, staC, floC, List.cons_append, List.nil_append]
  refine enter Tryd.func61 rfl Tryd.ntmps61 rfl ?_; simp only [frame, Nat.zero_add, Nat.reduceAdd]
  repeat (first | (refine M0 ?_; first | refine O0 ?_ | refine z1 tok rfl ?_ | refine O1 rfl ?_ rfl | refine O2 rfl ?_ | refine O3 rfl ?_ rfl | refine U0 _ (Ev.load_old tok rfl rfl hl1 hc1) rfl ?_ | refine U0 _ (Ev.load_old tok rfl rfl (add_lt hlt) hcell) rfl ?_ | refine O4 rfl rfl rfl (fun _ _ => ?_) | refine O5 tok rfl rfl rfl (fun _ _ => ?_) | refine U0 _ (U2 rfl) rfl ?_ | refine U0 _ (U3 tok rfl rfl rfl rfl rfl) rfl ?_ | refine z3 tok rfl ?_ | refine U0 _ (U4 rfl rfl) rfl ?_ | refine U0 _ (U5 rfl rfl) rfl ?_) | (refine M1 ?_; first | refine J0 ?_ | refine J1 ?_ | refine J2 mixed rfl (by kernel_rfl) ?_ | refine J3 mixed rfl rfl (by kernel_rfl) ?_ | refine J4 ?_ | refine J5 ?_ | refine J6 ?_ | refine J7 ?_ | refine J8 rfl ?_ | refine J9 rfl ?_) | (refine M2 ?_; first | refine I0 ?_ | refine I1 ?_ | refine I2 ?_ | refine I3 ?_ | refine I4 ?_ | refine I5 ?_ | refine I6 rfl ?_ | refine I7 ?_ | refine I8 ?_ | refine z4 ?_) | (refine M3 ?_; first | refine O6 ?_ | refine z2 tok rfl ?_ | refine O8 rfl ?_ | refine O7 rfl ?_ rfl | refine O9 rfl ?_ rfl | refine U1 _ (Ev.load_old tok rfl rfl hl1 hc1) rfl ?_ | refine U1 _ (Ev.load_old tok rfl rfl (add_lt hlt) hcell) rfl ?_ | refine U1 _ (U4 rfl rfl) rfl ?_ | refine U1 _ (U5 rfl rfl) rfl ?_ | refine U1 _ (U2 rfl) rfl ?_ | refine U1 _ (U3 tok rfl rfl rfl rfl rfl) rfl ?_) | (refine M4 ?_; first | refine M6 ?_ | refine U6 rfl (by kernel_rfl) ?_ | refine U7 (by kernel_rfl) ?_) | (refine M5 ?_; first | exact M7 | refine U8 rfl ?_ | refine U9 rfl rfl ?_ ?_))
  refine XE.retg tok Tryd.results61 rfl (by simp only [and_self, and_true]) (fun w' S => ?_)
  exact ⟨rfl, S.toBelow⟩
def idxV (ms : List Mom) (P : Mom → Bool) : Int := match ms.findIdx? P with
  | some i => ((i : Nat) : Int)
  | none => -1
theorem idxV_first {b : Bas} {s : Sta} {ts : List Tick} {ms : List Mom} (h : ms.map (·.f) = runF b s ts) (k : Nat) : idxV ms (fun m => decide (0 < m.f.t k)) = firstF (runF b s ts) k := by
  rw [← h]
  unfold idxV firstF
  rw [List.findIdx?_map]
  rfl
set_option maxHeartbeats 4000000 in
theorem index_gen {f : FuncId} {cap : List Value} {P : Mom → Bool} {r : SV} {ms : List Mom} {w : World} (hck : callOk Tryd.prog f = true) (hr : ListAt momK w (Lt w.heap.size) r ms) (hn : ms.length ≤ 1000)
    (hc : ∀ m, m ∈ ms → ∀ w', Below w.heap.size w w' → Calls Tryd.prog f ([] ++ [Value.agg ⟨m.c⟩] ++ cap).toArray w' fun e w'' => e = .returned (.bool (P m)) ∧ Below w'.heap.size w' w'') :
    Calls Tryd.prog 60 #[svV r, .func (.func f) #[] cap.toArray] w fun e w' => e = .returned (.int .i64 (idxV ms P)) ∧ Below w.heap.size w w' := by
  obtain ⟨A, n, c⟩ := r
  have hln := hr.len (by decide)
  simp only at hln
  subst hln
  simp only [svV]
  refine enter Tryd.func60 rfl Tryd.ntmps60 rfl ?_; simp only [frame, Nat.zero_add, Nat.reduceAdd]
  repeat (first | (refine M0 ?_; first | refine O0 ?_ | refine z1 tok rfl ?_ | refine O1 rfl ?_ rfl | refine O2 rfl ?_ | refine O3 rfl ?_ rfl | refine O4 rfl rfl rfl (fun _ _ => ?_) | refine O5 tok rfl rfl rfl (fun _ _ => ?_) | refine U0 _ (U2 rfl) rfl ?_ | refine U0 _ (U3 tok rfl rfl rfl rfl rfl) rfl ?_ | refine z3 tok rfl ?_ | refine U0 _ (U4 rfl rfl) rfl ?_ | refine U0 _ (U5 rfl rfl) rfl ?_) | (refine M1 ?_; first | refine J0 ?_ | refine J1 ?_ | refine J2 mixed rfl (by kernel_rfl) ?_ | refine J3 mixed rfl rfl (by kernel_rfl) ?_ | refine J4 ?_ | refine J5 ?_ | refine J6 ?_ | refine J7 ?_ | refine J8 rfl ?_ | refine J9 rfl ?_) | (refine M2 ?_; first | refine I0 ?_ | refine I1 ?_ | refine I2 ?_ | refine I3 ?_ | refine I4 ?_ | refine I5 ?_ | refine I6 rfl ?_ | refine I7 ?_ | refine I8 ?_ | refine z4 ?_) | (refine M3 ?_; first | refine O6 ?_ | refine z2 tok rfl ?_ | refine O8 rfl ?_ | refine O7 rfl ?_ rfl | refine O9 rfl ?_ rfl | refine U1 _ (U4 rfl rfl) rfl ?_ | refine U1 _ (U5 rfl rfl) rfl ?_ | refine U1 _ (U2 rfl) rfl ?_ | refine U1 _ (U3 tok rfl rfl rfl rfl rfl) rfl ?_) | (refine M4 ?_; first | refine M6 ?_ | refine U6 rfl (by kernel_rfl) ?_ | refine U7 (by kernel_rfl) ?_) | (refine M5 ?_; first | exact M7 | refine U8 rfl ?_ | refine U9 rfl rfl ?_ ?_))
  refine XC.loopk [0, 1, 7] rfl (fun k : Nat => [(8, .int .i64 (k : Nat))]) (fun _ => []) (fun _ => w) (fun k => k ≤ ms.length ∧ ∀ j m, j < k → ms[j]? = some m → P m = false) (fun k => ms.length - k) 0 ⟨Nat.zero_le _, fun j m h => absurd h (by omega)⟩ (by repeat (first | exact Sub.nil | refine Sub.cons rfl ?_)) (fun _ h => h) ?_
  rintro k ⟨hk, h0⟩
  dsimp only [List.cons_append, List.nil_append]
  repeat (first | (refine M0 ?_; first | refine O0 ?_ | refine z1 tok rfl ?_ | refine O1 rfl ?_ rfl | refine O2 rfl ?_ | refine O3 rfl ?_ rfl | refine O4 rfl rfl rfl (fun _ _ => ?_) | refine O5 tok rfl rfl rfl (fun _ _ => ?_) | refine U0 _ (U2 rfl) rfl ?_ | refine U0 _ (U3 tok rfl rfl rfl rfl rfl) rfl ?_ | refine z3 tok rfl ?_ | refine U0 _ (U4 rfl rfl) rfl ?_ | refine U0 _ (U5 rfl rfl) rfl ?_) | (refine M1 ?_; first | refine J0 ?_ | refine J1 ?_ | refine J2 mixed rfl (by kernel_rfl) ?_ | refine J3 mixed rfl rfl (by kernel_rfl) ?_ | refine J4 ?_ | refine J5 ?_ | refine J6 ?_ | refine J7 ?_ | refine J8 rfl ?_ | refine J9 rfl ?_) | (refine M2 ?_; first | refine I0 ?_ | refine I1 ?_ | refine I2 ?_ | refine I3 ?_ | refine I4 ?_ | refine I5 ?_ | refine I6 rfl ?_ | refine I7 ?_ | refine I8 ?_ | refine z4 ?_) | (refine M3 ?_; first | refine O6 ?_ | refine z2 tok rfl ?_ | refine O8 rfl ?_ | refine O7 rfl ?_ rfl | refine O9 rfl ?_ rfl | refine U1 _ (U4 rfl rfl) rfl ?_ | refine U1 _ (U5 rfl rfl) rfl ?_ | refine U1 _ (U2 rfl) rfl ?_ | refine U1 _ (U3 tok rfl rfl rfl rfl rfl) rfl ?_) | (refine M4 ?_; first | refine M6 ?_ | refine U6 rfl (by kernel_rfl) ?_ | refine U7 (by kernel_rfl) ?_) | (refine M5 ?_; first | exact M7 | refine U8 rfl ?_ | refine U9 rfl rfl ?_ ?_))
  refine XC.cond _ rfl (fun h3 => ?_) (fun h3 => ?_)
  · have hkn : k < ms.length := by simpa using h3
    obtain ⟨ad, rfl, hlt⟩ := hr.addr (by decide) (by omega)
    have hmk : ms[k]? = some ms[k] := List.getElem?_eq_getElem hkn
    have hcell : ∀ j u, ms[k].c[j]? = some u → w.cell? ((ad.add (k * 7)).add j) = some u := hr.elem hmk
    repeat (first | (refine M0 ?_; first | refine O0 ?_ | refine z1 tok rfl ?_ | refine O1 rfl ?_ rfl | refine O2 rfl ?_ | refine O3 rfl ?_ rfl | refine U0 _ (Ev.load_old_agg tok ms[k].c rfl rfl rfl (add_lt hlt) hcell) rfl ?_ | refine U0 _ (Ev.callv (f := f) (fst := []) (cap := cap) hck rfl rfl (fun w S => hc _ (List.getElem_mem hkn) w S.toBelow)) rfl ?_ | refine O4 rfl rfl rfl (fun _ _ => ?_) | refine O5 tok rfl rfl rfl (fun _ _ => ?_) | refine U0 _ (U2 rfl) rfl ?_ | refine U0 _ (U3 tok rfl rfl rfl rfl rfl) rfl ?_ | refine z3 tok rfl ?_ | refine U0 _ (U4 rfl rfl) rfl ?_ | refine U0 _ (U5 rfl rfl) rfl ?_) | (refine M1 ?_; first | refine J0 ?_ | refine J1 ?_ | refine J2 mixed rfl (by kernel_rfl) ?_ | refine J3 mixed rfl rfl (by kernel_rfl) ?_ | refine J4 ?_ | refine J5 ?_ | refine J6 ?_ | refine J7 ?_ | refine J8 rfl ?_ | refine J9 rfl ?_) | (refine M2 ?_; first | refine I0 ?_ | refine I1 ?_ | refine I2 ?_ | refine I3 ?_ | refine I4 ?_ | refine I5 ?_ | refine I6 rfl ?_ | refine I7 ?_ | refine I8 ?_ | refine z4 ?_) | (refine M3 ?_; first | refine O6 ?_ | refine z2 tok rfl ?_ | refine O8 rfl ?_ | refine O7 rfl ?_ rfl | refine O9 rfl ?_ rfl | refine U1 _ (Ev.load_old_agg tok ms[k].c rfl rfl rfl (add_lt hlt) hcell) rfl ?_ | refine U1 _ (Ev.callv (f := f) (fst := []) (cap := cap) hck rfl rfl (fun w S => hc _ (List.getElem_mem hkn) w S.toBelow)) rfl ?_ | refine U1 _ (U4 rfl rfl) rfl ?_ | refine U1 _ (U5 rfl rfl) rfl ?_ | refine U1 _ (U2 rfl) rfl ?_ | refine U1 _ (U3 tok rfl rfl rfl rfl rfl) rfl ?_) | (refine M4 ?_; first | refine M6 ?_ | refine U6 rfl (by kernel_rfl) ?_ | refine U7 (by kernel_rfl) ?_) | (refine M5 ?_; first | exact M7 | refine U8 rfl ?_ | refine U9 rfl rfl ?_ ?_))
    refine XC.cond _ rfl (fun h4 => ?_) (fun h4 => ?_)
    · repeat (first | (refine M0 ?_; first | refine O0 ?_ | refine z1 tok rfl ?_ | refine O1 rfl ?_ rfl | refine O2 rfl ?_ | refine O3 rfl ?_ rfl | refine O4 rfl rfl rfl (fun _ _ => ?_) | refine O5 tok rfl rfl rfl (fun _ _ => ?_) | refine U0 _ (U2 rfl) rfl ?_ | refine U0 _ (U3 tok rfl rfl rfl rfl rfl) rfl ?_ | refine z3 tok rfl ?_ | refine U0 _ (U4 rfl rfl) rfl ?_ | refine U0 _ (U5 rfl rfl) rfl ?_) | (refine M1 ?_; first | refine J0 ?_ | refine J1 ?_ | refine J2 mixed rfl (by kernel_rfl) ?_ | refine J3 mixed rfl rfl (by kernel_rfl) ?_ | refine J4 ?_ | refine J5 ?_ | refine J6 ?_ | refine J7 ?_ | refine J8 rfl ?_ | refine J9 rfl ?_) | (refine M2 ?_; first | refine I0 ?_ | refine I1 ?_ | refine I2 ?_ | refine I3 ?_ | refine I4 ?_ | refine I5 ?_ | refine I6 rfl ?_ | refine I7 ?_ | refine I8 ?_ | refine z4 ?_) | (refine M3 ?_; first | refine O6 ?_ | refine z2 tok rfl ?_ | refine O8 rfl ?_ | refine O7 rfl ?_ rfl | refine O9 rfl ?_ rfl | refine U1 _ (U4 rfl rfl) rfl ?_ | refine U1 _ (U5 rfl rfl) rfl ?_ | refine U1 _ (U2 rfl) rfl ?_ | refine U1 _ (U3 tok rfl rfl rfl rfl rfl) rfl ?_) | (refine M4 ?_; first | refine M6 ?_ | refine U6 rfl (by kernel_rfl) ?_ | refine U7 (by kernel_rfl) ?_) | (refine M5 ?_; first | exact M7 | refine U8 rfl ?_ | refine U9 rfl rfl ?_ ?_))
      refine XE.retg tok Tryd.results60 rfl (by simp only [and_self, and_true]) (fun w' S => ?_)
      have : ms.findIdx? P = some k := by
        rw [List.findIdx?_eq_some_iff_getElem]
        exact ⟨hkn, h4, fun j hj => by simpa using h0 j _ hj (List.getElem?_eq_getElem (by omega))⟩
      unfold idxV
      rw [this]
      exact ⟨rfl, S.toBelow⟩
    · repeat (first | (refine M0 ?_; first | refine O0 ?_ | refine z1 tok rfl ?_ | refine O1 rfl ?_ rfl | refine O2 rfl ?_ | refine O3 rfl ?_ rfl | refine O4 rfl rfl rfl (fun _ _ => ?_) | refine O5 tok rfl rfl rfl (fun _ _ => ?_) | refine U0 _ (U2 rfl) rfl ?_ | refine U0 _ (U3 tok rfl rfl rfl rfl rfl) rfl ?_ | refine z3 tok rfl ?_ | refine U0 _ (U4 rfl rfl) rfl ?_ | refine U0 _ (U5 rfl rfl) rfl ?_) | (refine M1 ?_; first | refine J0 ?_ | refine J1 ?_ | refine J2 mixed rfl (by kernel_rfl) ?_ | refine J3 mixed rfl rfl (by kernel_rfl) ?_ | refine J4 ?_ | refine J5 ?_ | refine J6 ?_ | refine J7 ?_ | refine J8 rfl ?_ | refine J9 rfl ?_) | (refine M2 ?_; first | refine I0 ?_ | refine I1 ?_ | refine I2 ?_ | refine I3 ?_ | refine I4 ?_ | refine I5 ?_ | refine I6 rfl ?_ | refine I7 ?_ | refine I8 ?_ | refine z4 ?_) | (refine M3 ?_; first | refine O6 ?_ | refine z2 tok rfl ?_ | refine O8 rfl ?_ | refine O7 rfl ?_ rfl | refine O9 rfl ?_ rfl | refine U1 _ (U4 rfl rfl) rfl ?_ | refine U1 _ (U5 rfl rfl) rfl ?_ | refine U1 _ (U2 rfl) rfl ?_ | refine U1 _ (U3 tok rfl rfl rfl rfl rfl) rfl ?_) | (refine M4 ?_; first | refine M6 ?_ | refine U6 rfl (by kernel_rfl) ?_ | refine U7 (by kernel_rfl) ?_) | (refine M5 ?_; first | exact M7 | refine U8 rfl ?_ | refine U9 rfl rfl ?_ ?_))
      refine XE.round (k + 1) ⟨hkn, fun j m hj hm => ?_⟩ (by omega) (by repeat (first | exact Sub.nil | refine Sub.cons rfl ?_)) (fun _ h => h)
      rcases Nat.lt_or_ge j k with h5 | h5
      · exact h0 j m h5 hm
      · have : j = k := by omega
        subst this
        rw [hmk] at hm
        cases hm
        exact h4
  · have hkn : ¬ k < ms.length := by simpa using h3
    repeat (first | (refine M0 ?_; first | refine O0 ?_ | refine z1 tok rfl ?_ | refine O1 rfl ?_ rfl | refine O2 rfl ?_ | refine O3 rfl ?_ rfl | refine O4 rfl rfl rfl (fun _ _ => ?_) | refine O5 tok rfl rfl rfl (fun _ _ => ?_) | refine U0 _ (U2 rfl) rfl ?_ | refine U0 _ (U3 tok rfl rfl rfl rfl rfl) rfl ?_ | refine z3 tok rfl ?_ | refine U0 _ (U4 rfl rfl) rfl ?_ | refine U0 _ (U5 rfl rfl) rfl ?_) | (refine M1 ?_; first | refine J0 ?_ | refine J1 ?_ | refine J2 mixed rfl (by kernel_rfl) ?_ | refine J3 mixed rfl rfl (by kernel_rfl) ?_ | refine J4 ?_ | refine J5 ?_ | refine J6 ?_ | refine J7 ?_ | refine J8 rfl ?_ | refine J9 rfl ?_) | (refine M2 ?_; first | refine I0 ?_ | refine I1 ?_ | refine I2 ?_ | refine I3 ?_ | refine I4 ?_ | refine I5 ?_ | refine I6 rfl ?_ | refine I7 ?_ | refine I8 ?_ | refine z4 ?_) | (refine M3 ?_; first | refine O6 ?_ | refine z2 tok rfl ?_ | refine O8 rfl ?_ | refine O7 rfl ?_ rfl | refine O9 rfl ?_ rfl | refine U1 _ (U4 rfl rfl) rfl ?_ | refine U1 _ (U5 rfl rfl) rfl ?_ | refine U1 _ (U2 rfl) rfl ?_ | refine U1 _ (U3 tok rfl rfl rfl rfl rfl) rfl ?_) | (refine M4 ?_; first | refine M6 ?_ | refine U6 rfl (by kernel_rfl) ?_ | refine U7 (by kernel_rfl) ?_) | (refine M5 ?_; first | exact M7 | refine U8 rfl ?_ | refine U9 rfl rfl ?_ ?_))
    refine XE.retg tok Tryd.results60 rfl (by simp only [and_self, and_true]) (fun w' S => ?_)
    have : ms.findIdx? P = none := by
      rw [List.findIdx?_eq_none_iff]
      intro m hm
      obtain ⟨j, hj, e⟩ := List.mem_iff_getElem.1 hm
      exact h0 j m (by omega) (by rw [List.getElem?_eq_getElem hj, e])
    unfold idxV
    rw [this]
    exact ⟨rfl, S.toBelow⟩
set_option maxHeartbeats 8000000 in
theorem Floods_any {p : BV} {b : Bas} {q r : SV} {s : Sta} {ts : List Tick} {w : World} (hL : Laid w) (hb : BasAt w w.heap.size p b) (hq : IntsAt w (Lt w.heap.size) q s.fil) (ht : TksAt w (Lt w.heap.size) r ts) :
    Calls Tryd.prog 29 #[basV p b, staV q s, svV r] w (Made w (FloodV b s ts)) := by
  obtain ⟨A, n, c, A2, n2, c2⟩ := p
  have hn2 := hb.n2_eq
  simp only at hn2
  subst hn2
  simp only [basV, basC, staV, staC, svV]
  refine enter Tryd.func29 rfl Tryd.ntmps29 rfl ?_; simp only [frame, Nat.zero_add, Nat.reduceAdd]
  repeat (first | (refine M0 ?_; first | refine O0 ?_ | refine z1 tok rfl ?_ | refine O1 rfl ?_ rfl | refine O2 rfl ?_ | refine O3 rfl ?_ rfl | refine O4 rfl rfl rfl (fun _ _ => ?_) | refine O5 tok rfl rfl rfl (fun _ _ => ?_) | refine U0 _ (U2 rfl) rfl ?_ | refine U0 _ (U3 tok rfl rfl rfl rfl rfl) rfl ?_ | refine z3 tok rfl ?_ | refine U0 _ (U4 rfl rfl) rfl ?_ | refine U0 _ (U5 rfl rfl) rfl ?_) | (refine M1 ?_; first | refine J0 ?_ | refine J1 ?_ | refine J2 mixed rfl (by kernel_rfl) ?_ | refine J3 mixed rfl rfl (by kernel_rfl) ?_ | refine J4 ?_ | refine J5 ?_ | refine J6 ?_ | refine J7 ?_ | refine J8 rfl ?_ | refine J9 rfl ?_) | (refine M2 ?_; first | refine I0 ?_ | refine I1 ?_ | refine I2 ?_ | refine I3 ?_ | refine I4 ?_ | refine I5 ?_ | refine I6 rfl ?_ | refine I7 ?_ | refine I8 ?_ | refine z4 ?_) | (refine M3 ?_; first | refine O6 ?_ | refine z2 tok rfl ?_ | refine O8 rfl ?_ | refine O7 rfl ?_ rfl | refine O9 rfl ?_ rfl | refine U1 _ (U4 rfl rfl) rfl ?_ | refine U1 _ (U5 rfl rfl) rfl ?_ | refine U1 _ (U2 rfl) rfl ?_ | refine U1 _ (U3 tok rfl rfl rfl rfl rfl) rfl ?_) | (refine M4 ?_; first | refine M6 ?_ | refine U6 rfl (by kernel_rfl) ?_ | refine U7 (by kernel_rfl) ?_) | (refine M5 ?_; first | exact M7 | refine U8 rfl ?_ | refine U9 rfl rfl ?_ ?_))
  rename_i g3 hg3 g4 hg4
  refine XL.callF (MomV b s ts) (ck rfl) rfl rfl (Fam.start (ks := []) (Nat.le_refl w.heap.size)) (fun _ h => by cases h) (Below.refl w.heap.size w) (fun w1 S1 _ _ => run_made (p := ⟨A, n, c, A2, b.pols.length, c2⟩) (q := q) (r := r) (hL.below S1.toBelow) (hb.sys S1) (hq.arg S1) (ht.arg S1)) (fun w2 v new hR hF2 hB2 hk2 => ?_)
  obtain ⟨rm, ms, rfl, rfl, hlen, e1, e2⟩ := hR
  simp only [svV]
  repeat (first | (refine M0 ?_; first | refine O0 ?_ | refine z1 tok rfl ?_ | refine O1 rfl ?_ rfl | refine O2 rfl ?_ | refine O3 rfl ?_ rfl | refine O4 rfl rfl rfl (fun _ _ => ?_) | refine O5 tok rfl rfl rfl (fun _ _ => ?_) | refine U0 _ (U2 rfl) rfl ?_ | refine U0 _ (U3 tok rfl rfl rfl rfl rfl) rfl ?_ | refine z3 tok rfl ?_ | refine U0 _ (U4 rfl rfl) rfl ?_ | refine U0 _ (U5 rfl rfl) rfl ?_) | (refine M1 ?_; first | refine J0 ?_ | refine J1 ?_ | refine J2 mixed rfl (by kernel_rfl) ?_ | refine J3 mixed rfl rfl (by kernel_rfl) ?_ | refine J4 ?_ | refine J5 ?_ | refine J6 ?_ | refine J7 ?_ | refine J8 rfl ?_ | refine J9 rfl ?_) | (refine M2 ?_; first | refine I0 ?_ | refine I1 ?_ | refine I2 ?_ | refine I3 ?_ | refine I4 ?_ | refine I5 ?_ | refine I6 rfl ?_ | refine I7 ?_ | refine I8 ?_ | refine z4 ?_) | (refine M3 ?_; first | refine O6 ?_ | refine z2 tok rfl ?_ | refine O8 rfl ?_ | refine O7 rfl ?_ rfl | refine O9 rfl ?_ rfl | refine U1 _ (U4 rfl rfl) rfl ?_ | refine U1 _ (U5 rfl rfl) rfl ?_ | refine U1 _ (U2 rfl) rfl ?_ | refine U1 _ (U3 tok rfl rfl rfl rfl rfl) rfl ?_) | (refine M4 ?_; first | refine M6 ?_ | refine U6 rfl (by kernel_rfl) ?_ | refine U7 (by kernel_rfl) ?_) | (refine M5 ?_; first | exact M7 | refine U8 rfl ?_ | refine U9 rfl rfl ?_ ?_))
  refine XC.cond _ rfl (fun h0 => ?_) (fun h0 => ?_)
  · have hE : runE b s ts ≠ 0 := by simpa using h0
    repeat (first | (refine M0 ?_; first | refine O0 ?_ | refine z1 tok rfl ?_ | refine O1 rfl ?_ rfl | refine O2 rfl ?_ | refine O3 rfl ?_ rfl | refine O4 rfl rfl rfl (fun _ _ => ?_) | refine O5 tok rfl rfl rfl (fun _ _ => ?_) | refine U0 _ (U2 rfl) rfl ?_ | refine U0 _ (U3 tok rfl rfl rfl rfl rfl) rfl ?_ | refine z3 tok rfl ?_ | refine U0 _ (U4 rfl rfl) rfl ?_ | refine U0 _ (U5 rfl rfl) rfl ?_) | (refine M1 ?_; first | refine J0 ?_ | refine J1 ?_ | refine J2 mixed rfl (by kernel_rfl) ?_ | refine J3 mixed rfl rfl (by kernel_rfl) ?_ | refine J4 ?_ | refine J5 ?_ | refine J6 ?_ | refine J7 ?_ | refine J8 rfl ?_ | refine J9 rfl ?_) | (refine M2 ?_; first | refine I0 ?_ | refine I1 ?_ | refine I2 ?_ | refine I3 ?_ | refine I4 ?_ | refine I5 ?_ | refine I6 rfl ?_ | refine I7 ?_ | refine I8 ?_ | refine z4 ?_) | (refine M3 ?_; first | refine O6 ?_ | refine z2 tok rfl ?_ | refine O8 rfl ?_ | refine O7 rfl ?_ rfl | refine O9 rfl ?_ rfl | refine U1 _ (U4 rfl rfl) rfl ?_ | refine U1 _ (U5 rfl rfl) rfl ?_ | refine U1 _ (U2 rfl) rfl ?_ | refine U1 _ (U3 tok rfl rfl rfl rfl rfl) rfl ?_) | (refine M4 ?_; first | refine M6 ?_ | refine U6 rfl (by kernel_rfl) ?_ | refine U7 (by kernel_rfl) ?_) | (refine M5 ?_; first | exact M7 | refine U8 rfl ?_ | refine U9 rfl rfl ?_ ?_))
    refine XE.retg tok Tryd.results29 rfl (by simp only [and_self, and_true]) (fun w' S => ?_)
    exact FloodV.made (r := ⟨none, 0, 0⟩) rfl (by rw [floods_n hE]; exact IntsAt.nil) (hB2.trans S.toBelow)
  have hE : runE b s ts = 0 := by simpa using h0
  obtain ⟨hs0, h300, herr⟩ := runE_0 hE
  have ho := (staOk_of hs0).1
  have hm6 := ho.m6
  repeat (first | (refine M0 ?_; first | refine O0 ?_ | refine z1 tok rfl ?_ | refine O1 rfl ?_ rfl | refine O2 rfl ?_ | refine O3 rfl ?_ rfl | refine O4 rfl rfl rfl (fun _ _ => ?_) | refine O5 tok rfl rfl rfl (fun _ _ => ?_) | refine U0 _ (U2 rfl) rfl ?_ | refine U0 _ (U3 tok rfl rfl rfl rfl rfl) rfl ?_ | refine z3 tok rfl ?_ | refine U0 _ (U4 rfl rfl) rfl ?_ | refine U0 _ (U5 rfl rfl) rfl ?_) | (refine M1 ?_; first | refine J0 ?_ | refine J1 ?_ | refine J2 mixed rfl (by kernel_rfl) ?_ | refine J3 mixed rfl rfl (by kernel_rfl) ?_ | refine J4 ?_ | refine J5 ?_ | refine J6 ?_ | refine J7 ?_ | refine J8 rfl ?_ | refine J9 rfl ?_) | (refine M2 ?_; first | refine I0 ?_ | refine I1 ?_ | refine I2 ?_ | refine I3 ?_ | refine I4 ?_ | refine I5 ?_ | refine I6 rfl ?_ | refine I7 ?_ | refine I8 ?_ | refine z4 ?_) | (refine M3 ?_; first | refine O6 ?_ | refine z2 tok rfl ?_ | refine O8 rfl ?_ | refine O7 rfl ?_ rfl | refine O9 rfl ?_ rfl | refine U1 _ (U4 rfl rfl) rfl ?_ | refine U1 _ (U5 rfl rfl) rfl ?_ | refine U1 _ (U2 rfl) rfl ?_ | refine U1 _ (U3 tok rfl rfl rfl rfl rfl) rfl ?_) | (refine M4 ?_; first | refine M6 ?_ | refine U6 rfl (by kernel_rfl) ?_ | refine U7 (by kernel_rfl) ?_) | (refine M5 ?_; first | exact M7 | refine U8 rfl ?_ | refine U9 rfl rfl ?_ ?_))
  refine XC.rebase (List.nil_sublist _) (fun W0 S0 => ?_)
  refine XC.loopk [8, 24] rfl (fun s' : Nat × World × Value => [(10, s'.2.2), (25, .int .i64 (s'.1 : Nat))]) (fun _ => []) (fun s' => s'.2.1)
    (fun s' => s'.1 ≤ b.pols.length ∧ Fam s'.2.1 w.heap.size [] [⟨Int, intK, s'.2.2, (List.range s'.1).map (firstF (runF b s ts))⟩] [hList momK rm ms] ∧ Below w.heap.size w s'.2.1)
    (fun s' => b.pols.length - s'.1) (0, W0, .slice none 0 0) ⟨Nat.zero_le _, ((hF2.sys S0 (by intro e he; repeat (first | (cases he; done) | (rcases List.mem_cons.1 he with rfl | he; · first | (right; assumption) | (left; simp <;> fail))))).add (ks' := []) fun k hk => by cases hk).nil intK, hB2.trans S0.toBelow⟩ (by repeat (first | exact Sub.nil | refine Sub.cons rfl ?_)) (fun _ h => h) ?_
  rintro ⟨k, W, v⟩ ⟨hk, hF, hBW⟩
  simp only at hk hF hBW
  dsimp only [List.cons_append, List.nil_append]
  repeat (first | (refine M0 ?_; first | refine O0 ?_ | refine z1 tok rfl ?_ | refine O1 rfl ?_ rfl | refine O2 rfl ?_ | refine O3 rfl ?_ rfl | refine O4 rfl rfl rfl (fun _ _ => ?_) | refine O5 tok rfl rfl rfl (fun _ _ => ?_) | refine U0 _ (U2 rfl) rfl ?_ | refine U0 _ (U3 tok rfl rfl rfl rfl rfl) rfl ?_ | refine z3 tok rfl ?_ | refine U0 _ (U4 rfl rfl) rfl ?_ | refine U0 _ (U5 rfl rfl) rfl ?_) | (refine M1 ?_; first | refine J0 ?_ | refine J1 ?_ | refine J2 mixed rfl (by kernel_rfl) ?_ | refine J3 mixed rfl rfl (by kernel_rfl) ?_ | refine J4 ?_ | refine J5 ?_ | refine J6 ?_ | refine J7 ?_ | refine J8 rfl ?_ | refine J9 rfl ?_) | (refine M2 ?_; first | refine I0 ?_ | refine I1 ?_ | refine I2 ?_ | refine I3 ?_ | refine I4 ?_ | refine I5 ?_ | refine I6 rfl ?_ | refine I7 ?_ | refine I8 ?_ | refine z4 ?_) | (refine M3 ?_; first | refine O6 ?_ | refine z2 tok rfl ?_ | refine O8 rfl ?_ | refine O7 rfl ?_ rfl | refine O9 rfl ?_ rfl | refine U1 _ (U4 rfl rfl) rfl ?_ | refine U1 _ (U5 rfl rfl) rfl ?_ | refine U1 _ (U2 rfl) rfl ?_ | refine U1 _ (U3 tok rfl rfl rfl rfl rfl) rfl ?_) | (refine M4 ?_; first | refine M6 ?_ | refine U6 rfl (by kernel_rfl) ?_ | refine U7 (by kernel_rfl) ?_) | (refine M5 ?_; first | exact M7 | refine U8 rfl ?_ | refine U9 rfl rfl ?_ ?_))
  refine XC.cond _ rfl (fun h1 => ?_) (fun h1 => ?_)
  · have hkn : k < b.pols.length := by simpa using h1
    have hks : ∀ k, k ∈ ([] : List Nat) → k < W.heap.size := fun k hk => by cases hk
    have hl1 : ((List.range k).map (firstF (runF b s ts))).length + 1 ≤ 10000000 := by simp; omega
    have ha1 : ∀ x, x ∈ intK.sl (firstF (runF b s ts) k) → x ∈ [hList momK rm ms] := fun x hx => by cases hx
    repeat (first | (refine M0 ?_; first | refine O0 ?_ | refine z1 tok rfl ?_ | refine O1 rfl ?_ rfl | refine O2 rfl ?_ | refine O3 rfl ?_ rfl | refine O4 rfl rfl rfl (fun _ _ => ?_) | refine O5 tok rfl rfl rfl (fun _ _ => ?_) | refine U0 _ (U2 rfl) rfl ?_ | refine U0 _ (U3 tok rfl rfl rfl rfl rfl) rfl ?_ | refine z3 tok rfl ?_ | refine U0 _ (U4 rfl rfl) rfl ?_ | refine U0 _ (U5 rfl rfl) rfl ?_) | (refine M1 ?_; first | refine J0 ?_ | refine J1 ?_ | refine J2 mixed rfl (by kernel_rfl) ?_ | refine J3 mixed rfl rfl (by kernel_rfl) ?_ | refine J4 ?_ | refine J5 ?_ | refine J6 ?_ | refine J7 ?_ | refine J8 rfl ?_ | refine J9 rfl ?_) | (refine M2 ?_; first | refine I0 ?_ | refine I1 ?_ | refine I2 ?_ | refine I3 ?_ | refine I4 ?_ | refine I5 ?_ | refine I6 rfl ?_ | refine I7 ?_ | refine I8 ?_ | refine z4 ?_) | (refine M3 ?_; first | refine O6 ?_ | refine z2 tok rfl ?_ | refine O8 rfl ?_ | refine O7 rfl ?_ rfl | refine O9 rfl ?_ rfl | refine U1 _ (U4 rfl rfl) rfl ?_ | refine U1 _ (U5 rfl rfl) rfl ?_ | refine U1 _ (U2 rfl) rfl ?_ | refine U1 _ (U3 tok rfl rfl rfl rfl rfl) rfl ?_) | (refine M4 ?_; first | refine M6 ?_ | refine U6 rfl (by kernel_rfl) ?_ | refine U7 (by kernel_rfl) ?_) | (refine M5 ?_; first | exact M7 | refine U8 rfl ?_ | refine U9 rfl rfl ?_ ?_))
    rename_i g11 hg11
    repeat (first | (refine M0 ?_; first | refine O0 ?_ | refine z1 tok rfl ?_ | refine O1 rfl ?_ rfl | refine O2 rfl ?_ | refine O3 rfl ?_ rfl | refine U0 _ (Ev.makeFunc rfl rfl) rfl ?_ | refine O4 rfl rfl rfl (fun _ _ => ?_) | refine O5 tok rfl rfl rfl (fun _ _ => ?_) | refine U0 _ (U2 rfl) rfl ?_ | refine U0 _ (U3 tok rfl rfl rfl rfl rfl) rfl ?_ | refine z3 tok rfl ?_ | refine U0 _ (U4 rfl rfl) rfl ?_ | refine U0 _ (U5 rfl rfl) rfl ?_) | (refine M1 ?_; first | refine J0 ?_ | refine J1 ?_ | refine J2 mixed rfl (by kernel_rfl) ?_ | refine J3 mixed rfl rfl (by kernel_rfl) ?_ | refine J4 ?_ | refine J5 ?_ | refine J6 ?_ | refine J7 ?_ | refine J8 rfl ?_ | refine J9 rfl ?_) | (refine M2 ?_; first | refine I0 ?_ | refine I1 ?_ | refine I2 ?_ | refine I3 ?_ | refine I4 ?_ | refine I5 ?_ | refine I6 rfl ?_ | refine I7 ?_ | refine I8 ?_ | refine z4 ?_) | (refine M3 ?_; first | refine O6 ?_ | refine z2 tok rfl ?_ | refine O8 rfl ?_ | refine O7 rfl ?_ rfl | refine O9 rfl ?_ rfl | refine U1 _ (Ev.makeFunc rfl rfl) rfl ?_ | refine U1 _ (U4 rfl rfl) rfl ?_ | refine U1 _ (U5 rfl rfl) rfl ?_ | refine U1 _ (U2 rfl) rfl ?_ | refine U1 _ (U3 tok rfl rfl rfl rfl rfl) rfl ?_) | (refine M4 ?_; first | refine M6 ?_ | refine U6 rfl (by kernel_rfl) ?_ | refine U7 (by kernel_rfl) ?_) | (refine M5 ?_; first | exact M7 | refine U8 rfl ?_ | refine U9 rfl rfl ?_ ?_))
    refine XL.step _ (Ev.call (f := 60) (ck rfl) rfl (fun w5 S5 => (index_gen (f := 61) (cap := [.pointer (some ⟨g11, 0, none⟩)]) (P := fun m => decide (0 < m.f.t k)) (r := rm) (ms := ms) (ck rfl) (Held.lt (x := hList momK rm ms) ((hF.sys S5 (by intro e he; repeat (first | (cases he; done) | (rcases List.mem_cons.1 he with rfl | he; · first | (right; assumption) | (left; simp <;> fail))))).get (.head _))) (by omega) (fun m hm w6 hb6 => by
      have h5 : ListAt momK w5 (Lt w5.heap.size) rm ms := Held.lt (x := hList momK rm ms) ((hF.sys S5 (by intro e he; repeat (first | (cases he; done) | (rcases List.mem_cons.1 he with rfl | he; · first | (right; assumption) | (left; simp <;> fail))))).get (.head _))
      have h6 : IntsAt w5 (Lt w5.heap.size) m.r m.f.taken := h5.ins m hm (hInts _ _) (.tail _ (.head _))
      have h7 := S5.own (g11, _) (.head _)
      refine floods1_any (m := m) (gi := g11) (i := k) ((hb6.block g11 (S5.lt (.head _))).trans h7.2) ((h6.below hb6).mono fun j hj => Nat.lt_of_lt_of_le hj hb6.size) ?_
      rw [flo_len (b := b) (s := s) (ts := ts) (by rw [← e2]; exact List.mem_map.2 ⟨m, hm, rfl⟩)]
      exact hkn) :))) rfl ?_
    rw [idxV_first e2 k]
    repeat (first | (refine M0 ?_; first | refine O0 ?_ | refine z1 tok rfl ?_ | refine O1 rfl ?_ rfl | refine O2 rfl ?_ | refine O3 rfl ?_ rfl | refine O4 rfl rfl rfl (fun _ _ => ?_) | refine O5 tok rfl rfl rfl (fun _ _ => ?_) | refine U0 _ (U2 rfl) rfl ?_ | refine U0 _ (U3 tok rfl rfl rfl rfl rfl) rfl ?_ | refine z3 tok rfl ?_ | refine U0 _ (U4 rfl rfl) rfl ?_ | refine U0 _ (U5 rfl rfl) rfl ?_ | refine XL.buildSlice tok rfl rfl rfl rfl rfl rfl rfl rfl rfl (fun _ _ => ?_) | (refine XL.at_push 26 ?_; refine XL.push (K := intK) (a := firstF (runF b s ts) k) (wE := w) 0 intK_el (by decide) rfl rfl rfl (by assumption) rfl (by assumption) (by assumption) (Nat.le_refl _) rfl hl1 (by decide) ha1 (fun _ _ _ _ _ => ?_))) | (refine M1 ?_; first | refine J0 ?_ | refine J1 ?_ | refine J2 mixed rfl (by kernel_rfl) ?_ | refine J3 mixed rfl rfl (by kernel_rfl) ?_ | refine J4 ?_ | refine J5 ?_ | refine J6 ?_ | refine J7 ?_ | refine J8 rfl ?_ | refine J9 rfl ?_) | (refine M2 ?_; first | refine I0 ?_ | refine I1 ?_ | refine I2 ?_ | refine I3 ?_ | refine I4 ?_ | refine I5 ?_ | refine I6 rfl ?_ | refine I7 ?_ | refine I8 ?_ | refine z4 ?_) | (refine M3 ?_; first | refine O6 ?_ | refine z2 tok rfl ?_ | refine O8 rfl ?_ | refine O7 rfl ?_ rfl | refine O9 rfl ?_ rfl | refine U1 _ (U4 rfl rfl) rfl ?_ | refine U1 _ (U5 rfl rfl) rfl ?_ | refine U1 _ (U2 rfl) rfl ?_ | refine U1 _ (U3 tok rfl rfl rfl rfl rfl) rfl ?_) | (refine M4 ?_; first | refine M6 ?_ | refine U6 rfl (by kernel_rfl) ?_ | refine U7 (by kernel_rfl) ?_) | (refine M5 ?_; first | exact M7 | refine U8 rfl ?_ | refine U9 rfl rfl ?_ ?_))
    refine XE.roundW (s := (k, W, v)) (fun w6 S6 => ⟨(k + 1, w6, _), ⟨hkn, ?_, ?_⟩, by simp only; omega, (by repeat (first | exact Sub.nil | refine Sub.cons rfl ?_)), S6.rebase (List.nil_sublist _)⟩)
    · rw [range_add]
      exact Fam.add (Fam.sys (by assumption) S6 (by intro e he; repeat (first | (cases he; done) | (rcases List.mem_cons.1 he with rfl | he; · first | (right; assumption) | (left; simp <;> fail))))) fun k hk => by cases hk
    · exact Below.trans (by assumption) S6.toBelow
  · have hkn : k = b.pols.length := by have : ¬ (k < b.pols.length) := by simpa using h1
                                       omega
    subst hkn
    repeat (first | (refine M0 ?_; first | refine O0 ?_ | refine z1 tok rfl ?_ | refine O1 rfl ?_ rfl | refine O2 rfl ?_ | refine O3 rfl ?_ rfl | refine O4 rfl rfl rfl (fun _ _ => ?_) | refine O5 tok rfl rfl rfl (fun _ _ => ?_) | refine U0 _ (U2 rfl) rfl ?_ | refine U0 _ (U3 tok rfl rfl rfl rfl rfl) rfl ?_ | refine z3 tok rfl ?_ | refine U0 _ (U4 rfl rfl) rfl ?_ | refine U0 _ (U5 rfl rfl) rfl ?_) | (refine M1 ?_; first | refine J0 ?_ | refine J1 ?_ | refine J2 mixed rfl (by kernel_rfl) ?_ | refine J3 mixed rfl rfl (by kernel_rfl) ?_ | refine J4 ?_ | refine J5 ?_ | refine J6 ?_ | refine J7 ?_ | refine J8 rfl ?_ | refine J9 rfl ?_) | (refine M2 ?_; first | refine I0 ?_ | refine I1 ?_ | refine I2 ?_ | refine I3 ?_ | refine I4 ?_ | refine I5 ?_ | refine I6 rfl ?_ | refine I7 ?_ | refine I8 ?_ | refine z4 ?_) | (refine M3 ?_; first | refine O6 ?_ | refine z2 tok rfl ?_ | refine O8 rfl ?_ | refine O7 rfl ?_ rfl | refine O9 rfl ?_ rfl | refine U1 _ (U4 rfl rfl) rfl ?_ | refine U1 _ (U5 rfl rfl) rfl ?_ | refine U1 _ (U2 rfl) rfl ?_ | refine U1 _ (U3 tok rfl rfl rfl rfl rfl) rfl ?_) | (refine M4 ?_; first | refine M6 ?_ | refine U6 rfl (by kernel_rfl) ?_ | refine U7 (by kernel_rfl) ?_) | (refine M5 ?_; first | exact M7 | refine U8 rfl ?_ | refine U9 rfl rfl ?_ ?_))
    refine XE.retg tok Tryd.results29 rfl (by simp only [and_self, and_true]) (fun w' S => ?_)
    have hF6 := hF.sys S (fun e he => by cases he)
    obtain ⟨r1, rfl, h5⟩ := hF6.list (.head _)
    exact FloodV.made (r := r1) (by rw [hE]; rfl) (by rw [floods_0 hE]; exact h5.ints) (hBW.trans S.toBelow)
end Go.Proofs.YtoiepgcjinccpaaDoor.X
/-
  The walk of the document's Floods; the law BasinStays.
-/
namespace Go.Proofs.YtoiepgcjinccpaaDoor.X
open Go Go.RowKit Go.Proofs.YtoiepgcjinccpaaDoor.Bs
set_option linter.unusedVariables false
theorem Free.ne {W : World} {b0 : Nat} {ks : List Nat} {rs : List RowX} {k : Nat} {L : Lo} (h : Free W b0 ks rs k) (hL : ∀ e, e ∈ L → e.1 ∈ ks) : ∀ e, e ∈ L → e.1 ≠ k := fun e he e1 => h.2.2.1 (e1 ▸ hL e he)
set_option maxHeartbeats 8000000 in
theorem refFloods_any {p : BV} {b : Bas} {q r : SV} {s : Sta} {ts : List Tick} {w : World} (hb : BasAt w w.heap.size p b) (hq : IntsAt w (Lt w.heap.size) q s.fil) (ht : TksAt w (Lt w.heap.size) r ts) :
    Calls Tryd.prog 30 #[basV p b, staV q s, svV r] w (Made w (FloodV b s ts)) := by
  obtain ⟨A, n, c, A2, n2, c2⟩ := p
  have hn2 := hb.n2_eq
  simp only at hn2
  subst hn2
  simp only [basV, basC, staV, staC, svV]
  refine enter Tryd.func30 rfl Tryd.ntmps30 rfl ?_; simp only [frame, Nat.zero_add, Nat.reduceAdd]
  repeat (first | (refine M0 ?_; first | refine O0 ?_ | refine z1 tok rfl ?_ | refine O1 rfl ?_ rfl | refine O2 rfl ?_ | refine O3 rfl ?_ rfl | refine O4 rfl rfl rfl (fun _ _ => ?_) | refine O5 tok rfl rfl rfl (fun _ _ => ?_) | refine U0 _ (U2 rfl) rfl ?_ | refine U0 _ (U3 tok rfl rfl rfl rfl rfl) rfl ?_ | refine z3 tok rfl ?_ | refine U0 _ (U4 rfl rfl) rfl ?_ | refine U0 _ (U5 rfl rfl) rfl ?_) | (refine M1 ?_; first | refine J0 ?_ | refine J1 ?_ | refine J2 mixed rfl (by kernel_rfl) ?_ | refine J3 mixed rfl rfl (by kernel_rfl) ?_ | refine J4 ?_ | refine J5 ?_ | refine J6 ?_ | refine J7 ?_ | refine J8 rfl ?_ | refine J9 rfl ?_) | (refine M2 ?_; first | refine I0 ?_ | refine I1 ?_ | refine I2 ?_ | refine I3 ?_ | refine I4 ?_ | refine I5 ?_ | refine I6 rfl ?_ | refine I7 ?_ | refine I8 ?_ | refine z4 ?_) | (refine M3 ?_; first | refine O6 ?_ | refine z2 tok rfl ?_ | refine O8 rfl ?_ | refine O7 rfl ?_ rfl | refine O9 rfl ?_ rfl | refine U1 _ (U4 rfl rfl) rfl ?_ | refine U1 _ (U5 rfl rfl) rfl ?_ | refine U1 _ (U2 rfl) rfl ?_ | refine U1 _ (U3 tok rfl rfl rfl rfl rfl) rfl ?_) | (refine M4 ?_; first | refine M6 ?_ | refine U6 rfl (by kernel_rfl) ?_ | refine U7 (by kernel_rfl) ?_) | (refine M5 ?_; first | exact M7 | refine U8 rfl ?_ | refine U9 rfl rfl ?_ ?_))
  rename_i g3 hg3 g4 hg4
  refine XL.callF (RunV b s ts) (ck rfl) rfl rfl (Fam.start (ks := []) (Nat.le_refl w.heap.size)) (fun _ h => by cases h) (Below.refl w.heap.size w) (fun w1 S1 _ _ => refRun_any (p := ⟨A, n, c, A2, b.pols.length, c2⟩) (q := q) (r := r) (hb.sys S1) (hq.arg S1) (ht.arg S1)) (fun w2 v new hR hF2 hB2 hk2 => ?_)
  obtain ⟨r1, r2, l1, l2, rfl, rfl, e1, e2⟩ := hR
  simp only [svV]
  repeat (first | (refine M0 ?_; first | refine O0 ?_ | refine z1 tok rfl ?_ | refine O1 rfl ?_ rfl | refine O2 rfl ?_ | refine O3 rfl ?_ rfl | refine O4 rfl rfl rfl (fun _ _ => ?_) | refine O5 tok rfl rfl rfl (fun _ _ => ?_) | refine U0 _ (U2 rfl) rfl ?_ | refine U0 _ (U3 tok rfl rfl rfl rfl rfl) rfl ?_ | refine z3 tok rfl ?_ | refine U0 _ (U4 rfl rfl) rfl ?_ | refine U0 _ (U5 rfl rfl) rfl ?_) | (refine M1 ?_; first | refine J0 ?_ | refine J1 ?_ | refine J2 mixed rfl (by kernel_rfl) ?_ | refine J3 mixed rfl rfl (by kernel_rfl) ?_ | refine J4 ?_ | refine J5 ?_ | refine J6 ?_ | refine J7 ?_ | refine J8 rfl ?_ | refine J9 rfl ?_) | (refine M2 ?_; first | refine I0 ?_ | refine I1 ?_ | refine I2 ?_ | refine I3 ?_ | refine I4 ?_ | refine I5 ?_ | refine I6 rfl ?_ | refine I7 ?_ | refine I8 ?_ | refine z4 ?_) | (refine M3 ?_; first | refine O6 ?_ | refine z2 tok rfl ?_ | refine O8 rfl ?_ | refine O7 rfl ?_ rfl | refine O9 rfl ?_ rfl | refine U1 _ (U4 rfl rfl) rfl ?_ | refine U1 _ (U5 rfl rfl) rfl ?_ | refine U1 _ (U2 rfl) rfl ?_ | refine U1 _ (U3 tok rfl rfl rfl rfl rfl) rfl ?_) | (refine M4 ?_; first | refine M6 ?_ | refine U6 rfl (by kernel_rfl) ?_ | refine U7 (by kernel_rfl) ?_) | (refine M5 ?_; first | exact M7 | refine U8 rfl ?_ | refine U9 rfl rfl ?_ ?_))
  refine XC.cond _ rfl (fun h0 => ?_) (fun h0 => ?_)
  · have hE : runE b s ts ≠ 0 := by simpa using h0
    repeat (first | (refine M0 ?_; first | refine O0 ?_ | refine z1 tok rfl ?_ | refine O1 rfl ?_ rfl | refine O2 rfl ?_ | refine O3 rfl ?_ rfl | refine O4 rfl rfl rfl (fun _ _ => ?_) | refine O5 tok rfl rfl rfl (fun _ _ => ?_) | refine U0 _ (U2 rfl) rfl ?_ | refine U0 _ (U3 tok rfl rfl rfl rfl rfl) rfl ?_ | refine z3 tok rfl ?_ | refine U0 _ (U4 rfl rfl) rfl ?_ | refine U0 _ (U5 rfl rfl) rfl ?_) | (refine M1 ?_; first | refine J0 ?_ | refine J1 ?_ | refine J2 mixed rfl (by kernel_rfl) ?_ | refine J3 mixed rfl rfl (by kernel_rfl) ?_ | refine J4 ?_ | refine J5 ?_ | refine J6 ?_ | refine J7 ?_ | refine J8 rfl ?_ | refine J9 rfl ?_) | (refine M2 ?_; first | refine I0 ?_ | refine I1 ?_ | refine I2 ?_ | refine I3 ?_ | refine I4 ?_ | refine I5 ?_ | refine I6 rfl ?_ | refine I7 ?_ | refine I8 ?_ | refine z4 ?_) | (refine M3 ?_; first | refine O6 ?_ | refine z2 tok rfl ?_ | refine O8 rfl ?_ | refine O7 rfl ?_ rfl | refine O9 rfl ?_ rfl | refine U1 _ (U4 rfl rfl) rfl ?_ | refine U1 _ (U5 rfl rfl) rfl ?_ | refine U1 _ (U2 rfl) rfl ?_ | refine U1 _ (U3 tok rfl rfl rfl rfl rfl) rfl ?_) | (refine M4 ?_; first | refine M6 ?_ | refine U6 rfl (by kernel_rfl) ?_ | refine U7 (by kernel_rfl) ?_) | (refine M5 ?_; first | exact M7 | refine U8 rfl ?_ | refine U9 rfl rfl ?_ ?_))
    refine XE.retg tok Tryd.results30 rfl (by simp only [and_self, and_true]) (fun w' S => ?_)
    exact FloodV.made (r := ⟨none, 0, 0⟩) rfl (by rw [floods_n hE]; exact IntsAt.nil) (hB2.trans S.toBelow)
  have hE : runE b s ts = 0 := by simpa using h0
  obtain ⟨hs0, h300, herr⟩ := runE_0 hE
  have ho := (staOk_of hs0).1
  have hm6 := ho.m6
  have hln : l2.length ≤ 300 := by
    have := congrArg List.length e2
    rw [run_len, runS_len hE] at this
    simp at this
    omega
  have hF3 := hF2.forget (hs' := [hList floK r2 l2]) (fun x hx => by rw [List.mem_singleton.1 hx]; exact .tail _ (.head _))
  clear hF2
  obtain ⟨A5, n5, c5⟩ := r2
  have hn5 : n5 = l2.length := (hF3.get (x := hList floK ⟨A5, n5, c5⟩ l2) (.head _)).len (by decide)
  subst hn5
  repeat (first | (refine M0 ?_; first | refine O0 ?_ | refine z1 tok rfl ?_ | refine O1 rfl ?_ rfl | refine O2 rfl ?_ | refine O3 rfl ?_ rfl | refine O4 rfl rfl rfl (fun _ _ => ?_) | refine O5 tok rfl rfl rfl (fun _ _ => ?_) | refine U0 _ (U2 rfl) rfl ?_ | refine U0 _ (U3 tok rfl rfl rfl rfl rfl) rfl ?_ | refine z3 tok rfl ?_ | refine U0 _ (U4 rfl rfl) rfl ?_ | refine U0 _ (U5 rfl rfl) rfl ?_) | (refine M1 ?_; first | refine J0 ?_ | refine J1 ?_ | refine J2 mixed rfl (by kernel_rfl) ?_ | refine J3 mixed rfl rfl (by kernel_rfl) ?_ | refine J4 ?_ | refine J5 ?_ | refine J6 ?_ | refine J7 ?_ | refine J8 rfl ?_ | refine J9 rfl ?_) | (refine M2 ?_; first | refine I0 ?_ | refine I1 ?_ | refine I2 ?_ | refine I3 ?_ | refine I4 ?_ | refine I5 ?_ | refine I6 rfl ?_ | refine I7 ?_ | refine I8 ?_ | refine z4 ?_) | (refine M3 ?_; first | refine O6 ?_ | refine z2 tok rfl ?_ | refine O8 rfl ?_ | refine O7 rfl ?_ rfl | refine O9 rfl ?_ rfl | refine U1 _ (U4 rfl rfl) rfl ?_ | refine U1 _ (U5 rfl rfl) rfl ?_ | refine U1 _ (U2 rfl) rfl ?_ | refine U1 _ (U3 tok rfl rfl rfl rfl rfl) rfl ?_) | (refine M4 ?_; first | refine M6 ?_ | refine U6 rfl (by kernel_rfl) ?_ | refine U7 (by kernel_rfl) ?_) | (refine M5 ?_; first | exact M7 | refine U8 rfl ?_ | refine U9 rfl rfl ?_ ?_))
  refine XC.rebase (L' := [(g3, _)]) (List.Sublist.cons _ (List.Sublist.refl _)) (fun W0 S0 => ?_)
  refine XC.loopk [3, 9] rfl (fun s' : Nat × World × Value => [(11, s'.2.2), (12, .int .i64 (s'.1 : Nat))]) (fun _ => [(g3, cel 25 [.slice A n c, .int .i64 b.leak, .int .i64 b.crest, .int .i64 b.over, .slice A2 b.pols.length c2])]) (fun s' => s'.2.1)
    (fun s' => s'.1 ≤ b.pols.length ∧ Fam s'.2.1 w.heap.size [g3] [⟨Int, intK, s'.2.2, (List.range s'.1).map (firstF (l2.map (·.f)))⟩] [hList floK ⟨A5, l2.length, c5⟩ l2] ∧ Below w.heap.size w s'.2.1 ∧ g3 < s'.2.1.heap.size)
    (fun s' => b.pols.length - s'.1) (0, W0, .slice none 0 0) ⟨Nat.zero_le _, ((hF3.sys S0 (by intro e he; repeat (first | (cases he; done) | (rcases List.mem_cons.1 he with rfl | he; · first | (right; assumption) | (left; simp <;> fail))))).add (ks' := [g3]) (by intro k hk; repeat (first | (cases hk; done) | (rcases List.mem_cons.1 hk with rfl | hk; · first | (right; assumption) | (left; simp <;> fail))))).nil intK, hB2.trans S0.toBelow, S0.keyLt g3 (by simp)⟩ (by repeat (first | exact Sub.nil | refine Sub.cons rfl ?_)) (fun _ h => h) ?_
  rintro ⟨k, W, v⟩ ⟨hk, hF, hBW, hg⟩
  simp only at hk hF hBW hg
  dsimp only [List.cons_append, List.nil_append]
  repeat (first | (refine M0 ?_; first | refine O0 ?_ | refine z1 tok rfl ?_ | refine O1 rfl ?_ rfl | refine O2 rfl ?_ | refine O3 rfl ?_ rfl | refine O4 rfl rfl rfl (fun _ _ => ?_) | refine O5 tok rfl rfl rfl (fun _ _ => ?_) | refine U0 _ (U2 rfl) rfl ?_ | refine U0 _ (U3 tok rfl rfl rfl rfl rfl) rfl ?_ | refine z3 tok rfl ?_ | refine U0 _ (U4 rfl rfl) rfl ?_ | refine U0 _ (U5 rfl rfl) rfl ?_) | (refine M1 ?_; first | refine J0 ?_ | refine J1 ?_ | refine J2 mixed rfl (by kernel_rfl) ?_ | refine J3 mixed rfl rfl (by kernel_rfl) ?_ | refine J4 ?_ | refine J5 ?_ | refine J6 ?_ | refine J7 ?_ | refine J8 rfl ?_ | refine J9 rfl ?_) | (refine M2 ?_; first | refine I0 ?_ | refine I1 ?_ | refine I2 ?_ | refine I3 ?_ | refine I4 ?_ | refine I5 ?_ | refine I6 rfl ?_ | refine I7 ?_ | refine I8 ?_ | refine z4 ?_) | (refine M3 ?_; first | refine O6 ?_ | refine z2 tok rfl ?_ | refine O8 rfl ?_ | refine O7 rfl ?_ rfl | refine O9 rfl ?_ rfl | refine U1 _ (U4 rfl rfl) rfl ?_ | refine U1 _ (U5 rfl rfl) rfl ?_ | refine U1 _ (U2 rfl) rfl ?_ | refine U1 _ (U3 tok rfl rfl rfl rfl rfl) rfl ?_) | (refine M4 ?_; first | refine M6 ?_ | refine U6 rfl (by kernel_rfl) ?_ | refine U7 (by kernel_rfl) ?_) | (refine M5 ?_; first | exact M7 | refine U8 rfl ?_ | refine U9 rfl rfl ?_ ?_))
  refine XC.cond _ rfl (fun h1 => ?_) (fun h1 => ?_)
  · have hkn : k < b.pols.length := by simpa using h1
    have hks : ∀ k, k ∈ [g3] → k < W.heap.size := fun k hk => by rw [List.mem_singleton.1 hk]; exact hg
    have hl1 : ((List.range k).map (firstF (l2.map (·.f)))).length + 1 ≤ 10000000 := by simp; omega
    have ha1 : ∀ x, x ∈ intK.sl (firstF (l2.map (·.f)) k) → x ∈ [hList floK ⟨A5, l2.length, c5⟩ l2] := fun x hx => by cases hx
    have hls : ListAt floK W (Free W w.heap.size [g3] _) ⟨A5, l2.length, c5⟩ l2 := hF.held (hList floK ⟨A5, l2.length, c5⟩ l2) (.head _)
    repeat (first | (refine M0 ?_; first | refine O0 ?_ | refine z1 tok rfl ?_ | refine O1 rfl ?_ rfl | refine O2 rfl ?_ | refine O3 rfl ?_ rfl | refine O4 rfl rfl rfl (fun _ _ => ?_) | refine O5 tok rfl rfl rfl (fun _ _ => ?_) | refine U0 _ (U2 rfl) rfl ?_ | refine U0 _ (U3 tok rfl rfl rfl rfl rfl) rfl ?_ | refine z3 tok rfl ?_ | refine U0 _ (U4 rfl rfl) rfl ?_ | refine U0 _ (U5 rfl rfl) rfl ?_) | (refine M1 ?_; first | refine J0 ?_ | refine J1 ?_ | refine J2 mixed rfl (by kernel_rfl) ?_ | refine J3 mixed rfl rfl (by kernel_rfl) ?_ | refine J4 ?_ | refine J5 ?_ | refine J6 ?_ | refine J7 ?_ | refine J8 rfl ?_ | refine J9 rfl ?_) | (refine M2 ?_; first | refine I0 ?_ | refine I1 ?_ | refine I2 ?_ | refine I3 ?_ | refine I4 ?_ | refine I5 ?_ | refine I6 rfl ?_ | refine I7 ?_ | refine I8 ?_ | refine z4 ?_) | (refine M3 ?_; first | refine O6 ?_ | refine z2 tok rfl ?_ | refine O8 rfl ?_ | refine O7 rfl ?_ rfl | refine O9 rfl ?_ rfl | refine U1 _ (U4 rfl rfl) rfl ?_ | refine U1 _ (U5 rfl rfl) rfl ?_ | refine U1 _ (U2 rfl) rfl ?_ | refine U1 _ (U3 tok rfl rfl rfl rfl rfl) rfl ?_) | (refine M4 ?_; first | refine M6 ?_ | refine U6 rfl (by kernel_rfl) ?_ | refine U7 (by kernel_rfl) ?_) | (refine M5 ?_; first | exact M7 | refine U8 rfl ?_ | refine U9 rfl rfl ?_ ?_))
    refine XC.loopk [3, 9, 11, 12] rfl (fun s' : Nat × Int × Int => [(13, .int .i64 s'.2.1), (14, .int .i64 s'.2.2)]) (fun _ => [(g3, cel 25 [.slice A n c, .int .i64 b.leak, .int .i64 b.crest, .int .i64 b.over, .slice A2 b.pols.length c2])]) (fun _ => W)
      (fun s' => s'.1 ≤ l2.length ∧ s'.2.1 = firstG (l2.map (·.f)) k (l2.length - s'.1) ∧ s'.2.2 = (l2.length : Int) - 1 - (s'.1 : Nat)) (fun s' => l2.length - s'.1) (0, -1, (l2.length : Int) - 1) ⟨Nat.zero_le _, by have := firstG_len (l2.map (·.f)) k; rw [List.length_map] at this; simp only [Nat.sub_zero]; exact this.symm, by simp⟩ (by repeat (first | exact Sub.nil | refine Sub.cons rfl ?_)) (fun _ h => h) ?_
    rintro ⟨j, x, y⟩ ⟨hj, hx, hy⟩
    simp only at hj hx hy
    dsimp only [List.cons_append, List.nil_append]
    repeat (first | (refine M0 ?_; first | refine O0 ?_ | refine z1 tok rfl ?_ | refine O1 rfl ?_ rfl | refine O2 rfl ?_ | refine O3 rfl ?_ rfl | refine O4 rfl rfl rfl (fun _ _ => ?_) | refine O5 tok rfl rfl rfl (fun _ _ => ?_) | refine U0 _ (U2 rfl) rfl ?_ | refine U0 _ (U3 tok rfl rfl rfl rfl rfl) rfl ?_ | refine z3 tok rfl ?_ | refine U0 _ (U4 rfl rfl) rfl ?_ | refine U0 _ (U5 rfl rfl) rfl ?_) | (refine M1 ?_; first | refine J0 ?_ | refine J1 ?_ | refine J2 mixed rfl (by kernel_rfl) ?_ | refine J3 mixed rfl rfl (by kernel_rfl) ?_ | refine J4 ?_ | refine J5 ?_ | refine J6 ?_ | refine J7 ?_ | refine J8 rfl ?_ | refine J9 rfl ?_) | (refine M2 ?_; first | refine I0 ?_ | refine I1 ?_ | refine I2 ?_ | refine I3 ?_ | refine I4 ?_ | refine I5 ?_ | refine I6 rfl ?_ | refine I7 ?_ | refine I8 ?_ | refine z4 ?_) | (refine M3 ?_; first | refine O6 ?_ | refine z2 tok rfl ?_ | refine O8 rfl ?_ | refine O7 rfl ?_ rfl | refine O9 rfl ?_ rfl | refine U1 _ (U4 rfl rfl) rfl ?_ | refine U1 _ (U5 rfl rfl) rfl ?_ | refine U1 _ (U2 rfl) rfl ?_ | refine U1 _ (U3 tok rfl rfl rfl rfl rfl) rfl ?_) | (refine M4 ?_; first | refine M6 ?_ | refine U6 rfl (by kernel_rfl) ?_ | refine U7 (by kernel_rfl) ?_) | (refine M5 ?_; first | exact M7 | refine U8 rfl ?_ | refine U9 rfl rfl ?_ ?_))
    refine XC.cond _ rfl (fun h2 => ?_) (fun h2 => ?_)
    · have hy0 : 0 ≤ y := by simpa using h2
      have hm : l2.length - 1 - j < l2.length := by omega
      obtain ⟨m, hmd⟩ : ∃ m : Nat, m = l2.length - 1 - j := ⟨_, rfl⟩
      rw [← hmd] at hm
      obtain rfl : y = ((m : Nat) : Int) := by omega
      obtain ⟨ad, rfl, hfr⟩ := hls.addr (by decide) (by omega)
      have hcell := hls.elem (List.getElem?_eq_getElem hm) 4 (.slice l2[m].r.A l2[m].r.n l2[m].r.c) rfl
      have i2 : IntsAt W (Free W w.heap.size [g3] _) l2[m].r l2[m].f.taken := hls.ins _ (List.getElem_mem hm) (hInts _ _) (.head _)
      have hmem : l2[m].f ∈ runF b s ts := by rw [← e2]; exact List.mem_map.2 ⟨_, List.getElem_mem hm, rfl⟩
      have htl := flo_len hmem
      have hn7 := i2.len
      rw [htl] at hn7
      obtain ⟨ad7, hA7, hfr7, hcells7⟩ := i2.rd.at_ (by omega)
      have hcell7 : W.cell? (ad7.add (k * 1)) = some (.int .i64 (l2[m].f.t k)) := (congrArg (fun x => W.cell? (ad7.add x)) (Nat.mul_one k)).trans (hcells7 k (.int .i64 (l2[m].f.t k)) (by
        unfold Flo.t ints
        have : k < l2[m].f.taken.length := by omega
        rw [List.getElem?_map, List.getElem?_eq_getElem this]; rfl))
      rw [hA7, hn7] at hcell
      have hfm : (l2.map (·.f))[m]'(by simpa using hm) = l2[m].f := by simp
      have hML : m < (l2.map (·.f)).length := by simpa using hm
      have hm1 : l2.length - j = m + 1 := by omega
      have hm2 : l2.length - (j + 1) = m := by omega
      rw [hm1] at hx
      repeat (first | (refine M0 ?_; first | refine O0 ?_ | refine z1 tok rfl ?_ | refine O1 rfl ?_ rfl | refine O2 rfl ?_ | refine O3 rfl ?_ rfl | refine U0 _ (Ev.load_far tok rfl rfl (add_lt2 hfr.2.1) (fun e he => by rw [add_block, add_block]; exact hfr.ne (fun e he => by rw [List.mem_singleton.1 he]; exact .head _) e he) hcell) rfl ?_ | refine U0 _ (Ev.load_far tok rfl rfl (add_lt hfr7.2.1) (fun e he => by rw [add_block]; exact hfr7.ne (fun e he => by rw [List.mem_singleton.1 he]; exact .head _) e he) hcell7) rfl ?_ | refine O4 rfl rfl rfl (fun _ _ => ?_) | refine O5 tok rfl rfl rfl (fun _ _ => ?_) | refine U0 _ (U2 rfl) rfl ?_ | refine U0 _ (U3 tok rfl rfl rfl rfl rfl) rfl ?_ | refine z3 tok rfl ?_ | refine U0 _ (U4 rfl rfl) rfl ?_ | refine U0 _ (U5 rfl rfl) rfl ?_) | (refine M1 ?_; first | refine J0 ?_ | refine J1 ?_ | refine J2 mixed rfl (by kernel_rfl) ?_ | refine J3 mixed rfl rfl (by kernel_rfl) ?_ | refine J4 ?_ | refine J5 ?_ | refine J6 ?_ | refine J7 ?_ | refine J8 rfl ?_ | refine J9 rfl ?_) | (refine M2 ?_; first | refine I0 ?_ | refine I1 ?_ | refine I2 ?_ | refine I3 ?_ | refine I4 ?_ | refine I5 ?_ | refine I6 rfl ?_ | refine I7 ?_ | refine I8 ?_ | refine z4 ?_) | (refine M3 ?_; first | refine O6 ?_ | refine z2 tok rfl ?_ | refine O8 rfl ?_ | refine O7 rfl ?_ rfl | refine O9 rfl ?_ rfl | refine U1 _ (Ev.load_far tok rfl rfl (add_lt2 hfr.2.1) (fun e he => by rw [add_block, add_block]; exact hfr.ne (fun e he => by rw [List.mem_singleton.1 he]; exact .head _) e he) hcell) rfl ?_ | refine U1 _ (Ev.load_far tok rfl rfl (add_lt hfr7.2.1) (fun e he => by rw [add_block]; exact hfr7.ne (fun e he => by rw [List.mem_singleton.1 he]; exact .head _) e he) hcell7) rfl ?_ | refine U1 _ (U4 rfl rfl) rfl ?_ | refine U1 _ (U5 rfl rfl) rfl ?_ | refine U1 _ (U2 rfl) rfl ?_ | refine U1 _ (U3 tok rfl rfl rfl rfl rfl) rfl ?_) | (refine M4 ?_; first | refine M6 ?_ | refine U6 rfl (by kernel_rfl) ?_ | refine U7 (by kernel_rfl) ?_) | (refine M5 ?_; first | exact M7 | refine U8 rfl ?_ | refine U9 rfl rfl ?_ ?_))
      refine XC.cond _ rfl (fun h3 => ?_) (fun h3 => ?_)
      · have h4 : 0 < ((l2.map fun a : FloI => a.f)[m]'hML).t k := by rw [hfm]; simpa using h3
        repeat (first | (refine M0 ?_; first | refine O0 ?_ | refine z1 tok rfl ?_ | refine O1 rfl ?_ rfl | refine O2 rfl ?_ | refine O3 rfl ?_ rfl | refine O4 rfl rfl rfl (fun _ _ => ?_) | refine O5 tok rfl rfl rfl (fun _ _ => ?_) | refine U0 _ (U2 rfl) rfl ?_ | refine U0 _ (U3 tok rfl rfl rfl rfl rfl) rfl ?_ | refine z3 tok rfl ?_ | refine U0 _ (U4 rfl rfl) rfl ?_ | refine U0 _ (U5 rfl rfl) rfl ?_) | (refine M1 ?_; first | refine J0 ?_ | refine J1 ?_ | refine J2 mixed rfl (by kernel_rfl) ?_ | refine J3 mixed rfl rfl (by kernel_rfl) ?_ | refine J4 ?_ | refine J5 ?_ | refine J6 ?_ | refine J7 ?_ | refine J8 rfl ?_ | refine J9 rfl ?_) | (refine M2 ?_; first | refine I0 ?_ | refine I1 ?_ | refine I2 ?_ | refine I3 ?_ | refine I4 ?_ | refine I5 ?_ | refine I6 rfl ?_ | refine I7 ?_ | refine I8 ?_ | refine z4 ?_) | (refine M3 ?_; first | refine O6 ?_ | refine z2 tok rfl ?_ | refine O8 rfl ?_ | refine O7 rfl ?_ rfl | refine O9 rfl ?_ rfl | refine U1 _ (U4 rfl rfl) rfl ?_ | refine U1 _ (U5 rfl rfl) rfl ?_ | refine U1 _ (U2 rfl) rfl ?_ | refine U1 _ (U3 tok rfl rfl rfl rfl rfl) rfl ?_) | (refine M4 ?_; first | refine M6 ?_ | refine U6 rfl (by kernel_rfl) ?_ | refine U7 (by kernel_rfl) ?_) | (refine M5 ?_; first | exact M7 | refine U8 rfl ?_ | refine U9 rfl rfl ?_ ?_))
        refine XE.round (s := (j, x, (m : Int))) (j + 1, (m : Int), (m : Int) - 1) ⟨by simp only; omega, ?_, ?_⟩ (by simp only; omega) (by repeat (first | exact Sub.nil | refine Sub.cons rfl ?_)) (fun _ h => h)
        · simp only [hm2]; exact (firstG_y hML h4).symm
        · simp only; omega
      · have h4 : ¬ 0 < ((l2.map fun a : FloI => a.f)[m]'hML).t k := by rw [hfm]; simpa using h3
        repeat (first | (refine M0 ?_; first | refine O0 ?_ | refine z1 tok rfl ?_ | refine O1 rfl ?_ rfl | refine O2 rfl ?_ | refine O3 rfl ?_ rfl | refine O4 rfl rfl rfl (fun _ _ => ?_) | refine O5 tok rfl rfl rfl (fun _ _ => ?_) | refine U0 _ (U2 rfl) rfl ?_ | refine U0 _ (U3 tok rfl rfl rfl rfl rfl) rfl ?_ | refine z3 tok rfl ?_ | refine U0 _ (U4 rfl rfl) rfl ?_ | refine U0 _ (U5 rfl rfl) rfl ?_) | (refine M1 ?_; first | refine J0 ?_ | refine J1 ?_ | refine J2 mixed rfl (by kernel_rfl) ?_ | refine J3 mixed rfl rfl (by kernel_rfl) ?_ | refine J4 ?_ | refine J5 ?_ | refine J6 ?_ | refine J7 ?_ | refine J8 rfl ?_ | refine J9 rfl ?_) | (refine M2 ?_; first | refine I0 ?_ | refine I1 ?_ | refine I2 ?_ | refine I3 ?_ | refine I4 ?_ | refine I5 ?_ | refine I6 rfl ?_ | refine I7 ?_ | refine I8 ?_ | refine z4 ?_) | (refine M3 ?_; first | refine O6 ?_ | refine z2 tok rfl ?_ | refine O8 rfl ?_ | refine O7 rfl ?_ rfl | refine O9 rfl ?_ rfl | refine U1 _ (U4 rfl rfl) rfl ?_ | refine U1 _ (U5 rfl rfl) rfl ?_ | refine U1 _ (U2 rfl) rfl ?_ | refine U1 _ (U3 tok rfl rfl rfl rfl rfl) rfl ?_) | (refine M4 ?_; first | refine M6 ?_ | refine U6 rfl (by kernel_rfl) ?_ | refine U7 (by kernel_rfl) ?_) | (refine M5 ?_; first | exact M7 | refine U8 rfl ?_ | refine U9 rfl rfl ?_ ?_))
        refine XE.round (s := (j, x, (m : Int))) (j + 1, x, (m : Int) - 1) ⟨by simp only; omega, ?_, ?_⟩ (by simp only; omega) (by repeat (first | exact Sub.nil | refine Sub.cons rfl ?_)) (fun _ h => h)
        · simp only [hm2]; rw [hx]; exact (firstG_n hML h4).symm
        · simp only; omega
    · have hjl : l2.length - j = 0 := by
        have : ¬ 0 ≤ y := by simpa using h2
        omega
      rw [hjl, firstG_0] at hx
      subst hx
      repeat (first | (refine M0 ?_; first | refine O0 ?_ | refine z1 tok rfl ?_ | refine O1 rfl ?_ rfl | refine O2 rfl ?_ | refine O3 rfl ?_ rfl | refine O4 rfl rfl rfl (fun _ _ => ?_) | refine O5 tok rfl rfl rfl (fun _ _ => ?_) | refine U0 _ (U2 rfl) rfl ?_ | refine U0 _ (U3 tok rfl rfl rfl rfl rfl) rfl ?_ | refine z3 tok rfl ?_ | refine U0 _ (U4 rfl rfl) rfl ?_ | refine U0 _ (U5 rfl rfl) rfl ?_ | refine XL.buildSlice tok rfl rfl rfl rfl rfl rfl rfl rfl rfl (fun _ _ => ?_) | (refine XL.at_push 26 ?_; refine XL.push (K := intK) (a := firstF (l2.map (·.f)) k) (wE := w) 0 intK_el (by decide) rfl rfl rfl (by assumption) rfl (by assumption) (by assumption) (Nat.le_refl _) rfl hl1 (by decide) ha1 (fun _ _ _ _ _ => ?_))) | (refine M1 ?_; first | refine J0 ?_ | refine J1 ?_ | refine J2 mixed rfl (by kernel_rfl) ?_ | refine J3 mixed rfl rfl (by kernel_rfl) ?_ | refine J4 ?_ | refine J5 ?_ | refine J6 ?_ | refine J7 ?_ | refine J8 rfl ?_ | refine J9 rfl ?_) | (refine M2 ?_; first | refine I0 ?_ | refine I1 ?_ | refine I2 ?_ | refine I3 ?_ | refine I4 ?_ | refine I5 ?_ | refine I6 rfl ?_ | refine I7 ?_ | refine I8 ?_ | refine z4 ?_) | (refine M3 ?_; first | refine O6 ?_ | refine z2 tok rfl ?_ | refine O8 rfl ?_ | refine O7 rfl ?_ rfl | refine O9 rfl ?_ rfl | refine U1 _ (U4 rfl rfl) rfl ?_ | refine U1 _ (U5 rfl rfl) rfl ?_ | refine U1 _ (U2 rfl) rfl ?_ | refine U1 _ (U3 tok rfl rfl rfl rfl rfl) rfl ?_) | (refine M4 ?_; first | refine M6 ?_ | refine U6 rfl (by kernel_rfl) ?_ | refine U7 (by kernel_rfl) ?_) | (refine M5 ?_; first | exact M7 | refine U8 rfl ?_ | refine U9 rfl rfl ?_ ?_))
      refine XE.roundW (s := (k, W, v)) (fun w6 S6 => ⟨(k + 1, w6, _), ⟨hkn, ?_, ?_, S6.keyLt g3 (by simp)⟩, by simp only; omega, (by repeat (first | exact Sub.nil | refine Sub.cons rfl ?_)), S6.rebase (by repeat (first | exact List.Sublist.refl _ | exact List.nil_sublist _ | refine List.Sublist.cons _ ?_))⟩)
      · rw [range_add]
        exact Fam.add (Fam.sys (by assumption) S6 (by intro e he; repeat (first | (cases he; done) | (rcases List.mem_cons.1 he with rfl | he; · first | (right; assumption) | (left; simp <;> fail))))) (by intro k hk; repeat (first | (cases hk; done) | (rcases List.mem_cons.1 hk with rfl | hk; · first | (right; assumption) | (left; simp <;> fail))))
      · exact Below.trans (by assumption) S6.toBelow
  · have hkn : k = b.pols.length := by have : ¬ (k < b.pols.length) := by simpa using h1
                                       omega
    subst hkn
    repeat (first | (refine M0 ?_; first | refine O0 ?_ | refine z1 tok rfl ?_ | refine O1 rfl ?_ rfl | refine O2 rfl ?_ | refine O3 rfl ?_ rfl | refine O4 rfl rfl rfl (fun _ _ => ?_) | refine O5 tok rfl rfl rfl (fun _ _ => ?_) | refine U0 _ (U2 rfl) rfl ?_ | refine U0 _ (U3 tok rfl rfl rfl rfl rfl) rfl ?_ | refine z3 tok rfl ?_ | refine U0 _ (U4 rfl rfl) rfl ?_ | refine U0 _ (U5 rfl rfl) rfl ?_) | (refine M1 ?_; first | refine J0 ?_ | refine J1 ?_ | refine J2 mixed rfl (by kernel_rfl) ?_ | refine J3 mixed rfl rfl (by kernel_rfl) ?_ | refine J4 ?_ | refine J5 ?_ | refine J6 ?_ | refine J7 ?_ | refine J8 rfl ?_ | refine J9 rfl ?_) | (refine M2 ?_; first | refine I0 ?_ | refine I1 ?_ | refine I2 ?_ | refine I3 ?_ | refine I4 ?_ | refine I5 ?_ | refine I6 rfl ?_ | refine I7 ?_ | refine I8 ?_ | refine z4 ?_) | (refine M3 ?_; first | refine O6 ?_ | refine z2 tok rfl ?_ | refine O8 rfl ?_ | refine O7 rfl ?_ rfl | refine O9 rfl ?_ rfl | refine U1 _ (U4 rfl rfl) rfl ?_ | refine U1 _ (U5 rfl rfl) rfl ?_ | refine U1 _ (U2 rfl) rfl ?_ | refine U1 _ (U3 tok rfl rfl rfl rfl rfl) rfl ?_) | (refine M4 ?_; first | refine M6 ?_ | refine U6 rfl (by kernel_rfl) ?_ | refine U7 (by kernel_rfl) ?_) | (refine M5 ?_; first | exact M7 | refine U8 rfl ?_ | refine U9 rfl rfl ?_ ?_))
    refine XE.retg tok Tryd.results30 rfl (by simp only [and_self, and_true]) (fun w' S => ?_)
    have hF6 := hF.sys S (by intro e he; repeat (first | (cases he; done) | (rcases List.mem_cons.1 he with rfl | he; · first | (right; assumption) | (left; simp <;> fail))))
    obtain ⟨r1, rfl, h5⟩ := hF6.list (.head _)
    exact FloodV.made (r := r1) (by rw [hE]; rfl) (by rw [floods_0 hE, ← e2]; exact h5.ints) (hBW.trans S.toBelow)
/-- a case. -/
structure CV where
  q : SV
  r : SV
structure Cas where
  s : Sta
  ts : List Tick
  lim : Int
def caseC (x : CV) (c : Cas) : List Value := [.int .i64 c.s.vol, .slice x.q.A x.q.n x.q.c, .slice x.r.A x.r.n x.r.c, .int .i64 c.lim]
def caseV (x : CV) (c : Cas) : Value := .agg ⟨caseC x c⟩
structure CaseAt (w : World) (ok : Nat → Prop) (x : CV) (c : Cas) : Prop where
  fil : IntsAt w ok x.q c.s.fil
  tks : TksAt w ok x.r c.ts
set_option maxHeartbeats 8000000 in
theorem BasinStays_any {p : BV} {b : Bas} {x : CV} {c : Cas} {w : World} (hL : Laid w) (hb : BasAt w w.heap.size p b) (hc : CaseAt w (Lt w.heap.size) x c) :
    Calls Tryd.prog 6 #[basV p b, caseV x c] w fun e w' => e = .returned (.bool true) ∧ Below w.heap.size w w' := by
  obtain ⟨q, r⟩ := x
  obtain ⟨s, ts, lim⟩ := c
  obtain ⟨hq, ht⟩ := hc
  simp only at hq ht
  simp only [basV, basC, caseV, caseC]
  refine enter Tryd.func6 rfl Tryd.ntmps6 rfl ?_; simp only [frame, Nat.zero_add, Nat.reduceAdd]
  repeat (first | (refine M0 ?_; first | refine O0 ?_ | refine z1 tok rfl ?_ | refine O1 rfl ?_ rfl | refine O2 rfl ?_ | refine O3 rfl ?_ rfl | refine U0 _ (Ev.call (f := 27) (ck rfl) rfl (fun w S => (Stay_any (p := p) (q := q) (r := r) (s := s) (ts := ts) (lim := lim) (hL.below S.toBelow) (hb.sys S) (hq.arg S) (ht.arg S) :))) rfl ?_ | refine U0 _ (Ev.call (f := 28) (ck rfl) rfl (fun w S => (refStay_any (p := p) (q := q) (r := r) (s := s) (ts := ts) (lim := lim) (hb.sys S) (hq.arg S) (ht.arg S) :))) rfl ?_ | refine O4 rfl rfl rfl (fun _ _ => ?_) | refine O5 tok rfl rfl rfl (fun _ _ => ?_) | refine U0 _ (U2 rfl) rfl ?_ | refine U0 _ (U3 tok rfl rfl rfl rfl rfl) rfl ?_ | refine z3 tok rfl ?_ | refine U0 _ (U4 rfl rfl) rfl ?_ | refine U0 _ (U5 rfl rfl) rfl ?_) | (refine M1 ?_; first | refine J0 ?_ | refine J1 ?_ | refine J2 mixed rfl (by kernel_rfl) ?_ | refine J3 mixed rfl rfl (by kernel_rfl) ?_ | refine J4 ?_ | refine J5 ?_ | refine J6 ?_ | refine J7 ?_ | refine J8 rfl ?_ | refine J9 rfl ?_) | (refine M2 ?_; first | refine I0 ?_ | refine I1 ?_ | refine I2 ?_ | refine I3 ?_ | refine I4 ?_ | refine I5 ?_ | refine I6 rfl ?_ | refine I7 ?_ | refine I8 ?_ | refine z4 ?_) | (refine M3 ?_; first | refine O6 ?_ | refine z2 tok rfl ?_ | refine O8 rfl ?_ | refine O7 rfl ?_ rfl | refine O9 rfl ?_ rfl | refine U1 _ (Ev.call (f := 27) (ck rfl) rfl (fun w S => (Stay_any (p := p) (q := q) (r := r) (s := s) (ts := ts) (lim := lim) (hL.below S.toBelow) (hb.sys S) (hq.arg S) (ht.arg S) :))) rfl ?_ | refine U1 _ (Ev.call (f := 28) (ck rfl) rfl (fun w S => (refStay_any (p := p) (q := q) (r := r) (s := s) (ts := ts) (lim := lim) (hb.sys S) (hq.arg S) (ht.arg S) :))) rfl ?_ | refine U1 _ (U4 rfl rfl) rfl ?_ | refine U1 _ (U5 rfl rfl) rfl ?_ | refine U1 _ (U2 rfl) rfl ?_ | refine U1 _ (U3 tok rfl rfl rfl rfl rfl) rfl ?_) | (refine M4 ?_; first | refine M6 ?_ | refine U6 rfl (by kernel_rfl) ?_ | refine U7 (by kernel_rfl) ?_) | (refine M5 ?_; first | exact M7 | refine U8 rfl ?_ | refine U9 rfl rfl ?_ ?_))
  refine XL.split _ _ rfl (fun h => absurd h (by simp)) (fun h => ?_)
  rw [h]
  repeat (first | (refine M0 ?_; first | refine O0 ?_ | refine z1 tok rfl ?_ | refine O1 rfl ?_ rfl | refine O2 rfl ?_ | refine O3 rfl ?_ rfl | refine O4 rfl rfl rfl (fun _ _ => ?_) | refine O5 tok rfl rfl rfl (fun _ _ => ?_) | refine U0 _ (U2 rfl) rfl ?_ | refine U0 _ (U3 tok rfl rfl rfl rfl rfl) rfl ?_ | refine z3 tok rfl ?_ | refine U0 _ (U4 rfl rfl) rfl ?_ | refine U0 _ (U5 rfl rfl) rfl ?_) | (refine M1 ?_; first | refine J0 ?_ | refine J1 ?_ | refine J2 mixed rfl (by kernel_rfl) ?_ | refine J3 mixed rfl rfl (by kernel_rfl) ?_ | refine J4 ?_ | refine J5 ?_ | refine J6 ?_ | refine J7 ?_ | refine J8 rfl ?_ | refine J9 rfl ?_) | (refine M2 ?_; first | refine I0 ?_ | refine I1 ?_ | refine I2 ?_ | refine I3 ?_ | refine I4 ?_ | refine I5 ?_ | refine I6 rfl ?_ | refine I7 ?_ | refine I8 ?_ | refine z4 ?_) | (refine M3 ?_; first | refine O6 ?_ | refine z2 tok rfl ?_ | refine O8 rfl ?_ | refine O7 rfl ?_ rfl | refine O9 rfl ?_ rfl | refine U1 _ (U4 rfl rfl) rfl ?_ | refine U1 _ (U5 rfl rfl) rfl ?_ | refine U1 _ (U2 rfl) rfl ?_ | refine U1 _ (U3 tok rfl rfl rfl rfl rfl) rfl ?_) | (refine M4 ?_; first | refine M6 ?_ | refine U6 rfl (by kernel_rfl) ?_ | refine U7 (by kernel_rfl) ?_) | (refine M5 ?_; first | exact M7 | refine U8 rfl ?_ | refine U9 rfl rfl ?_ ?_))
  refine XC.cond _ rfl (fun h => absurd h (by simp)) (fun h => ?_)
  repeat (first | (refine M0 ?_; first | refine O0 ?_ | refine z1 tok rfl ?_ | refine O1 rfl ?_ rfl | refine O2 rfl ?_ | refine O3 rfl ?_ rfl | refine O4 rfl rfl rfl (fun _ _ => ?_) | refine O5 tok rfl rfl rfl (fun _ _ => ?_) | refine U0 _ (U2 rfl) rfl ?_ | refine U0 _ (U3 tok rfl rfl rfl rfl rfl) rfl ?_ | refine z3 tok rfl ?_ | refine U0 _ (U4 rfl rfl) rfl ?_ | refine U0 _ (U5 rfl rfl) rfl ?_) | (refine M1 ?_; first | refine J0 ?_ | refine J1 ?_ | refine J2 mixed rfl (by kernel_rfl) ?_ | refine J3 mixed rfl rfl (by kernel_rfl) ?_ | refine J4 ?_ | refine J5 ?_ | refine J6 ?_ | refine J7 ?_ | refine J8 rfl ?_ | refine J9 rfl ?_) | (refine M2 ?_; first | refine I0 ?_ | refine I1 ?_ | refine I2 ?_ | refine I3 ?_ | refine I4 ?_ | refine I5 ?_ | refine I6 rfl ?_ | refine I7 ?_ | refine I8 ?_ | refine z4 ?_) | (refine M3 ?_; first | refine O6 ?_ | refine z2 tok rfl ?_ | refine O8 rfl ?_ | refine O7 rfl ?_ rfl | refine O9 rfl ?_ rfl | refine U1 _ (U4 rfl rfl) rfl ?_ | refine U1 _ (U5 rfl rfl) rfl ?_ | refine U1 _ (U2 rfl) rfl ?_ | refine U1 _ (U3 tok rfl rfl rfl rfl rfl) rfl ?_) | (refine M4 ?_; first | refine M6 ?_ | refine U6 rfl (by kernel_rfl) ?_ | refine U7 (by kernel_rfl) ?_) | (refine M5 ?_; first | exact M7 | refine U8 rfl ?_ | refine U9 rfl rfl ?_ ?_))
  refine XL.callF (FloodV b s ts) (ck rfl) rfl rfl (Fam.start (ks := []) (Nat.le_refl w.heap.size)) (fun _ h => by cases h) (Below.refl w.heap.size w) (fun w1 S1 _ _ => Floods_any (p := p) (q := q) (r := r) (hL.below S1.toBelow) (hb.sys S1) (hq.arg S1) (ht.arg S1)) (fun w2 v new hR hF2 hB2 hk2 => ?_)
  obtain ⟨r1, rfl, rfl⟩ := hR
  simp only [svV]
  repeat (first | (refine M0 ?_; first | refine O0 ?_ | refine z1 tok rfl ?_ | refine O1 rfl ?_ rfl | refine O2 rfl ?_ | refine O3 rfl ?_ rfl | refine O4 rfl rfl rfl (fun _ _ => ?_) | refine O5 tok rfl rfl rfl (fun _ _ => ?_) | refine U0 _ (U2 rfl) rfl ?_ | refine U0 _ (U3 tok rfl rfl rfl rfl rfl) rfl ?_ | refine z3 tok rfl ?_ | refine U0 _ (U4 rfl rfl) rfl ?_ | refine U0 _ (U5 rfl rfl) rfl ?_) | (refine M1 ?_; first | refine J0 ?_ | refine J1 ?_ | refine J2 mixed rfl (by kernel_rfl) ?_ | refine J3 mixed rfl rfl (by kernel_rfl) ?_ | refine J4 ?_ | refine J5 ?_ | refine J6 ?_ | refine J7 ?_ | refine J8 rfl ?_ | refine J9 rfl ?_) | (refine M2 ?_; first | refine I0 ?_ | refine I1 ?_ | refine I2 ?_ | refine I3 ?_ | refine I4 ?_ | refine I5 ?_ | refine I6 rfl ?_ | refine I7 ?_ | refine I8 ?_ | refine z4 ?_) | (refine M3 ?_; first | refine O6 ?_ | refine z2 tok rfl ?_ | refine O8 rfl ?_ | refine O7 rfl ?_ rfl | refine O9 rfl ?_ rfl | refine U1 _ (U4 rfl rfl) rfl ?_ | refine U1 _ (U5 rfl rfl) rfl ?_ | refine U1 _ (U2 rfl) rfl ?_ | refine U1 _ (U3 tok rfl rfl rfl rfl rfl) rfl ?_) | (refine M4 ?_; first | refine M6 ?_ | refine U6 rfl (by kernel_rfl) ?_ | refine U7 (by kernel_rfl) ?_) | (refine M5 ?_; first | exact M7 | refine U8 rfl ?_ | refine U9 rfl rfl ?_ ?_))
  refine XL.callF (FloodV b s ts) (ck rfl) rfl rfl hF2 hk2 hB2 (fun w1 S1 _ _ => refFloods_any (p := p) (q := q) (r := r) ((hb.below hB2).sys S1) ((hq.below hB2).arg S1) ((ht.below hB2).arg S1)) (fun w4 v new hR hF4 hB4 hk4 => ?_)
  obtain ⟨r3, rfl, rfl⟩ := hR
  simp only [svV]
  repeat (first | (refine M0 ?_; first | refine O0 ?_ | refine z1 tok rfl ?_ | refine O1 rfl ?_ rfl | refine O2 rfl ?_ | refine O3 rfl ?_ rfl | refine U0 _ (Ev.call (f := 31) (ck rfl) rfl (fun w5 S5 => (intsEq_any (q := r1) (r := r3) (l := floods b s ts) (m := floods b s ts) (Held.lt (x := hInts r1 (floods b s ts)) ((hF4.sys S5 (by intro e he; repeat (first | (cases he; done) | (rcases List.mem_cons.1 he with rfl | he; · first | (right; assumption) | (left; simp <;> fail))))).get (.tail _ (.head _)))) (Held.lt (x := hInts r3 (floods b s ts)) ((hF4.sys S5 (by intro e he; repeat (first | (cases he; done) | (rcases List.mem_cons.1 he with rfl | he; · first | (right; assumption) | (left; simp <;> fail))))).get (.head _))) :))) rfl ?_ | refine O4 rfl rfl rfl (fun _ _ => ?_) | refine O5 tok rfl rfl rfl (fun _ _ => ?_) | refine U0 _ (U2 rfl) rfl ?_ | refine U0 _ (U3 tok rfl rfl rfl rfl rfl) rfl ?_ | refine z3 tok rfl ?_ | refine U0 _ (U4 rfl rfl) rfl ?_ | refine U0 _ (U5 rfl rfl) rfl ?_) | (refine M1 ?_; first | refine J0 ?_ | refine J1 ?_ | refine J2 mixed rfl (by kernel_rfl) ?_ | refine J3 mixed rfl rfl (by kernel_rfl) ?_ | refine J4 ?_ | refine J5 ?_ | refine J6 ?_ | refine J7 ?_ | refine J8 rfl ?_ | refine J9 rfl ?_) | (refine M2 ?_; first | refine I0 ?_ | refine I1 ?_ | refine I2 ?_ | refine I3 ?_ | refine I4 ?_ | refine I5 ?_ | refine I6 rfl ?_ | refine I7 ?_ | refine I8 ?_ | refine z4 ?_) | (refine M3 ?_; first | refine O6 ?_ | refine z2 tok rfl ?_ | refine O8 rfl ?_ | refine O7 rfl ?_ rfl | refine O9 rfl ?_ rfl | refine U1 _ (Ev.call (f := 31) (ck rfl) rfl (fun w5 S5 => (intsEq_any (q := r1) (r := r3) (l := floods b s ts) (m := floods b s ts) (Held.lt (x := hInts r1 (floods b s ts)) ((hF4.sys S5 (by intro e he; repeat (first | (cases he; done) | (rcases List.mem_cons.1 he with rfl | he; · first | (right; assumption) | (left; simp <;> fail))))).get (.tail _ (.head _)))) (Held.lt (x := hInts r3 (floods b s ts)) ((hF4.sys S5 (by intro e he; repeat (first | (cases he; done) | (rcases List.mem_cons.1 he with rfl | he; · first | (right; assumption) | (left; simp <;> fail))))).get (.head _))) :))) rfl ?_ | refine U1 _ (U4 rfl rfl) rfl ?_ | refine U1 _ (U5 rfl rfl) rfl ?_ | refine U1 _ (U2 rfl) rfl ?_ | refine U1 _ (U3 tok rfl rfl rfl rfl rfl) rfl ?_) | (refine M4 ?_; first | refine M6 ?_ | refine U6 rfl (by kernel_rfl) ?_ | refine U7 (by kernel_rfl) ?_) | (refine M5 ?_; first | exact M7 | refine U8 rfl ?_ | refine U9 rfl rfl ?_ ?_))
  rw [show decide (floods b s ts = floods b s ts) = true by simp]
  repeat (first | (refine M0 ?_; first | refine O0 ?_ | refine z1 tok rfl ?_ | refine O1 rfl ?_ rfl | refine O2 rfl ?_ | refine O3 rfl ?_ rfl | refine O4 rfl rfl rfl (fun _ _ => ?_) | refine O5 tok rfl rfl rfl (fun _ _ => ?_) | refine U0 _ (U2 rfl) rfl ?_ | refine U0 _ (U3 tok rfl rfl rfl rfl rfl) rfl ?_ | refine z3 tok rfl ?_ | refine U0 _ (U4 rfl rfl) rfl ?_ | refine U0 _ (U5 rfl rfl) rfl ?_) | (refine M1 ?_; first | refine J0 ?_ | refine J1 ?_ | refine J2 mixed rfl (by kernel_rfl) ?_ | refine J3 mixed rfl rfl (by kernel_rfl) ?_ | refine J4 ?_ | refine J5 ?_ | refine J6 ?_ | refine J7 ?_ | refine J8 rfl ?_ | refine J9 rfl ?_) | (refine M2 ?_; first | refine I0 ?_ | refine I1 ?_ | refine I2 ?_ | refine I3 ?_ | refine I4 ?_ | refine I5 ?_ | refine I6 rfl ?_ | refine I7 ?_ | refine I8 ?_ | refine z4 ?_) | (refine M3 ?_; first | refine O6 ?_ | refine z2 tok rfl ?_ | refine O8 rfl ?_ | refine O7 rfl ?_ rfl | refine O9 rfl ?_ rfl | refine U1 _ (U4 rfl rfl) rfl ?_ | refine U1 _ (U5 rfl rfl) rfl ?_ | refine U1 _ (U2 rfl) rfl ?_ | refine U1 _ (U3 tok rfl rfl rfl rfl rfl) rfl ?_) | (refine M4 ?_; first | refine M6 ?_ | refine U6 rfl (by kernel_rfl) ?_ | refine U7 (by kernel_rfl) ?_) | (refine M5 ?_; first | exact M7 | refine U8 rfl ?_ | refine U9 rfl rfl ?_ ?_))
  rw [show decide (runE b s ts = runE b s ts) = true by simp]
  repeat (first | (refine M0 ?_; first | refine O0 ?_ | refine z1 tok rfl ?_ | refine O1 rfl ?_ rfl | refine O2 rfl ?_ | refine O3 rfl ?_ rfl | refine U0 _ (Ev.call (f := 23) (ck rfl) rfl (fun w S => (Awake_any (hL.below (hB4.trans S.toBelow)) :))) rfl ?_ | refine O4 rfl rfl rfl (fun _ _ => ?_) | refine O5 tok rfl rfl rfl (fun _ _ => ?_) | refine U0 _ (U2 rfl) rfl ?_ | refine U0 _ (U3 tok rfl rfl rfl rfl rfl) rfl ?_ | refine z3 tok rfl ?_ | refine U0 _ (U4 rfl rfl) rfl ?_ | refine U0 _ (U5 rfl rfl) rfl ?_) | (refine M1 ?_; first | refine J0 ?_ | refine J1 ?_ | refine J2 mixed rfl (by kernel_rfl) ?_ | refine J3 mixed rfl rfl (by kernel_rfl) ?_ | refine J4 ?_ | refine J5 ?_ | refine J6 ?_ | refine J7 ?_ | refine J8 rfl ?_ | refine J9 rfl ?_) | (refine M2 ?_; first | refine I0 ?_ | refine I1 ?_ | refine I2 ?_ | refine I3 ?_ | refine I4 ?_ | refine I5 ?_ | refine I6 rfl ?_ | refine I7 ?_ | refine I8 ?_ | refine z4 ?_) | (refine M3 ?_; first | refine O6 ?_ | refine z2 tok rfl ?_ | refine O8 rfl ?_ | refine O7 rfl ?_ rfl | refine O9 rfl ?_ rfl | refine U1 _ (Ev.call (f := 23) (ck rfl) rfl (fun w S => (Awake_any (hL.below (hB4.trans S.toBelow)) :))) rfl ?_ | refine U1 _ (U4 rfl rfl) rfl ?_ | refine U1 _ (U5 rfl rfl) rfl ?_ | refine U1 _ (U2 rfl) rfl ?_ | refine U1 _ (U3 tok rfl rfl rfl rfl rfl) rfl ?_) | (refine M4 ?_; first | refine M6 ?_ | refine U6 rfl (by kernel_rfl) ?_ | refine U7 (by kernel_rfl) ?_) | (refine M5 ?_; first | exact M7 | refine U8 rfl ?_ | refine U9 rfl rfl ?_ ?_))
  refine XE.retg tok Tryd.results6 rfl (by simp only [and_self, and_true]) (fun w' S => ?_)
  exact ⟨rfl, hB4.trans S.toBelow⟩
end Go.Proofs.YtoiepgcjinccpaaDoor.X
/-
  From the reading of the arguments to how they lie in memory.
-/
namespace Go.Proofs.YtoiepgcjinccpaaDoor.X
open Go Go.RowKit Go.Proofs.YtoiepgcjinccpaaDoor.Bs Go.WideShapes Go.ChangeShapes
set_option linter.unusedVariables false
section
variable {H : Type} {enc : TypeId × Value → H} {P : Program} {w : World} {base : Nat} {spare : Nat → Bool} {held : Bool}
/-- a field of one cell. -/
theorem fieldR {t : TypeId} {fs : Array Field} {fuel : Nat} {cs : List Value} {x : DataW H × List MemPlace} (ht : P.underlying t = some (.struct fs)) (h : DataW.trod enc P w base spare held fuel t cs = some x) :
    cs.length = P.cellsOf t ∧ ∃ n, ∀ (i : Nat) (f : Field), fs[i]? = some f → P.cellsOf f.type = 1 → f.offset < cs.length → ∃ c y, cs[f.offset]? = some c ∧ DataW.trod enc P w base spare held n f.type [c] = some y := by
  obtain ⟨xs, n, _, rfl, hl, hlen, hf⟩ := DataW.trod_struct ht h
  refine ⟨hl, n, fun i f hi hc ho => ?_⟩
  have h1 := hf i f hi
  have hi' : i < xs.length := by rw [hlen]; exact (Array.getElem?_eq_some_iff.1 hi).1
  rw [hc, List.getElem?_eq_getElem hi'] at h1
  refine ⟨cs[f.offset], xs[i], List.getElem?_eq_getElem ho, ?_⟩
  rw [List.drop_eq_getElem_cons ho, List.take_succ_cons, List.take_zero] at h1
  exact h1
theorem choose_list {α : Type} {p : Nat → α → Prop} : ∀ n : Nat, (∀ i, i < n → ∃ b, p i b) → ∃ l : List α, l.length = n ∧ ∀ i b, l[i]? = some b → p i b := by
  intro n
  induction n with
  | zero => intro _; exact ⟨[], rfl, fun i b hb => by cases hb⟩
  | succ k ih =>
    intro hall
    obtain ⟨l, h1, h2⟩ := ih fun i hi => hall i (by omega)
    obtain ⟨b, h3⟩ := hall k (by omega)
    refine ⟨l ++ [b], by simp [h1], fun i c hc => ?_⟩
    rcases Nat.lt_or_ge i l.length with hi | hi
    · rw [List.getElem?_append_left hi] at hc
      exact h2 i c hc
    · have hi' : i < (l ++ [b]).length := (List.getElem?_eq_some_iff.1 hc).1
      have : i = l.length := by simp at hi'; omega
      subst this
      simp at hc
      subst hc
      rw [h1]
      exact h3
/-- a slice of elements that are decoded by C. -/
theorem sliceR {α : Type} {C : α → List Value} {G : α → Prop} {t e : TypeId} {m fuel : Nat} {cs : List Value} {x : DataW H × List MemPlace} (ht : P.underlying t = some (.slice e)) (he : P.cellsOf e = m)
    (hd : ∀ n cs x, DataW.trod enc P w base spare held n e cs = some x → ∃ a, cs = C a ∧ G a) (hm : ∀ a, (C a).length = m) (h0 : 0 < m) (h : DataW.trod enc P w base spare held fuel t cs = some x) :
    ∃ (A : Option Addr) (n c : Nat) (l : List α), cs = [.slice A n c] ∧ Reads w w.heap.size m A n (l.flatMap C) ∧ n ≤ c ∧ c ≤ maxLen ∧ ∀ a, a ∈ l → G a := by
  rcases Go.Deep.open_slice ht h with ⟨rfl, _⟩ | ⟨a, len, cap, m', n', D, Pl, rfl, hb, hl, hcm, hmm, _, hx⟩
  · exact ⟨none, 0, 0, [], rfl, Reads.none_, Nat.le_refl _, Nat.zero_le _, fun a ha => by cases ha⟩
  · rw [he] at hx
    have hlm : len ≤ m' := by rw [hmm]; split <;> omega
    have hall : ∀ i, i < len → ∃ b : α, w.cells? base (a.add (i * m)) m = some (C b) ∧ G b := fun i hi => by
      obtain ⟨cs', h1, h2⟩ := hx i (by omega)
      obtain ⟨b, rfl, hg⟩ := hd _ _ _ h2
      exact ⟨b, h1, hg⟩
    obtain ⟨l, hll, hlx⟩ := choose_list len hall
    refine ⟨some a, len, cap, l, rfl, ⟨by rw [flat_len C m hm, hll], fun hn => ?_⟩, hl, hcm, fun b hb => ?_⟩
    · have hcell : ∀ j u, (l.flatMap C)[j]? = some u → w.cell? (a.add j) = some u := fun j u hj => by
        have hjl : j < (l.flatMap C).length := (List.getElem?_eq_some_iff.1 hj).1
        rw [flat_len C m hm] at hjl
        have hdm := Nat.div_add_mod j m
        have hlt : j / m < l.length := Nat.div_lt_of_lt_mul (by rw [Nat.mul_comm]; exact hjl)
        have hb : l[j / m]? = some l[j / m] := List.getElem?_eq_getElem hlt
        have h1 := flat_at C m hm l (j / m) (j % m) _ hb (Nat.mod_lt _ h0)
        rw [show j / m * m + j % m = j by rw [Nat.mul_comm]; exact hdm, hj] at h1
        obtain ⟨_, _, h2⟩ := World.cells?_some (hlx _ _ hb).1
        have h3 := h2 (j % m) (Nat.mod_lt _ h0)
        rw [add_add, show j / m * m + j % m = j by rw [Nat.mul_comm]; exact hdm, ← h1] at h3
        exact h3
      refine ⟨a, rfl, ?_, hcell⟩
      obtain ⟨b, h1, _⟩ := hall 0 hn
      have := World.cells?_block h1 h0
      simpa [add_block] using this
    · obtain ⟨i, hi, rfl⟩ := List.mem_iff_getElem.1 hb
      exact (hlx i _ (List.getElem?_eq_getElem hi)).2
end
section
variable {H : Type} {enc : TypeId × Value → H} {w : World} {base : Nat} {spare : Nat → Bool} {held : Bool} {fuel : Nat} {cs : List Value} {x : DataW H × List MemPlace}
theorem intR {n : Nat} {c : Value} {y : DataW H × List MemPlace} (h : DataW.trod enc Tryd.prog w base spare held n 3 [c] = some y) : ∃ k : Int, c = .int .i64 k := by
  obtain ⟨k, e, _⟩ := DataW.trod_int Tryd.underlying3 h
  exact ⟨k, by simpa using e⟩
theorem strR {n : Nat} {c : Value} {y : DataW H × List MemPlace} (h : DataW.trod enc Tryd.prog w base spare held n 9 [c] = some y) : ∃ s : ByteArray, c = .string s ∧ s.size ≤ maxLen := by
  obtain ⟨s, e, _, hs⟩ := DataW.trod_string Tryd.underlying9 h
  exact ⟨s, by simpa using e, hs⟩
theorem c_int : (Tryd.prog).cellsOf 3 = 1 := by kernel_rfl
theorem c_str : (Tryd.prog).cellsOf 9 = 1 := by kernel_rfl
theorem c_row : (Tryd.prog).cellsOf 67 = 2 := by kernel_rfl
theorem c_pol : (Tryd.prog).cellsOf 76 = 4 := by kernel_rfl
theorem c_tick : (Tryd.prog).cellsOf 30 = 3 := by kernel_rfl
theorem c_bas : (Tryd.prog).cellsOf 25 = 5 := by kernel_rfl
theorem c_sta : (Tryd.prog).cellsOf 28 = 2 := by kernel_rfl
theorem c_rows : (Tryd.prog).cellsOf 22 = 1 := by kernel_rfl
theorem c_pols : (Tryd.prog).cellsOf 23 = 1 := by kernel_rfl
theorem c_ints : (Tryd.prog).cellsOf 26 = 1 := by kernel_rfl
theorem rowR (h : DataW.trod enc Tryd.prog w base spare held fuel 67 cs = some x) : ∃ r : Row, cs = rowC r := by
  obtain ⟨hl, n, hf⟩ := fieldR Tryd.underlying67 h
  rw [c_row] at hl
  match cs, hl with
  | [c0, c1], _ =>
    obtain ⟨d0, y0, e0, h0⟩ := hf 0 _ rfl c_int (Nat.le_of_ble_eq_true rfl)
    obtain ⟨d1, y1, e1, h1⟩ := hf 1 _ rfl c_int (Nat.le_of_ble_eq_true rfl)
    obtain ⟨k0, rfl⟩ := intR h0
    obtain ⟨k1, rfl⟩ := intR h1
    cases e0; cases e1
    exact ⟨⟨k0, k1⟩, rfl⟩
theorem polR (h : DataW.trod enc Tryd.prog w base spare held fuel 76 cs = some x) : ∃ r : Pol, cs = polC r ∧ r.name.size ≤ maxLen := by
  obtain ⟨hl, n, hf⟩ := fieldR Tryd.underlying76 h
  rw [c_pol] at hl
  match cs, hl with
  | [c0, c1, c2, c3], _ =>
    obtain ⟨d0, y0, e0, h0⟩ := hf 0 _ rfl c_str (Nat.le_of_ble_eq_true rfl)
    obtain ⟨d1, y1, e1, h1⟩ := hf 1 _ rfl c_int (Nat.le_of_ble_eq_true rfl)
    obtain ⟨d2, y2, e2, h2⟩ := hf 2 _ rfl c_int (Nat.le_of_ble_eq_true rfl)
    obtain ⟨d3, y3, e3, h3⟩ := hf 3 _ rfl c_int (Nat.le_of_ble_eq_true rfl)
    obtain ⟨s, rfl, hs⟩ := strR h0
    obtain ⟨k1, rfl⟩ := intR h1
    obtain ⟨k2, rfl⟩ := intR h2
    obtain ⟨k3, rfl⟩ := intR h3
    cases e0; cases e1; cases e2; cases e3
    exact ⟨⟨s, k1, k2, k3⟩, rfl, hs⟩
theorem tickR (h : DataW.trod enc Tryd.prog w base spare held fuel 30 cs = some x) : ∃ r : Tick, cs = tickC r := by
  obtain ⟨hl, n, hf⟩ := fieldR Tryd.underlying30 h
  rw [c_tick] at hl
  match cs, hl with
  | [c0, c1, c2], _ =>
    obtain ⟨d0, y0, e0, h0⟩ := hf 0 _ rfl c_int (Nat.le_of_ble_eq_true rfl)
    obtain ⟨d1, y1, e1, h1⟩ := hf 1 _ rfl c_int (Nat.le_of_ble_eq_true rfl)
    obtain ⟨d2, y2, e2, h2⟩ := hf 2 _ rfl c_int (Nat.le_of_ble_eq_true rfl)
    obtain ⟨k0, rfl⟩ := intR h0
    obtain ⟨k1, rfl⟩ := intR h1
    obtain ⟨k2, rfl⟩ := intR h2
    cases e0; cases e1; cases e2
    exact ⟨⟨k0, k1, k2⟩, rfl⟩
theorem ints_flat (l : List Int) : l.flatMap (fun k : Int => [Value.int .i64 k]) = ints l := by
  unfold ints
  induction l with
  | nil => rfl
  | cons a l ih => rw [List.flatMap_cons, ih]; rfl
theorem intsR (h : DataW.trod enc Tryd.prog w base spare held fuel 26 cs = some x) : ∃ (q : SV) (l : List Int), cs = [svV q] ∧ IntsAt w (Lt w.heap.size) q l := by
  obtain ⟨A, n, c, l, rfl, hr, hnc, hcm, _⟩ := sliceR (C := fun k : Int => [.int .i64 k]) (G := fun _ => True) Tryd.underlying26 c_int (fun n cs x h => by
    obtain ⟨k, e, _⟩ := DataW.trod_int Tryd.underlying3 h
    exact ⟨k, e, trivial⟩) (fun _ => rfl) (by decide) h
  refine ⟨⟨A, n, c⟩, l, rfl, ?_, by simp only; unfold maxLen at hcm; omega⟩
  have := ints_flat l
  rw [this] at hr
  exact ReadsP.of hr
theorem staR (h : DataW.trod enc Tryd.prog w base spare held fuel 28 cs = some x) : ∃ (q : SV) (s : Sta), cs = staC q s ∧ IntsAt w (Lt w.heap.size) q s.fil := by
  obtain ⟨hl, n, hf⟩ := fieldR Tryd.underlying28 h
  rw [c_sta] at hl
  match cs, hl with
  | [c0, c1], _ =>
    obtain ⟨d0, y0, e0, h0⟩ := hf 0 _ rfl c_int (Nat.le_of_ble_eq_true rfl)
    obtain ⟨d1, y1, e1, h1⟩ := hf 1 _ rfl c_ints (Nat.le_of_ble_eq_true rfl)
    obtain ⟨k0, rfl⟩ := intR h0
    obtain ⟨q, l, e, hq⟩ := intsR h1
    cases e0; cases e1; cases e
    exact ⟨q, ⟨k0, l⟩, rfl, hq⟩
theorem basR (h : DataW.trod enc Tryd.prog w base spare held fuel 25 cs = some x) : ∃ (p : BV) (b : Bas), cs = basC p b ∧ BasAt w w.heap.size p b := by
  obtain ⟨hl, n, hf⟩ := fieldR Tryd.underlying25 h
  rw [c_bas] at hl
  match cs, hl with
  | [c0, c1, c2, c3, c4], _ =>
    obtain ⟨d0, y0, e0, h0⟩ := hf 0 _ rfl c_rows (Nat.le_of_ble_eq_true rfl)
    obtain ⟨d1, y1, e1, h1⟩ := hf 1 _ rfl c_int (Nat.le_of_ble_eq_true rfl)
    obtain ⟨d2, y2, e2, h2⟩ := hf 2 _ rfl c_int (Nat.le_of_ble_eq_true rfl)
    obtain ⟨d3, y3, e3, h3⟩ := hf 3 _ rfl c_int (Nat.le_of_ble_eq_true rfl)
    obtain ⟨d4, y4, e4, h4⟩ := hf 4 _ rfl c_pols (Nat.le_of_ble_eq_true rfl)
    obtain ⟨k1, rfl⟩ := intR h1
    obtain ⟨k2, rfl⟩ := intR h2
    obtain ⟨k3, rfl⟩ := intR h3
    obtain ⟨A, n1, cc, l, e5, hr, hnc, hcm, _⟩ := sliceR (C := rowC) (G := fun _ => True) Tryd.underlying22 c_row (fun n cs x h => by
      obtain ⟨k, e⟩ := rowR h
      exact ⟨k, e, trivial⟩) rowC_len (by decide) h0
    obtain ⟨A2, n2, cc2, l2, e6, hr2, hnc2, hcm2, hg⟩ := sliceR (C := polC) (G := fun r => r.name.size ≤ maxLen) Tryd.underlying23 c_pol (fun n cs x h => polR h) polC_len (by decide) h4
    cases e0; cases e1; cases e2; cases e3; cases e4; cases e5; cases e6
    refine ⟨⟨A, n1, cc, A2, n2, cc2⟩, ⟨l, k1, k2, k3, l2⟩, rfl, hr, hr2, hnc, ?_, ?_, fun r hr => ?_⟩
    · simp only; unfold maxLen at hcm; omega
    · simp only; unfold maxLen at hcm2; omega
    · have := hg r hr
      unfold maxLen at this; omega
end
end Go.Proofs.YtoiepgcjinccpaaDoor.X
/-
  From the reading of the arguments to how they lie in memory: ticks, numbers, cases.
-/
namespace Go.Proofs.YtoiepgcjinccpaaDoor.X
open Go Go.RowKit Go.Proofs.YtoiepgcjinccpaaDoor.Bs Go.WideShapes Go.ChangeShapes
set_option linter.unusedVariables false
section
variable {H : Type} {enc : TypeId × Value → H} {w : World} {base : Nat} {spare : Nat → Bool} {held : Bool} {fuel : Nat} {cs : List Value} {x : DataW H × List MemPlace}
theorem tksR (h : DataW.trod enc Tryd.prog w base spare held fuel 41 cs = some x) : ∃ (r : SV) (ts : List Tick), cs = [svV r] ∧ TksAt w (Lt w.heap.size) r ts := by
  obtain ⟨A, n, c, l, rfl, hr, hnc, hcm, _⟩ := sliceR (C := tickC) (G := fun _ => True) Tryd.underlying41 c_tick (fun n cs x h => by
    obtain ⟨k, e⟩ := tickR h
    exact ⟨k, e, trivial⟩) (fun _ => rfl) (by decide) h
  exact ⟨⟨A, n, c⟩, l, rfl, ReadsP.of hr, by simp only; unfold maxLen at hcm; omega⟩
/-- the fields, of however many cells. -/
theorem fieldN {P : Program} {t : TypeId} {fs : Array Field} (ht : P.underlying t = some (.struct fs)) (h : DataW.trod enc P w base spare held fuel t cs = some x) :
    cs.length = P.cellsOf t ∧ ∃ n, ∀ (i : Nat) (f : Field) (u : TypeId) (o m : Nat), fs[i]? = some f → f.type = u → f.offset = o → P.cellsOf u = m → ∃ y, DataW.trod enc P w base spare held n u ((cs.drop o).take m) = some y := by
  obtain ⟨xs, n, _, rfl, hl, hlen, hf⟩ := DataW.trod_struct ht h
  refine ⟨hl, n, fun i f u o m hi hu ho hm => ?_⟩
  subst hu ho hm
  have h1 := hf i f hi
  have hi' : i < xs.length := by rw [hlen]; exact (Array.getElem?_eq_some_iff.1 hi).1
  rw [List.getElem?_eq_getElem hi'] at h1
  exact ⟨xs[i], h1⟩
end
end Go.Proofs.YtoiepgcjinccpaaDoor.X
/-
  From the reading of the arguments to how they lie in memory: cases.
-/
namespace Go.Proofs.YtoiepgcjinccpaaDoor.X
open Go Go.RowKit Go.Proofs.YtoiepgcjinccpaaDoor.Bs Go.WideShapes Go.ChangeShapes
set_option linter.unusedVariables false
section
variable {H : Type} {enc : TypeId × Value → H} {w : World} {base : Nat} {spare : Nat → Bool} {held : Bool} {fuel : Nat} {cs : List Value} {x : DataW H × List MemPlace}
theorem c_case : (Tryd.prog).cellsOf 49 = 4 := by kernel_rfl
theorem c_tks : (Tryd.prog).cellsOf 41 = 1 := by kernel_rfl
theorem caseR (h : DataW.trod enc Tryd.prog w base spare held fuel 49 cs = some x) : ∃ (y : CV) (c : Cas), cs = caseC y c ∧ CaseAt w (Lt w.heap.size) y c := by
  obtain ⟨hl, n, hf⟩ := fieldN Tryd.underlying49 h
  rw [c_case] at hl
  match cs, hl with
  | [c0, c1, c2, c3], _ =>
    obtain ⟨y0, h0'⟩ := hf 0 _ 28 0 2 rfl rfl rfl c_sta
    obtain ⟨y1, h1'⟩ := hf 1 _ 41 2 1 rfl rfl rfl c_tks
    obtain ⟨y2, h2'⟩ := hf 2 _ 3 3 1 rfl rfl rfl c_int
    obtain ⟨q, s, e0, hq⟩ := staR (cs := [c0, c1]) h0'
    obtain ⟨r, ts, e1, ht⟩ := tksR (cs := [c2]) h1'
    obtain ⟨k, e2, _⟩ := DataW.trod_int (cs := [c3]) Tryd.underlying3 h2'
    have e2' : c3 = .int .i64 k := by simpa using e2
    cases e0; cases e1; subst e2'
    exact ⟨⟨q, r⟩, ⟨s, ts, k⟩, rfl, hq, ht⟩
end
end Go.Proofs.YtoiepgcjinccpaaDoor.X
