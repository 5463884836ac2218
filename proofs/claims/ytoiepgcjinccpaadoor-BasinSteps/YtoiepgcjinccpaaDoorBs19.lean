/-
  errors.As by its contracts; the walk of run.
-/
import Derived.Test.YtoiepgcjinccpaaDoorBs18
import Derived.Test.YtoiepgcjinccpaaDoorBsAs
namespace Go.Proofs.YtoiepgcjinccpaaDoor.X
open Go Go.RowKit Go.Proofs.YtoiepgcjinccpaaDoor.Bs
set_option linter.unusedVariables false
/-- the library's variable stands laid. -/
def Laid (w : World) : Prop := w.cell? ⟨0, 0, none⟩ = some (.iface 188 (.agg #[.pointer (some ⟨1, 140, none⟩)]))
theorem Laid.pos {w : World} (h : Laid w) : 0 < w.heap.size := by
  rcases Nat.eq_zero_or_pos w.heap.size with h0 | h1
  · unfold Laid at h; simp [World.cell?, h0] at h
  · exact h1
theorem Laid.below {w w' : World} (h : Laid w) (hb : Below w.heap.size w w') : Laid w' := (World.cell?_of_block (a := ⟨0, 0, none⟩) (hb.block 0 h.pos)).trans h
theorem Laid.sys {B : Nat} {w0 w : World} {L : Lo} (h : Laid w0) (S : Sys B w0 L w) (hB : 0 < B) : Laid w := (World.cell?_of_block (a := ⟨0, 0, none⟩) (S.toBelow.block 0 hB)).trans h
theorem asNil_any (t : Value) (w : World) : Calls Tryd.prog 92 #[.nilIface, t] w fun e w' => e = .returned (.bool false) ∧ Below w.heap.size w w' :=
  (As.as_nil t w).mono fun e w' ⟨h1, h2⟩ => ⟨h1, by subst h2; exact Below.refl _ _⟩
theorem asHit_any {gf gt : Nat} {v0 : Value} {w : World} (hg : Laid w) (ht : w.heap[gt]? = some (cel 143 [v0])) :
    Calls Tryd.prog 92 #[.iface 143 (.pointer (some ⟨gf, 0, none⟩)), .iface 145 (.pointer (some ⟨gt, 0, none⟩))] w fun e w' => e = .returned (.bool true) ∧ Sys gt w [(gt, cel 143 [.pointer (some ⟨gf, 0, none⟩)])] w' := by
  have hlt := (Array.getElem?_eq_some_iff.1 ht).1
  refine (As.as_hit ⟨gf, 0, none⟩ ⟨gt, 0, none⟩ v0 w hg (by simp [World.cell?, ht]) (by simp [World.frozen?, ht])).mono fun e w' ⟨h1, h2⟩ => ⟨h1, ?_⟩
  subst h2
  have S0 := Sys.start1 (Nat.le_refl gt) ht
  have S1 := S0.box (.cells #[.pointer (some ⟨gt, 0, none⟩)] 145)
  have S2 := S1.box (.cells #[.pointer (some ⟨1, 145, none⟩), .pointer (some ⟨w.heap.size, 0, none⟩), .int .u64 150] 175)
  have S3 := S2.box (.cells #[.pointer (some ⟨1, 145, none⟩), .pointer (some ⟨w.heap.size, 0, none⟩), .int .u64 150] 175)
  have S4 := S3.box (.cells #[.pointer (some ⟨gf, 0, none⟩)] 143)
  generalize hW : (((w.alloc (.cells #[.pointer (some ⟨gt, 0, none⟩)] 145)).alloc (.cells #[.pointer (some ⟨1, 145, none⟩), .pointer (some ⟨w.heap.size, 0, none⟩), .int .u64 150] 175)).alloc (.cells #[.pointer (some ⟨1, 145, none⟩), .pointer (some ⟨w.heap.size, 0, none⟩), .int .u64 150] 175)).alloc (.cells #[.pointer (some ⟨gf, 0, none⟩)] 143) = W at S4 ⊢
  have hWg : W.heap[gt]? = some (cel 143 [v0]) := (S4.own (gt, cel 143 [v0]) (by simp)).2
  have S5 := S4.drop (L' := [(gt, cel 143 [v0])]) (by repeat (first | exact List.Sublist.refl _ | refine List.Sublist.cons _ ?_)) (fun e he => by
    simp only [List.mem_cons, List.not_mem_nil, or_false] at he ⊢
    rcases he with rfl | rfl | rfl | rfl | rfl <;> first | (left; rfl) | (right; simp; done) | (right; simp; omega))
  refine S5.turn (i := 0) (o := cel 143 [v0]) rfl rfl rfl rfl rfl ?_ ?_ ?_
  · simp [World.setCell]
  · simp [World.setCell, Array.getElem?_modify, hWg]
  · intro k hk hne
    exact Below.heap_setCell _ _ _ _ hne
/-- what run answers. -/
def RunR (b : Bas) (s : Sta) (ts : List Tick) (w : World) (v : Value) (w' : World) : Prop :=
  ((runE b s ts ≠ 0 ∧ v = .tuple ⟨[.slice none 0 0, .int .i64 (runE b s ts)]⟩) ∨
   (runE b s ts = 0 ∧ staErr b s = 0 ∧ ts.length ≤ 300 ∧ (∀ k, k < ts.length → errAt b s ts k = 0) ∧ ∃ r ms, v = .tuple ⟨[svV r, .int .i64 0]⟩ ∧ MomRow w' (Btw w.heap.size w'.heap.size) r ms ∧ ms.map Mom.p = momsAt b s ts ts.length)) ∧ Below w.heap.size w w'
theorem badAt_errs {b : Bas} {s : Sta} {ts : List Tick} (h : badAt b s ts = none) : ∀ k, k < ts.length → errAt b s ts k = 0 := by
  unfold badAt at h
  rw [List.find?_eq_none] at h
  intro k hk
  simpa using h k (by simpa using hk)
theorem badAt_err {b : Bas} {s : Sta} {ts : List Tick} {k : Nat} (h : badAt b s ts = some k) : errAt b s ts k ≠ 0 := by
  unfold badAt at h
  rw [List.find?_range_eq_some] at h
  simpa using h.1
theorem runE_bad {b : Bas} {s : Sta} {ts : List Tick} (h : staErr b s ≠ 0) : runE b s ts = staErr b s := by unfold runE; rw [if_pos h]
theorem runE_long {b : Bas} {s : Sta} {ts : List Tick} (h : staErr b s = 0) (h1 : 300 < ts.length) : runE b s ts = 3 := by unfold runE; rw [if_neg (by simp [h]), if_pos h1]
theorem runE_some {b : Bas} {s : Sta} {ts : List Tick} {k : Nat} (h : staErr b s = 0) (h1 : ¬ 300 < ts.length) (h2 : badAt b s ts = some k) : runE b s ts = errAt b s ts k := by unfold runE; rw [if_neg (by simp [h]), if_neg h1, h2]
theorem runE_none {b : Bas} {s : Sta} {ts : List Tick} (h : staErr b s = 0) (h1 : ¬ 300 < ts.length) (h2 : badAt b s ts = none) : runE b s ts = 0 := by unfold runE; rw [if_neg (by simp [h]), if_neg h1, h2]
theorem targ_con : conB (Tryd.prog.underlying 145) = true := by kernel_rfl
set_option maxHeartbeats 8000000 in
theorem run_any {p : BV} {b : Bas} {q r : SV} {s : Sta} {ts : List Tick} {w : World} (hL : Laid w) (hb : BasAt w w.heap.size p b) (hq : IntsAt w (Lt w.heap.size) q s.fil) (ht : TksAt w (Lt w.heap.size) r ts) :
    Calls Tryd.prog 55 #[basV p b, staV q s, svV r] w fun e w' => ∃ v, e = .returned v ∧ RunR b s ts w v w' := by
  obtain ⟨A, n, c⟩ := r
  have hn := ht.len
  have hmax := ht.max
  simp only at hn hmax
  subst hn
  simp only [basV, basC, staV, staC, svV]
  refine enter Tryd.func55 rfl Tryd.ntmps55 rfl ?_; simp only [frame, Nat.zero_add, Nat.reduceAdd]
  repeat (first | (refine M0 ?_; first | refine O0 ?_ | refine z1 tok rfl ?_ | refine O1 rfl ?_ rfl | refine O2 rfl ?_ | refine O3 rfl ?_ rfl | refine U0 _ (Ev.call (f := 19) (ck rfl) rfl (fun w S => (checkState_any (hb.sys S) (hq.arg S) :))) rfl ?_ | refine O4 rfl rfl rfl (fun _ _ => ?_) | refine O5 tok rfl rfl rfl (fun _ _ => ?_) | refine U0 _ (U2 rfl) rfl ?_ | refine U0 _ (U3 tok rfl rfl rfl rfl rfl) rfl ?_ | refine z3 tok rfl ?_ | refine U0 _ (U4 rfl rfl) rfl ?_ | refine U0 _ (U5 rfl rfl) rfl ?_) | (refine M1 ?_; first | refine J0 ?_ | refine J1 ?_ | refine J2 mixed rfl (by kernel_rfl) ?_ | refine J3 mixed rfl rfl (by kernel_rfl) ?_ | refine J4 ?_ | refine J5 ?_ | refine J6 ?_ | refine J7 ?_ | refine J8 rfl ?_ | refine J9 rfl ?_) | (refine M2 ?_; first | refine I0 ?_ | refine I1 ?_ | refine I2 ?_ | refine I3 ?_ | refine I4 ?_ | refine I5 ?_ | refine I6 rfl ?_ | refine I7 ?_ | refine I8 ?_ | refine z4 ?_) | (refine M3 ?_; first | refine O6 ?_ | refine z2 tok rfl ?_ | refine O8 rfl ?_ | refine O7 rfl ?_ rfl | refine O9 rfl ?_ rfl | refine U1 _ (Ev.call (f := 19) (ck rfl) rfl (fun w S => (checkState_any (hb.sys S) (hq.arg S) :))) rfl ?_ | refine U1 _ (U4 rfl rfl) rfl ?_ | refine U1 _ (U5 rfl rfl) rfl ?_ | refine U1 _ (U2 rfl) rfl ?_ | refine U1 _ (U3 tok rfl rfl rfl rfl rfl) rfl ?_) | (refine M4 ?_; first | refine M6 ?_ | refine U6 rfl (by kernel_rfl) ?_ | refine U7 (by kernel_rfl) ?_) | (refine M5 ?_; first | exact M7 | refine U8 rfl ?_ | refine U9 rfl rfl ?_ ?_))
  rename_i g3 hg3 g4 hg4
  refine XL.split _ _ rfl (fun h0 => ?_) (fun h0 => ?_) <;> rw [h0]
  rotate_left
  · have hE : staErr b s ≠ 0 := by simpa using h0
    repeat (first | (refine M0 ?_; first | refine O0 ?_ | refine z1 tok rfl ?_ | refine O1 rfl ?_ rfl | refine O2 rfl ?_ | refine O3 rfl ?_ rfl | refine O4 rfl rfl rfl (fun _ _ => ?_) | refine O5 tok rfl rfl rfl (fun _ _ => ?_) | refine U0 _ (U2 rfl) rfl ?_ | refine U0 _ (U3 tok rfl rfl rfl rfl rfl) rfl ?_ | refine z3 tok rfl ?_ | refine U0 _ (U4 rfl rfl) rfl ?_ | refine U0 _ (U5 rfl rfl) rfl ?_) | (refine M1 ?_; first | refine J0 ?_ | refine J1 ?_ | refine J2 mixed rfl (by kernel_rfl) ?_ | refine J3 mixed rfl rfl (by kernel_rfl) ?_ | refine J4 ?_ | refine J5 ?_ | refine J6 ?_ | refine J7 ?_ | refine J8 rfl ?_ | refine J9 rfl ?_) | (refine M2 ?_; first | refine I0 ?_ | refine I1 ?_ | refine I2 ?_ | refine I3 ?_ | refine I4 ?_ | refine I5 ?_ | refine I6 rfl ?_ | refine I7 ?_ | refine I8 ?_ | refine z4 ?_) | (refine M3 ?_; first | refine O6 ?_ | refine z2 tok rfl ?_ | refine O8 rfl ?_ | refine O7 rfl ?_ rfl | refine O9 rfl ?_ rfl | refine U1 _ (U4 rfl rfl) rfl ?_ | refine U1 _ (U5 rfl rfl) rfl ?_ | refine U1 _ (U2 rfl) rfl ?_ | refine U1 _ (U3 tok rfl rfl rfl rfl rfl) rfl ?_) | (refine M4 ?_; first | refine M6 ?_ | refine U6 rfl (by kernel_rfl) ?_ | refine U7 (by kernel_rfl) ?_) | (refine M5 ?_; first | exact M7 | refine U8 rfl ?_ | refine U9 rfl rfl ?_ ?_))
    refine XC.cond _ rfl (fun h1 => ?_) (fun h1 => absurd hE (by simpa using h1))
    repeat (first | (refine M0 ?_; first | refine O0 ?_ | refine z1 tok rfl ?_ | refine O1 rfl ?_ rfl | refine O2 rfl ?_ | refine O3 rfl ?_ rfl | refine O4 rfl rfl rfl (fun _ _ => ?_) | refine O5 tok rfl rfl rfl (fun _ _ => ?_) | refine U0 _ (U2 rfl) rfl ?_ | refine U0 _ (U3 tok rfl rfl rfl rfl rfl) rfl ?_ | refine z3 tok rfl ?_ | refine U0 _ (U4 rfl rfl) rfl ?_ | refine U0 _ (U5 rfl rfl) rfl ?_) | (refine M1 ?_; first | refine J0 ?_ | refine J1 ?_ | refine J2 mixed rfl (by kernel_rfl) ?_ | refine J3 mixed rfl rfl (by kernel_rfl) ?_ | refine J4 ?_ | refine J5 ?_ | refine J6 ?_ | refine J7 ?_ | refine J8 rfl ?_ | refine J9 rfl ?_) | (refine M2 ?_; first | refine I0 ?_ | refine I1 ?_ | refine I2 ?_ | refine I3 ?_ | refine I4 ?_ | refine I5 ?_ | refine I6 rfl ?_ | refine I7 ?_ | refine I8 ?_ | refine z4 ?_) | (refine M3 ?_; first | refine O6 ?_ | refine z2 tok rfl ?_ | refine O8 rfl ?_ | refine O7 rfl ?_ rfl | refine O9 rfl ?_ rfl | refine U1 _ (U4 rfl rfl) rfl ?_ | refine U1 _ (U5 rfl rfl) rfl ?_ | refine U1 _ (U2 rfl) rfl ?_ | refine U1 _ (U3 tok rfl rfl rfl rfl rfl) rfl ?_) | (refine M4 ?_; first | refine M6 ?_ | refine U6 rfl (by kernel_rfl) ?_ | refine U7 (by kernel_rfl) ?_) | (refine M5 ?_; first | exact M7 | refine U8 rfl ?_ | refine U9 rfl rfl ?_ ?_))
    refine XE.retg tok Tryd.results55 rfl (by simp only [and_self, and_true]) (fun w' S => ?_)
    exact ⟨_, rfl, .inl ⟨by rw [runE_bad hE]; exact hE, by rw [runE_bad hE]; rfl⟩, S.toBelow⟩
  have hE : staErr b s = 0 := by simpa using h0
  obtain ⟨ho, hs⟩ := staOk_of hE
  repeat (first | (refine M0 ?_; first | refine O0 ?_ | refine z1 tok rfl ?_ | refine O1 rfl ?_ rfl | refine O2 rfl ?_ | refine O3 rfl ?_ rfl | refine O4 rfl rfl rfl (fun _ _ => ?_) | refine O5 tok rfl rfl rfl (fun _ _ => ?_) | refine U0 _ (U2 rfl) rfl ?_ | refine U0 _ (U3 tok rfl rfl rfl rfl rfl) rfl ?_ | refine z3 tok rfl ?_ | refine U0 _ (U4 rfl rfl) rfl ?_ | refine U0 _ (U5 rfl rfl) rfl ?_) | (refine M1 ?_; first | refine J0 ?_ | refine J1 ?_ | refine J2 mixed rfl (by kernel_rfl) ?_ | refine J3 mixed rfl rfl (by kernel_rfl) ?_ | refine J4 ?_ | refine J5 ?_ | refine J6 ?_ | refine J7 ?_ | refine J8 rfl ?_ | refine J9 rfl ?_) | (refine M2 ?_; first | refine I0 ?_ | refine I1 ?_ | refine I2 ?_ | refine I3 ?_ | refine I4 ?_ | refine I5 ?_ | refine I6 rfl ?_ | refine I7 ?_ | refine I8 ?_ | refine z4 ?_) | (refine M3 ?_; first | refine O6 ?_ | refine z2 tok rfl ?_ | refine O8 rfl ?_ | refine O7 rfl ?_ rfl | refine O9 rfl ?_ rfl | refine U1 _ (U4 rfl rfl) rfl ?_ | refine U1 _ (U5 rfl rfl) rfl ?_ | refine U1 _ (U2 rfl) rfl ?_ | refine U1 _ (U3 tok rfl rfl rfl rfl rfl) rfl ?_) | (refine M4 ?_; first | refine M6 ?_ | refine U6 rfl (by kernel_rfl) ?_ | refine U7 (by kernel_rfl) ?_) | (refine M5 ?_; first | exact M7 | refine U8 rfl ?_ | refine U9 rfl rfl ?_ ?_))
  refine XC.cond _ rfl (fun h1 => ?_) (fun h1 => ?_)
  · have h3 : 300 < ts.length := by
      have : (300 : Int) < ts.length := by simpa using h1
      omega
    repeat (first | (refine M0 ?_; first | refine O0 ?_ | refine z1 tok rfl ?_ | refine O1 rfl ?_ rfl | refine O2 rfl ?_ | refine O3 rfl ?_ rfl | refine O4 rfl rfl rfl (fun _ _ => ?_) | refine O5 tok rfl rfl rfl (fun _ _ => ?_) | refine U0 _ (U2 rfl) rfl ?_ | refine U0 _ (U3 tok rfl rfl rfl rfl rfl) rfl ?_ | refine z3 tok rfl ?_ | refine U0 _ (U4 rfl rfl) rfl ?_ | refine U0 _ (U5 rfl rfl) rfl ?_) | (refine M1 ?_; first | refine J0 ?_ | refine J1 ?_ | refine J2 mixed rfl (by kernel_rfl) ?_ | refine J3 mixed rfl rfl (by kernel_rfl) ?_ | refine J4 ?_ | refine J5 ?_ | refine J6 ?_ | refine J7 ?_ | refine J8 rfl ?_ | refine J9 rfl ?_) | (refine M2 ?_; first | refine I0 ?_ | refine I1 ?_ | refine I2 ?_ | refine I3 ?_ | refine I4 ?_ | refine I5 ?_ | refine I6 rfl ?_ | refine I7 ?_ | refine I8 ?_ | refine z4 ?_) | (refine M3 ?_; first | refine O6 ?_ | refine z2 tok rfl ?_ | refine O8 rfl ?_ | refine O7 rfl ?_ rfl | refine O9 rfl ?_ rfl | refine U1 _ (U4 rfl rfl) rfl ?_ | refine U1 _ (U5 rfl rfl) rfl ?_ | refine U1 _ (U2 rfl) rfl ?_ | refine U1 _ (U3 tok rfl rfl rfl rfl rfl) rfl ?_) | (refine M4 ?_; first | refine M6 ?_ | refine U6 rfl (by kernel_rfl) ?_ | refine U7 (by kernel_rfl) ?_) | (refine M5 ?_; first | exact M7 | refine U8 rfl ?_ | refine U9 rfl rfl ?_ ?_))
    refine XE.retg tok Tryd.results55 rfl (by simp only [and_self, and_true]) (fun w' S => ?_)
    exact ⟨_, rfl, .inl ⟨by rw [runE_long hE h3]; decide, by rw [runE_long hE h3]; rfl⟩, S.toBelow⟩
  have h3 : ¬ 300 < ts.length := by
    have : ¬ (300 : Int) < ts.length := by simpa using h1
    omega
  repeat (first | (refine M0 ?_; first | refine O0 ?_ | refine z1 tok rfl ?_ | refine O1 rfl ?_ rfl | refine O2 rfl ?_ | refine O3 rfl ?_ rfl | refine O4 rfl rfl rfl (fun _ _ => ?_) | refine O5 tok rfl rfl rfl (fun _ _ => ?_) | refine U0 _ (U2 rfl) rfl ?_ | refine U0 _ (U3 tok rfl rfl rfl rfl rfl) rfl ?_ | refine z3 tok rfl ?_ | refine U0 _ (U4 rfl rfl) rfl ?_ | refine U0 _ (U5 rfl rfl) rfl ?_) | (refine M1 ?_; first | refine J0 ?_ | refine J1 ?_ | refine J2 mixed rfl (by kernel_rfl) ?_ | refine J3 mixed rfl rfl (by kernel_rfl) ?_ | refine J4 ?_ | refine J5 ?_ | refine J6 ?_ | refine J7 ?_ | refine J8 rfl ?_ | refine J9 rfl ?_) | (refine M2 ?_; first | refine I0 ?_ | refine I1 ?_ | refine I2 ?_ | refine I3 ?_ | refine I4 ?_ | refine I5 ?_ | refine I6 rfl ?_ | refine I7 ?_ | refine I8 ?_ | refine z4 ?_) | (refine M3 ?_; first | refine O6 ?_ | refine z2 tok rfl ?_ | refine O8 rfl ?_ | refine O7 rfl ?_ rfl | refine O9 rfl ?_ rfl | refine U1 _ (U4 rfl rfl) rfl ?_ | refine U1 _ (U5 rfl rfl) rfl ?_ | refine U1 _ (U2 rfl) rfl ?_ | refine U1 _ (U3 tok rfl rfl rfl rfl rfl) rfl ?_) | (refine M4 ?_; first | refine M6 ?_ | refine U6 rfl (by kernel_rfl) ?_ | refine U7 (by kernel_rfl) ?_) | (refine M5 ?_; first | exact M7 | refine U8 rfl ?_ | refine U9 rfl rfl ?_ ?_))
  refine XC.cond _ rfl (fun h2 => absurd hE (by simpa using h2)) (fun h2 => ?_)
  repeat (first | (refine M0 ?_; first | refine O0 ?_ | refine z1 tok rfl ?_ | refine O1 rfl ?_ rfl | refine O2 rfl ?_ | refine O3 rfl ?_ rfl | refine O4 rfl rfl rfl (fun _ _ => ?_) | refine O5 tok rfl rfl rfl (fun _ _ => ?_) | refine U0 _ (U2 rfl) rfl ?_ | refine U0 _ (U3 tok rfl rfl rfl rfl rfl) rfl ?_ | refine z3 tok rfl ?_ | refine U0 _ (U4 rfl rfl) rfl ?_ | refine U0 _ (U5 rfl rfl) rfl ?_) | (refine M1 ?_; first | refine J0 ?_ | refine J1 ?_ | refine J2 mixed rfl (by kernel_rfl) ?_ | refine J3 mixed rfl rfl (by kernel_rfl) ?_ | refine J4 ?_ | refine J5 ?_ | refine J6 ?_ | refine J7 ?_ | refine J8 rfl ?_ | refine J9 rfl ?_) | (refine M2 ?_; first | refine I0 ?_ | refine I1 ?_ | refine I2 ?_ | refine I3 ?_ | refine I4 ?_ | refine I5 ?_ | refine I6 rfl ?_ | refine I7 ?_ | refine I8 ?_ | refine z4 ?_) | (refine M3 ?_; first | refine O6 ?_ | refine z2 tok rfl ?_ | refine O8 rfl ?_ | refine O7 rfl ?_ rfl | refine O9 rfl ?_ rfl | refine U1 _ (U4 rfl rfl) rfl ?_ | refine U1 _ (U5 rfl rfl) rfl ?_ | refine U1 _ (U2 rfl) rfl ?_ | refine U1 _ (U3 tok rfl rfl rfl rfl rfl) rfl ?_) | (refine M4 ?_; first | refine M6 ?_ | refine U6 rfl (by kernel_rfl) ?_ | refine U7 (by kernel_rfl) ?_) | (refine M5 ?_; first | exact M7 | refine U8 rfl ?_ | refine U9 rfl rfl ?_ ?_))
  refine XL.call (fst := []) (cap := []) (ck rfl) rfl rfl rfl (List.Sublist.refl _) (fun w1 v w2 => AllR b s ts w1 v w2)
    (fun w1 S1 => (all_any (p := p) (q := q) (r := ⟨A, ts.length, c⟩) (hb.sys S1) (hq.arg S1) (ht.arg S1) ho hs (by omega)).mono fun e w' ⟨v, h, h4⟩ => ⟨v, h, h4, h4.2⟩) (fun w1 v w2 S1 hR hB S2 => ?_)
  rcases hR.1 with ⟨hbad, rm, ms, rfl, hrow, hms⟩ | ⟨k, gf, hbad, rfl, hgf, hcell⟩
  · simp only [svV]
    repeat (first | (refine M0 ?_; first | refine O0 ?_ | refine z1 tok rfl ?_ | refine O1 rfl ?_ rfl | refine O2 rfl ?_ | refine O3 rfl ?_ rfl | refine U0 _ (Ev.makeI targ_con rfl) rfl ?_ | refine U0 _ (Ev.call (f := 92) (ck rfl) rfl (fun w S => asNil_any _ w)) rfl ?_ | refine O4 rfl rfl rfl (fun _ _ => ?_) | refine O5 tok rfl rfl rfl (fun _ _ => ?_) | refine U0 _ (U2 rfl) rfl ?_ | refine U0 _ (U3 tok rfl rfl rfl rfl rfl) rfl ?_ | refine z3 tok rfl ?_ | refine U0 _ (U4 rfl rfl) rfl ?_ | refine U0 _ (U5 rfl rfl) rfl ?_) | (refine M1 ?_; first | refine J0 ?_ | refine J1 ?_ | refine J2 mixed rfl (by kernel_rfl) ?_ | refine J3 mixed rfl rfl (by kernel_rfl) ?_ | refine J4 ?_ | refine J5 ?_ | refine J6 ?_ | refine J7 ?_ | refine J8 rfl ?_ | refine J9 rfl ?_) | (refine M2 ?_; first | refine I0 ?_ | refine I1 ?_ | refine I2 ?_ | refine I3 ?_ | refine I4 ?_ | refine I5 ?_ | refine I6 rfl ?_ | refine I7 ?_ | refine I8 ?_ | refine z4 ?_) | (refine M3 ?_; first | refine O6 ?_ | refine z2 tok rfl ?_ | refine O8 rfl ?_ | refine O7 rfl ?_ rfl | refine O9 rfl ?_ rfl | refine U1 _ (Ev.makeI targ_con rfl) rfl ?_ | refine U1 _ (Ev.call (f := 92) (ck rfl) rfl (fun w S => asNil_any _ w)) rfl ?_ | refine U1 _ (U4 rfl rfl) rfl ?_ | refine U1 _ (U5 rfl rfl) rfl ?_ | refine U1 _ (U2 rfl) rfl ?_ | refine U1 _ (U3 tok rfl rfl rfl rfl rfl) rfl ?_) | (refine M4 ?_; first | refine M6 ?_ | refine U6 rfl (by kernel_rfl) ?_ | refine U7 (by kernel_rfl) ?_) | (refine M5 ?_; first | exact M7 | refine U8 rfl ?_ | refine U9 rfl rfl ?_ ?_))
    refine XE.retg tok Tryd.results55 rfl (by simp only [and_self, and_true]) (fun w' S => ?_)
    have hk : Keep (Btw w1.heap.size w2.heap.size) w2 _ := Keep.made S1 (Nat.le_refl _)
    have hcl : ∀ j, Btw w1.heap.size w2.heap.size j → Btw w.heap.size w'.heap.size j := fun j hj => ⟨Nat.le_trans S1.size hj.1, Nat.lt_of_lt_of_le hj.2 S.size⟩
    have hkk := (hk.new (g := _) (o := _) (by assumption)).sysT S rfl
    refine ⟨_, rfl, .inr ⟨runE_none hE h3 hbad, hE, by omega, badAt_errs hbad, rm, ms, rfl, ⟨(hrow.rd.keep hkk).mono hcl, hrow.max, fun m hm => ?_⟩, hms⟩, S2.toBelow.trans S.toBelow⟩
    obtain ⟨i1, i2⟩ := hrow.ins m hm
    exact ⟨(i1.keep hkk).mono hcl, (i2.keep hkk).mono hcl⟩
  · repeat (first | (refine M0 ?_; first | refine O0 ?_ | refine z1 tok rfl ?_ | refine O1 rfl ?_ rfl | refine O2 rfl ?_ | refine O3 rfl ?_ rfl | refine U0 _ (Ev.makeI targ_con rfl) rfl ?_ | refine O4 rfl rfl rfl (fun _ _ => ?_) | refine O5 tok rfl rfl rfl (fun _ _ => ?_) | refine U0 _ (U2 rfl) rfl ?_ | refine U0 _ (U3 tok rfl rfl rfl rfl rfl) rfl ?_ | refine z3 tok rfl ?_ | refine U0 _ (U4 rfl rfl) rfl ?_ | refine U0 _ (U5 rfl rfl) rfl ?_) | (refine M1 ?_; first | refine J0 ?_ | refine J1 ?_ | refine J2 mixed rfl (by kernel_rfl) ?_ | refine J3 mixed rfl rfl (by kernel_rfl) ?_ | refine J4 ?_ | refine J5 ?_ | refine J6 ?_ | refine J7 ?_ | refine J8 rfl ?_ | refine J9 rfl ?_) | (refine M2 ?_; first | refine I0 ?_ | refine I1 ?_ | refine I2 ?_ | refine I3 ?_ | refine I4 ?_ | refine I5 ?_ | refine I6 rfl ?_ | refine I7 ?_ | refine I8 ?_ | refine z4 ?_) | (refine M3 ?_; first | refine O6 ?_ | refine z2 tok rfl ?_ | refine O8 rfl ?_ | refine O7 rfl ?_ rfl | refine O9 rfl ?_ rfl | refine U1 _ (Ev.makeI targ_con rfl) rfl ?_ | refine U1 _ (U4 rfl rfl) rfl ?_ | refine U1 _ (U5 rfl rfl) rfl ?_ | refine U1 _ (U2 rfl) rfl ?_ | refine U1 _ (U3 tok rfl rfl rfl rfl rfl) rfl ?_) | (refine M4 ?_; first | refine M6 ?_ | refine U6 rfl (by kernel_rfl) ?_ | refine U7 (by kernel_rfl) ?_) | (refine M5 ?_; first | exact M7 | refine U8 rfl ?_ | refine U9 rfl rfl ?_ ?_))
    rename_i gt hgt
    have hgf2 : gf < w2.heap.size := (Array.getElem?_eq_some_iff.1 hcell).1
    have hL2 : Laid w2 := hL.below S2.toBelow
    refine XL.callT (fst := []) (cap := []) (B' := gt) 0 (ck rfl) rfl rfl rfl rfl rfl (fun w3 S3 => asHit_any (gf := gf) (hL2.sys S3 hL.pos) (S3.own _ List.mem_cons_self).2) ?_
    have hnk : ∀ j, j ∈ [gt, g4, g3] → j ≠ gf := fun j hj e2 => by
      rcases List.mem_cons.1 hj with rfl | hj
      · omega
      · have := S1.keyLt j hj
        omega
    have hcv : w2.cell? ((⟨gf, 0, none⟩ : Addr).add 1) = some (.int .i64 (errAt b s ts k)) := by
      rw [add_off]; simp [World.cell?, hcell]
    repeat (first | (refine M0 ?_; first | refine O0 ?_ | refine z1 tok rfl ?_ | refine O1 rfl ?_ rfl | refine O2 rfl ?_ | refine O3 rfl ?_ rfl | refine U0 _ (Ev.load_far tok (ad := (⟨gf, 0, none⟩ : Addr).add 1) rfl rfl hgf2 (fun e he => hnk e.1 (List.mem_map.2 ⟨e, he, rfl⟩)) hcv) rfl ?_ | refine O4 rfl rfl rfl (fun _ _ => ?_) | refine O5 tok rfl rfl rfl (fun _ _ => ?_) | refine U0 _ (U2 rfl) rfl ?_ | refine U0 _ (U3 tok rfl rfl rfl rfl rfl) rfl ?_ | refine z3 tok rfl ?_ | refine U0 _ (U4 rfl rfl) rfl ?_ | refine U0 _ (U5 rfl rfl) rfl ?_) | (refine M1 ?_; first | refine J0 ?_ | refine J1 ?_ | refine J2 mixed rfl (by kernel_rfl) ?_ | refine J3 mixed rfl rfl (by kernel_rfl) ?_ | refine J4 ?_ | refine J5 ?_ | refine J6 ?_ | refine J7 ?_ | refine J8 rfl ?_ | refine J9 rfl ?_) | (refine M2 ?_; first | refine I0 ?_ | refine I1 ?_ | refine I2 ?_ | refine I3 ?_ | refine I4 ?_ | refine I5 ?_ | refine I6 rfl ?_ | refine I7 ?_ | refine I8 ?_ | refine z4 ?_) | (refine M3 ?_; first | refine O6 ?_ | refine z2 tok rfl ?_ | refine O8 rfl ?_ | refine O7 rfl ?_ rfl | refine O9 rfl ?_ rfl | refine U1 _ (Ev.load_far tok (ad := (⟨gf, 0, none⟩ : Addr).add 1) rfl rfl hgf2 (fun e he => hnk e.1 (List.mem_map.2 ⟨e, he, rfl⟩)) hcv) rfl ?_ | refine U1 _ (U4 rfl rfl) rfl ?_ | refine U1 _ (U5 rfl rfl) rfl ?_ | refine U1 _ (U2 rfl) rfl ?_ | refine U1 _ (U3 tok rfl rfl rfl rfl rfl) rfl ?_) | (refine M4 ?_; first | refine M6 ?_ | refine U6 rfl (by kernel_rfl) ?_ | refine U7 (by kernel_rfl) ?_) | (refine M5 ?_; first | exact M7 | refine U8 rfl ?_ | refine U9 rfl rfl ?_ ?_))
    refine XE.retg tok Tryd.results55 rfl (by simp only [and_self, and_true]) (fun w' S => ?_)
    exact ⟨_, rfl, .inl ⟨by rw [runE_some hE h3 hbad]; exact badAt_err hbad, by rw [runE_some hE h3 hbad]; rfl⟩, S2.toBelow.trans S.toBelow⟩
end Go.Proofs.YtoiepgcjinccpaaDoor.X
