/-
  The walk of the document's Total.
-/
import Derived.Test.YtoiepgcjinccpaaDoorPart4
import Derived.Deep.Slices
import Derived.WideShapes
import Derived.ChangeArms
import Derived.ChangeOld
set_option linter.unusedVariables false
set_option linter.unusedSimpArgs false
namespace Go.Proofs.YtoiepgcjinccpaaDoor.Bs
/-- the error that stands ahead of the flows; and ahead of their numbers. -/
noncomputable def totE1 (b : Bas) (l : List Flo) : Int := if chkE b ≠ 0 then chkE b else if 300 < l.length then 3 else 0
noncomputable def totE2 (b : Bas) (l : List Flo) : Int := if totE1 b l ≠ 0 then totE1 b l else if l.any (floShort b) = true then 2 else 0
theorem totE_eq (b : Bas) (l : List Flo) : totE b l = if totE2 b l ≠ 0 then totE2 b l else if l.any floBad = true then 7 else 0 := by
  unfold totE totE2 totE1
  by_cases h : chkE b = 0
  · by_cases h1 : 300 < l.length
    · simp [h, h1]
    · by_cases h2 : l.any (floShort b) = true
      · simp [h, h1, h2]
      · simp [h, h1, h2]
  · simp [h]
theorem tot2_inv {b : Bas} {l : List Flo} (h : totE2 b l = 0) : chkE b = 0 ∧ ¬ 300 < l.length ∧ l.any (floShort b) = false := by
  unfold totE2 totE1 at h
  by_cases h0 : chkE b = 0
  · by_cases h1 : 300 < l.length
    · simp [h0, h1] at h
    · cases h2 : l.any (floShort b) with
      | true => simp [h0, h1, h2] at h
      | false => exact ⟨h0, h1, rfl⟩
  · simp [h0] at h
theorem totF_n {b : Bas} {l : List Flo} (h : totE b l ≠ 0) : totF b l = ⟨0, 0, 0, 0, []⟩ := by unfold totF; rw [if_pos h]
/-- whether a flow below k is so. -/
theorem any_upto {l : List Flo} {P : Flo → Bool} {k : Nat} (hk : k = l.length) (h : ∀ j, j < k → P (fl l j) = false) : l.any P = false := by
  subst hk
  refine List.any_eq_false.2 fun x hx => ?_
  obtain ⟨j, hj, rfl⟩ := List.mem_iff_getElem.1 hx
  have := h j hj
  simp only [fl, List.getElem?_eq_getElem hj, Option.getD_some] at this
  simp [this]
theorem tot_inv {b : Bas} {l : List Flo} (h : totE b l = 0) : chkE b = 0 ∧ ¬ 300 < l.length ∧ l.any (floShort b) = false ∧ l.any floBad = false := by
  by_cases h0 : chkE b = 0
  · by_cases h1 : 300 < l.length
    · rw [(tot_3 h0 h1).1] at h; cases h
    · cases h2 : l.any (floShort b) with
      | true => rw [(tot_2 h0 h1 h2).1] at h; cases h
      | false =>
        cases h3 : l.any floBad with
        | true => rw [(tot_7 h0 h1 h2 h3).1] at h; cases h
        | false => exact ⟨h0, h1, rfl, rfl⟩
  · rw [(tot_c h0).1] at h; exact absurd h h0
theorem any_one {l : List Flo} {P : Flo → Bool} {k : Nat} (hk : k < l.length) (h : P (fl l k) = true) : l.any P = true := List.any_eq_true.2 ⟨_, fl_mem hk, h⟩
end Go.Proofs.YtoiepgcjinccpaaDoor.Bs
namespace Go.Proofs.YtoiepgcjinccpaaDoor.X
open Go Go.RowKit Go.Proofs.YtoiepgcjinccpaaDoor.Bs
set_option linter.unusedVariables false
theorem IntsAt.list {w : World} {ok : Nat → Prop} {r : SV} {l : List Int} (h : IntsAt w ok r l) : ListAt intK w ok r l := ⟨by rw [ints_flat']; exact h.rd, h.max, fun a ha x hx => by cases hx⟩
theorem int_all (a : Int) : (intK.c a).all Value.oneCell' = true := rfl
set_option maxHeartbeats 16000000 in
theorem refTotal_any {p : BV} {b : Bas} {r : SV} {fs : List FloI} {w : World} (hb : BasAt w w.heap.size p b) (hr : ListAt floK w (Lt w.heap.size) r fs) :
    Calls Tryd.prog 43 #[basV p b, svV r] w (Made w (TotV b (fs.map (·.f)))) := by
  obtain ⟨A, n, c, A2, n2, c2⟩ := p
  have hn2 := hb.n2_eq
  simp only at hn2
  subst hn2
  obtain ⟨Ar, nr, cr⟩ := r
  have hnr := hr.len (by decide)
  have hmax := hr.max
  simp only at hnr hmax
  subst hnr
  obtain ⟨l, hl⟩ : ∃ l, l = fs.map (·.f) := ⟨_, rfl⟩
  have hll : l.length = fs.length := by rw [hl]; simp
  have hlen : ∀ m, m ∈ fs → m.r.n = m.f.taken.length := fun m hm => (hr.ins m hm (hInts _ _) (.head _) : IntsAt _ _ _ _).len
  rw [← hl]
  simp only [basV, basC, svV]
  refine enter Tryd.func43 rfl Tryd.ntmps43 rfl ?_; simp only [frame, Nat.zero_add, Nat.reduceAdd]
  refine XC.seq (XC.region ?_)
  repeat (first | (refine M0 ?_; first | refine O0 ?_ | refine z1 tok rfl ?_ | refine O1 rfl ?_ rfl | refine O2 rfl ?_ | refine O3 rfl ?_ rfl | refine O4 rfl rfl rfl (fun _ _ => ?_) | refine O5 tok rfl rfl rfl (fun _ _ => ?_) | refine U0 _ (U2 rfl) rfl ?_ | refine U0 _ (U3 tok rfl rfl rfl rfl rfl) rfl ?_ | refine z3 tok rfl ?_ | refine U0 _ (U4 rfl rfl) rfl ?_ | refine U0 _ (U5 rfl rfl) rfl ?_) | (refine M2 ?_; first | refine I0 ?_ | refine I1 ?_ | refine I2 ?_ | refine I3 ?_ | refine I4 ?_ | refine I5 ?_ | refine I6 rfl ?_ | refine I7 ?_ | refine I8 ?_ | refine z4 ?_) | (refine M3 ?_; first | refine O6 ?_ | refine z2 tok rfl ?_ | refine O8 rfl ?_ | refine O7 rfl ?_ rfl | refine O9 rfl ?_ rfl | refine U1 _ (U4 rfl rfl) rfl ?_ | refine U1 _ (U5 rfl rfl) rfl ?_ | refine U1 _ (U2 rfl) rfl ?_ | refine U1 _ (U3 tok rfl rfl rfl rfl rfl) rfl ?_) | (refine M4 ?_; first | refine M6 ?_ | refine U6 rfl (by kernel_rfl) ?_ | refine XR.take2 rfl (by kernel_rfl) ?_ | refine U7 (by kernel_rfl) ?_) | (refine M5 ?_; first | exact M7 | refine U8 rfl ?_ | refine U9 rfl rfl ?_ ?_))
  refine XC.seq (XC.region ?_)
  repeat (first | (refine M0 ?_; first | refine O0 ?_ | refine z1 tok rfl ?_ | refine O1 rfl ?_ rfl | refine O2 rfl ?_ | refine O3 rfl ?_ rfl | refine U0 _ (Ev.call (f := 52) (ck rfl) rfl (fun w S => (good_any (p := ⟨A, n, c, A2, b.pols.length, c2⟩) (hb.sys S) :))) rfl ?_ | refine O4 rfl rfl rfl (fun _ _ => ?_) | refine O5 tok rfl rfl rfl (fun _ _ => ?_) | refine U0 _ (U2 rfl) rfl ?_ | refine U0 _ (U3 tok rfl rfl rfl rfl rfl) rfl ?_ | refine z3 tok rfl ?_ | refine U0 _ (U4 rfl rfl) rfl ?_ | refine U0 _ (U5 rfl rfl) rfl ?_) | (refine M2 ?_; first | refine I0 ?_ | refine I1 ?_ | refine I2 ?_ | refine I3 ?_ | refine I4 ?_ | refine I5 ?_ | refine I6 rfl ?_ | refine I7 ?_ | refine I8 ?_ | refine z4 ?_) | (refine M3 ?_; first | refine O6 ?_ | refine z2 tok rfl ?_ | refine O8 rfl ?_ | refine O7 rfl ?_ rfl | refine O9 rfl ?_ rfl | refine U1 _ (Ev.call (f := 52) (ck rfl) rfl (fun w S => (good_any (p := ⟨A, n, c, A2, b.pols.length, c2⟩) (hb.sys S) :))) rfl ?_ | refine U1 _ (U4 rfl rfl) rfl ?_ | refine U1 _ (U5 rfl rfl) rfl ?_ | refine U1 _ (U2 rfl) rfl ?_ | refine U1 _ (U3 tok rfl rfl rfl rfl rfl) rfl ?_) | (refine M4 ?_; first | refine M6 ?_ | refine U6 rfl (by kernel_rfl) ?_ | refine XR.take2 rfl (by kernel_rfl) ?_ | refine U7 (by kernel_rfl) ?_) | (refine M5 ?_; first | exact M7 | refine U8 rfl ?_ | refine U9 rfl rfl ?_ ?_))
  rename_i g2 hg2 g4 hg4
  refine XC.seq ?_
  refine XC.cutln [1, 2, 4] rfl (fun _ : Unit => [(6, .int .i64 (totE1 b l))]) (fun _ => []) (fun _ => True) ?_ (fun _ _ => ?_)
  · repeat (first | (refine M0 ?_; first | refine O0 ?_ | refine z1 tok rfl ?_ | refine O1 rfl ?_ rfl | refine O2 rfl ?_ | refine O3 rfl ?_ rfl | refine O4 rfl rfl rfl (fun _ _ => ?_) | refine O5 tok rfl rfl rfl (fun _ _ => ?_) | refine U0 _ (U2 rfl) rfl ?_ | refine U0 _ (U3 tok rfl rfl rfl rfl rfl) rfl ?_ | refine z3 tok rfl ?_ | refine U0 _ (U4 rfl rfl) rfl ?_ | refine U0 _ (U5 rfl rfl) rfl ?_) | (refine M1 ?_; first | refine J0 ?_ | refine J1 ?_ | refine J2 mixed rfl (by kernel_rfl) ?_ | refine J3 mixed rfl rfl (by kernel_rfl) ?_ | refine J4 ?_ | refine J5 ?_ | refine J6 ?_ | refine J7 ?_ | refine J8 rfl ?_ | refine J9 rfl ?_) | (refine M2 ?_; first | refine I0 ?_ | refine I1 ?_ | refine I2 ?_ | refine I3 ?_ | refine I4 ?_ | refine I5 ?_ | refine I6 rfl ?_ | refine I7 ?_ | refine I8 ?_ | refine z4 ?_) | (refine M3 ?_; first | refine O6 ?_ | refine z2 tok rfl ?_ | refine O8 rfl ?_ | refine O7 rfl ?_ rfl | refine O9 rfl ?_ rfl | refine U1 _ (U4 rfl rfl) rfl ?_ | refine U1 _ (U5 rfl rfl) rfl ?_ | refine U1 _ (U2 rfl) rfl ?_ | refine U1 _ (U3 tok rfl rfl rfl rfl rfl) rfl ?_) | (refine M4 ?_; first | refine M6 ?_ | refine U6 rfl (by kernel_rfl) ?_ | refine XR.take2 rfl (by kernel_rfl) ?_ | refine U7 (by kernel_rfl) ?_) | (refine M5 ?_; first | exact M7 | refine U8 rfl ?_ | refine U9 rfl rfl ?_ ?_))
    refine XL.split _ _ rfl (fun h => ?_) (fun h => ?_) <;> rw [h]
    · have h0 : chkE b = 0 := of_decide_eq_true h
      repeat (first | (refine M0 ?_; first | refine O0 ?_ | refine z1 tok rfl ?_ | refine O1 rfl ?_ rfl | refine O2 rfl ?_ | refine O3 rfl ?_ rfl | refine O4 rfl rfl rfl (fun _ _ => ?_) | refine O5 tok rfl rfl rfl (fun _ _ => ?_) | refine U0 _ (U2 rfl) rfl ?_ | refine U0 _ (U3 tok rfl rfl rfl rfl rfl) rfl ?_ | refine z3 tok rfl ?_ | refine U0 _ (U4 rfl rfl) rfl ?_ | refine U0 _ (U5 rfl rfl) rfl ?_) | (refine M1 ?_; first | refine J0 ?_ | refine J1 ?_ | refine J2 mixed rfl (by kernel_rfl) ?_ | refine J3 mixed rfl rfl (by kernel_rfl) ?_ | refine J4 ?_ | refine J5 ?_ | refine J6 ?_ | refine J7 ?_ | refine J8 rfl ?_ | refine J9 rfl ?_) | (refine M2 ?_; first | refine I0 ?_ | refine I1 ?_ | refine I2 ?_ | refine I3 ?_ | refine I4 ?_ | refine I5 ?_ | refine I6 rfl ?_ | refine I7 ?_ | refine I8 ?_ | refine z4 ?_) | (refine M3 ?_; first | refine O6 ?_ | refine z2 tok rfl ?_ | refine O8 rfl ?_ | refine O7 rfl ?_ rfl | refine O9 rfl ?_ rfl | refine U1 _ (U4 rfl rfl) rfl ?_ | refine U1 _ (U5 rfl rfl) rfl ?_ | refine U1 _ (U2 rfl) rfl ?_ | refine U1 _ (U3 tok rfl rfl rfl rfl rfl) rfl ?_) | (refine M4 ?_; first | refine M6 ?_ | refine U6 rfl (by kernel_rfl) ?_ | refine XR.take2 rfl (by kernel_rfl) ?_ | refine U7 (by kernel_rfl) ?_) | (refine M5 ?_; first | exact M7 | refine U8 rfl ?_ | refine U9 rfl rfl ?_ ?_))
      refine XC.cond _ rfl (fun h => ?_) (fun h => ?_)
      · rw [show totE1 b l = 3 by unfold totE1; rw [if_neg (by simp [h0]), if_pos (by have := of_decide_eq_true h; omega)]]
        repeat (first | (refine M0 ?_; first | refine O0 ?_ | refine z1 tok rfl ?_ | refine O1 rfl ?_ rfl | refine O2 rfl ?_ | refine O3 rfl ?_ rfl | refine O4 rfl rfl rfl (fun _ _ => ?_) | refine O5 tok rfl rfl rfl (fun _ _ => ?_) | refine U0 _ (U2 rfl) rfl ?_ | refine U0 _ (U3 tok rfl rfl rfl rfl rfl) rfl ?_ | refine z3 tok rfl ?_ | refine U0 _ (U4 rfl rfl) rfl ?_ | refine U0 _ (U5 rfl rfl) rfl ?_) | (refine M1 ?_; first | refine J0 ?_ | refine J1 ?_ | refine J2 mixed rfl (by kernel_rfl) ?_ | refine J3 mixed rfl rfl (by kernel_rfl) ?_ | refine J4 ?_ | refine J5 ?_ | refine J6 ?_ | refine J7 ?_ | refine J8 rfl ?_ | refine J9 rfl ?_) | (refine M2 ?_; first | refine I0 ?_ | refine I1 ?_ | refine I2 ?_ | refine I3 ?_ | refine I4 ?_ | refine I5 ?_ | refine I6 rfl ?_ | refine I7 ?_ | refine I8 ?_ | refine z4 ?_) | (refine M3 ?_; first | refine O6 ?_ | refine z2 tok rfl ?_ | refine O8 rfl ?_ | refine O7 rfl ?_ rfl | refine O9 rfl ?_ rfl | refine U1 _ (U4 rfl rfl) rfl ?_ | refine U1 _ (U5 rfl rfl) rfl ?_ | refine U1 _ (U2 rfl) rfl ?_ | refine U1 _ (U3 tok rfl rfl rfl rfl rfl) rfl ?_) | (refine M4 ?_; first | refine M6 ?_ | refine U6 rfl (by kernel_rfl) ?_ | refine XR.take2 rfl (by kernel_rfl) ?_ | refine U7 (by kernel_rfl) ?_) | (refine M5 ?_; first | exact M7 | refine U8 rfl ?_ | refine U9 rfl rfl ?_ ?_))
        refine XE.leaf () (by repeat (first | exact Sub.nil | refine Sub.cons rfl ?_)) (fun _ S' => by first | exact S' | exact S'.perm (by repeat (first | exact List.Perm.refl _ | refine perm1 ?_ | refine List.Perm.cons _ ?_ | refine perm2 ?_)) | exact (S'.pop (by assumption)) | exact (S'.pop2 (by assumption))) ?_
        trivial
      · rw [show totE1 b l = chkE b by unfold totE1; rw [if_neg (by simp [h0]), if_neg (by have := of_decide_eq_false h; omega), h0]]
        repeat (first | (refine M0 ?_; first | refine O0 ?_ | refine z1 tok rfl ?_ | refine O1 rfl ?_ rfl | refine O2 rfl ?_ | refine O3 rfl ?_ rfl | refine O4 rfl rfl rfl (fun _ _ => ?_) | refine O5 tok rfl rfl rfl (fun _ _ => ?_) | refine U0 _ (U2 rfl) rfl ?_ | refine U0 _ (U3 tok rfl rfl rfl rfl rfl) rfl ?_ | refine z3 tok rfl ?_ | refine U0 _ (U4 rfl rfl) rfl ?_ | refine U0 _ (U5 rfl rfl) rfl ?_) | (refine M1 ?_; first | refine J0 ?_ | refine J1 ?_ | refine J2 mixed rfl (by kernel_rfl) ?_ | refine J3 mixed rfl rfl (by kernel_rfl) ?_ | refine J4 ?_ | refine J5 ?_ | refine J6 ?_ | refine J7 ?_ | refine J8 rfl ?_ | refine J9 rfl ?_) | (refine M2 ?_; first | refine I0 ?_ | refine I1 ?_ | refine I2 ?_ | refine I3 ?_ | refine I4 ?_ | refine I5 ?_ | refine I6 rfl ?_ | refine I7 ?_ | refine I8 ?_ | refine z4 ?_) | (refine M3 ?_; first | refine O6 ?_ | refine z2 tok rfl ?_ | refine O8 rfl ?_ | refine O7 rfl ?_ rfl | refine O9 rfl ?_ rfl | refine U1 _ (U4 rfl rfl) rfl ?_ | refine U1 _ (U5 rfl rfl) rfl ?_ | refine U1 _ (U2 rfl) rfl ?_ | refine U1 _ (U3 tok rfl rfl rfl rfl rfl) rfl ?_) | (refine M4 ?_; first | refine M6 ?_ | refine U6 rfl (by kernel_rfl) ?_ | refine XR.take2 rfl (by kernel_rfl) ?_ | refine U7 (by kernel_rfl) ?_) | (refine M5 ?_; first | exact M7 | refine U8 rfl ?_ | refine U9 rfl rfl ?_ ?_))
        refine XE.leaf () (by repeat (first | exact Sub.nil | refine Sub.cons rfl ?_)) (fun _ S' => by first | exact S' | exact S'.perm (by repeat (first | exact List.Perm.refl _ | refine perm1 ?_ | refine List.Perm.cons _ ?_ | refine perm2 ?_)) | exact (S'.pop (by assumption)) | exact (S'.pop2 (by assumption))) ?_
        trivial
    · rw [show totE1 b l = chkE b by unfold totE1; rw [if_pos (of_decide_eq_false h)]]
      repeat (first | (refine M0 ?_; first | refine O0 ?_ | refine z1 tok rfl ?_ | refine O1 rfl ?_ rfl | refine O2 rfl ?_ | refine O3 rfl ?_ rfl | refine O4 rfl rfl rfl (fun _ _ => ?_) | refine O5 tok rfl rfl rfl (fun _ _ => ?_) | refine U0 _ (U2 rfl) rfl ?_ | refine U0 _ (U3 tok rfl rfl rfl rfl rfl) rfl ?_ | refine z3 tok rfl ?_ | refine U0 _ (U4 rfl rfl) rfl ?_ | refine U0 _ (U5 rfl rfl) rfl ?_) | (refine M1 ?_; first | refine J0 ?_ | refine J1 ?_ | refine J2 mixed rfl (by kernel_rfl) ?_ | refine J3 mixed rfl rfl (by kernel_rfl) ?_ | refine J4 ?_ | refine J5 ?_ | refine J6 ?_ | refine J7 ?_ | refine J8 rfl ?_ | refine J9 rfl ?_) | (refine M2 ?_; first | refine I0 ?_ | refine I1 ?_ | refine I2 ?_ | refine I3 ?_ | refine I4 ?_ | refine I5 ?_ | refine I6 rfl ?_ | refine I7 ?_ | refine I8 ?_ | refine z4 ?_) | (refine M3 ?_; first | refine O6 ?_ | refine z2 tok rfl ?_ | refine O8 rfl ?_ | refine O7 rfl ?_ rfl | refine O9 rfl ?_ rfl | refine U1 _ (U4 rfl rfl) rfl ?_ | refine U1 _ (U5 rfl rfl) rfl ?_ | refine U1 _ (U2 rfl) rfl ?_ | refine U1 _ (U3 tok rfl rfl rfl rfl rfl) rfl ?_) | (refine M4 ?_; first | refine M6 ?_ | refine U6 rfl (by kernel_rfl) ?_ | refine XR.take2 rfl (by kernel_rfl) ?_ | refine U7 (by kernel_rfl) ?_) | (refine M5 ?_; first | exact M7 | refine U8 rfl ?_ | refine U9 rfl rfl ?_ ?_))
      refine XE.leaf () (by repeat (first | exact Sub.nil | refine Sub.cons rfl ?_)) (fun _ S' => by first | exact S' | exact S'.perm (by repeat (first | exact List.Perm.refl _ | refine perm1 ?_ | refine List.Perm.cons _ ?_ | refine perm2 ?_)) | exact (S'.pop (by assumption)) | exact (S'.pop2 (by assumption))) ?_
      trivial
  dsimp only [List.cons_append, List.nil_append]
  refine XC.seq ?_
  refine XC.cutln [1, 2, 4] rfl (fun _ : Unit => [(6, .int .i64 (totE2 b l))]) (fun _ => []) (fun _ => True) ?_ (fun _ _ => ?_)
  · repeat (first | (refine M0 ?_; first | refine O0 ?_ | refine z1 tok rfl ?_ | refine O1 rfl ?_ rfl | refine O2 rfl ?_ | refine O3 rfl ?_ rfl | refine O4 rfl rfl rfl (fun _ _ => ?_) | refine O5 tok rfl rfl rfl (fun _ _ => ?_) | refine U0 _ (U2 rfl) rfl ?_ | refine U0 _ (U3 tok rfl rfl rfl rfl rfl) rfl ?_ | refine z3 tok rfl ?_ | refine U0 _ (U4 rfl rfl) rfl ?_ | refine U0 _ (U5 rfl rfl) rfl ?_) | (refine M1 ?_; first | refine J0 ?_ | refine J1 ?_ | refine J4 ?_ | refine J5 ?_ | refine J6 ?_ | refine J7 ?_ | refine J8 rfl ?_ | refine J9 rfl ?_) | (refine M2 ?_; first | refine I0 ?_ | refine I1 ?_ | refine I2 ?_ | refine I3 ?_ | refine I4 ?_ | refine I5 ?_ | refine I6 rfl ?_ | refine I7 ?_ | refine I8 ?_ | refine z4 ?_) | (refine M3 ?_; first | refine O6 ?_ | refine z2 tok rfl ?_ | refine O8 rfl ?_ | refine O7 rfl ?_ rfl | refine O9 rfl ?_ rfl | refine U1 _ (U4 rfl rfl) rfl ?_ | refine U1 _ (U5 rfl rfl) rfl ?_ | refine U1 _ (U2 rfl) rfl ?_ | refine U1 _ (U3 tok rfl rfl rfl rfl rfl) rfl ?_) | (refine M4 ?_; first | refine M6 ?_ | refine U6 rfl (by kernel_rfl) ?_ | refine XR.take2 rfl (by kernel_rfl) ?_ | refine U7 (by kernel_rfl) ?_) | (refine M5 ?_; first | exact M7 | refine U8 rfl ?_ | refine U9 rfl rfl ?_ ?_))
    refine XC.loopk [1, 2, 4] rfl (fun s : Nat × Int => [(7, .int .i64 (s.1 : Nat)), (6, .int .i64 s.2)]) (fun _ => [(g4, cel 32 [.int .i64 0, .int .i64 0, .int .i64 0, .int .i64 0, .slice none 0 0]), (g2, cel 25 [.slice A n c, .int .i64 b.leak, .int .i64 b.crest, .int .i64 b.over, .slice A2 b.pols.length c2])]) (fun _ => w)
      (fun s => s.1 ≤ fs.length ∧ ((s.2 = totE1 b l ∧ ∀ j, j < s.1 → floShort b (fl l j) = false) ∨ (totE1 b l = 0 ∧ s.2 = 2 ∧ l.any (floShort b) = true))) (fun s => fs.length - s.1) (0, totE1 b l) ⟨Nat.zero_le _, .inl ⟨rfl, fun j hj => absurd hj (by simp)⟩⟩ (by repeat (first | exact Sub.nil | refine Sub.cons rfl ?_)) (fun _ h => h) ?_
    rintro ⟨k, e⟩ ⟨hk, hI⟩
    simp only at hk hI
    dsimp only [List.cons_append, List.nil_append]
    refine XC.seq (XC.seq ?_)
    refine XC.cutln [1, 2, 4, 6, 7] rfl (fun _ : Unit => [(31, .bool (decide (k < fs.length) && decide (e = 0)))]) (fun _ => []) (fun _ => True) ?_ (fun _ _ => ?_)
    · repeat (first | (refine M0 ?_; first | refine O0 ?_ | refine z1 tok rfl ?_ | refine O1 rfl ?_ rfl | refine O2 rfl ?_ | refine O3 rfl ?_ rfl | refine O4 rfl rfl rfl (fun _ _ => ?_) | refine O5 tok rfl rfl rfl (fun _ _ => ?_) | refine U0 _ (U2 rfl) rfl ?_ | refine U0 _ (U3 tok rfl rfl rfl rfl rfl) rfl ?_ | refine z3 tok rfl ?_ | refine U0 _ (U4 rfl rfl) rfl ?_ | refine U0 _ (U5 rfl rfl) rfl ?_) | (refine M1 ?_; first | refine J0 ?_ | refine J1 ?_ | refine J2 mixed rfl (by kernel_rfl) ?_ | refine J3 mixed rfl rfl (by kernel_rfl) ?_ | refine J4 ?_ | refine J5 ?_ | refine J6 ?_ | refine J7 ?_ | refine J8 rfl ?_ | refine J9 rfl ?_) | (refine M2 ?_; first | refine I0 ?_ | refine I1 ?_ | refine I2 ?_ | refine I3 ?_ | refine I4 ?_ | refine I5 ?_ | refine I6 rfl ?_ | refine I7 ?_ | refine I8 ?_ | refine z4 ?_) | (refine M3 ?_; first | refine O6 ?_ | refine z2 tok rfl ?_ | refine O8 rfl ?_ | refine O7 rfl ?_ rfl | refine O9 rfl ?_ rfl | refine U1 _ (U4 rfl rfl) rfl ?_ | refine U1 _ (U5 rfl rfl) rfl ?_ | refine U1 _ (U2 rfl) rfl ?_ | refine U1 _ (U3 tok rfl rfl rfl rfl rfl) rfl ?_) | (refine M4 ?_; first | refine M6 ?_ | refine U6 rfl (by kernel_rfl) ?_ | refine XR.take2 rfl (by kernel_rfl) ?_ | refine U7 (by kernel_rfl) ?_) | (refine M5 ?_; first | exact M7 | refine U8 rfl ?_ | refine U9 rfl rfl ?_ ?_))
      refine XL.split _ _ rfl (fun h => ?_) (fun h => ?_)
      · have h9 : k < fs.length := by have := of_decide_eq_true h; omega
        rw [h, decide_eq_true h9, Bool.true_and]
        repeat (first | (refine M0 ?_; first | refine O0 ?_ | refine z1 tok rfl ?_ | refine O1 rfl ?_ rfl | refine O2 rfl ?_ | refine O3 rfl ?_ rfl | refine O4 rfl rfl rfl (fun _ _ => ?_) | refine O5 tok rfl rfl rfl (fun _ _ => ?_) | refine U0 _ (U2 rfl) rfl ?_ | refine U0 _ (U3 tok rfl rfl rfl rfl rfl) rfl ?_ | refine z3 tok rfl ?_ | refine U0 _ (U4 rfl rfl) rfl ?_ | refine U0 _ (U5 rfl rfl) rfl ?_) | (refine M1 ?_; first | refine J0 ?_ | refine J1 ?_ | refine J2 mixed rfl (by kernel_rfl) ?_ | refine J3 mixed rfl rfl (by kernel_rfl) ?_ | refine J4 ?_ | refine J5 ?_ | refine J6 ?_ | refine J7 ?_ | refine J8 rfl ?_ | refine J9 rfl ?_) | (refine M2 ?_; first | refine I0 ?_ | refine I1 ?_ | refine I2 ?_ | refine I3 ?_ | refine I4 ?_ | refine I5 ?_ | refine I6 rfl ?_ | refine I7 ?_ | refine I8 ?_ | refine z4 ?_) | (refine M3 ?_; first | refine O6 ?_ | refine z2 tok rfl ?_ | refine O8 rfl ?_ | refine O7 rfl ?_ rfl | refine O9 rfl ?_ rfl | refine U1 _ (U4 rfl rfl) rfl ?_ | refine U1 _ (U5 rfl rfl) rfl ?_ | refine U1 _ (U2 rfl) rfl ?_ | refine U1 _ (U3 tok rfl rfl rfl rfl rfl) rfl ?_) | (refine M4 ?_; first | refine M6 ?_ | refine U6 rfl (by kernel_rfl) ?_ | refine XR.take2 rfl (by kernel_rfl) ?_ | refine U7 (by kernel_rfl) ?_) | (refine M5 ?_; first | exact M7 | refine U8 rfl ?_ | refine U9 rfl rfl ?_ ?_))
        refine XE.leaf () (by repeat (first | exact Sub.nil | refine Sub.cons rfl ?_)) (fun _ S' => by first | exact S' | exact S'.perm (by repeat (first | exact List.Perm.refl _ | refine perm1 ?_ | refine List.Perm.cons _ ?_ | refine perm2 ?_)) | exact (S'.pop (by assumption)) | exact (S'.pop2 (by assumption))) ?_
        trivial
      · have h9 : ¬ k < fs.length := by have := of_decide_eq_false h; omega
        rw [h, decide_eq_false h9, Bool.false_and]
        repeat (first | (refine M0 ?_; first | refine O0 ?_ | refine z1 tok rfl ?_ | refine O1 rfl ?_ rfl | refine O2 rfl ?_ | refine O3 rfl ?_ rfl | refine O4 rfl rfl rfl (fun _ _ => ?_) | refine O5 tok rfl rfl rfl (fun _ _ => ?_) | refine U0 _ (U2 rfl) rfl ?_ | refine U0 _ (U3 tok rfl rfl rfl rfl rfl) rfl ?_ | refine z3 tok rfl ?_ | refine U0 _ (U4 rfl rfl) rfl ?_ | refine U0 _ (U5 rfl rfl) rfl ?_) | (refine M1 ?_; first | refine J0 ?_ | refine J1 ?_ | refine J2 mixed rfl (by kernel_rfl) ?_ | refine J3 mixed rfl rfl (by kernel_rfl) ?_ | refine J4 ?_ | refine J5 ?_ | refine J6 ?_ | refine J7 ?_ | refine J8 rfl ?_ | refine J9 rfl ?_) | (refine M2 ?_; first | refine I0 ?_ | refine I1 ?_ | refine I2 ?_ | refine I3 ?_ | refine I4 ?_ | refine I5 ?_ | refine I6 rfl ?_ | refine I7 ?_ | refine I8 ?_ | refine z4 ?_) | (refine M3 ?_; first | refine O6 ?_ | refine z2 tok rfl ?_ | refine O8 rfl ?_ | refine O7 rfl ?_ rfl | refine O9 rfl ?_ rfl | refine U1 _ (U4 rfl rfl) rfl ?_ | refine U1 _ (U5 rfl rfl) rfl ?_ | refine U1 _ (U2 rfl) rfl ?_ | refine U1 _ (U3 tok rfl rfl rfl rfl rfl) rfl ?_) | (refine M4 ?_; first | refine M6 ?_ | refine U6 rfl (by kernel_rfl) ?_ | refine XR.take2 rfl (by kernel_rfl) ?_ | refine U7 (by kernel_rfl) ?_) | (refine M5 ?_; first | exact M7 | refine U8 rfl ?_ | refine U9 rfl rfl ?_ ?_))
        refine XE.leaf () (by repeat (first | exact Sub.nil | refine Sub.cons rfl ?_)) (fun _ S' => by first | exact S' | exact S'.perm (by repeat (first | exact List.Perm.refl _ | refine perm1 ?_ | refine List.Perm.cons _ ?_ | refine perm2 ?_)) | exact (S'.pop (by assumption)) | exact (S'.pop2 (by assumption))) ?_
        trivial
    dsimp only [List.cons_append, List.nil_append]
    refine XC.cond _ rfl (fun h1 => ?_) (fun h1 => ?_)
    rotate_left
    · have h2 : ¬ (k < fs.length ∧ e = 0) := by simpa using h1
      rw [show totE2 b l = e by
        unfold totE2
        rcases hI with ⟨h3, h4⟩ | ⟨h3, h4, h5⟩
        · by_cases h6 : totE1 b l = 0
          · rw [if_neg (by simp [h6]), if_neg (by rw [any_upto (P := floShort b) (k := k) (by omega) h4]; simp)]; omega
          · rw [if_pos h6, h3]
        · rw [if_neg (by simp [h3]), if_pos h5, h4]]
      repeat (first | (refine M0 ?_; first | refine O0 ?_ | refine z1 tok rfl ?_ | refine O1 rfl ?_ rfl | refine O2 rfl ?_ | refine O3 rfl ?_ rfl | refine O4 rfl rfl rfl (fun _ _ => ?_) | refine O5 tok rfl rfl rfl (fun _ _ => ?_) | refine U0 _ (U2 rfl) rfl ?_ | refine U0 _ (U3 tok rfl rfl rfl rfl rfl) rfl ?_ | refine z3 tok rfl ?_ | refine U0 _ (U4 rfl rfl) rfl ?_ | refine U0 _ (U5 rfl rfl) rfl ?_) | (refine M1 ?_; first | refine J0 ?_ | refine J1 ?_ | refine J4 ?_ | refine J5 ?_ | refine J6 ?_ | refine J7 ?_ | refine J8 rfl ?_ | refine J9 rfl ?_) | (refine M2 ?_; first | refine I0 ?_ | refine I1 ?_ | refine I2 ?_ | refine I3 ?_ | refine I4 ?_ | refine I5 ?_ | refine I6 rfl ?_ | refine I7 ?_ | refine I8 ?_ | refine z4 ?_) | (refine M3 ?_; first | refine O6 ?_ | refine z2 tok rfl ?_ | refine O8 rfl ?_ | refine O7 rfl ?_ rfl | refine O9 rfl ?_ rfl | refine U1 _ (U4 rfl rfl) rfl ?_ | refine U1 _ (U5 rfl rfl) rfl ?_ | refine U1 _ (U2 rfl) rfl ?_ | refine U1 _ (U3 tok rfl rfl rfl rfl rfl) rfl ?_) | (refine M4 ?_; first | refine M6 ?_ | refine U6 rfl (by kernel_rfl) ?_ | refine XR.take2 rfl (by kernel_rfl) ?_ | refine U7 (by kernel_rfl) ?_) | (refine M5 ?_; first | exact M7 | refine U8 rfl ?_ | refine U9 rfl rfl ?_ ?_))
      refine XE.leaf () (by repeat (first | exact Sub.nil | refine Sub.cons rfl ?_)) (fun _ S' => by first | exact S' | exact S'.perm (by repeat (first | exact List.Perm.refl _ | refine perm1 ?_ | refine List.Perm.cons _ ?_ | refine perm2 ?_)) | exact (S'.pop (by assumption)) | exact (S'.pop2 (by assumption))) ?_
      trivial
    obtain ⟨hkn, he0⟩ : k < fs.length ∧ e = 0 := by simpa using h1
    have he1 : totE1 b l = 0 ∧ ∀ j, j < k → floShort b (fl l j) = false := by
      rcases hI with ⟨h3, h4⟩ | ⟨h3, h4, h5⟩
      · exact ⟨by omega, h4⟩
      · omega
    obtain ⟨ad, rfl, hlt⟩ := hr.addr (by decide) (by omega)
    have hqn := hlen _ (List.getElem_mem hkn)
    have hfl : fs[k].f = fl l k := by rw [hl, fl_map hkn]
    have hcell : w.cell? ((ad.add (k * 5)).add 4) = some (.slice fs[k].r.A fs[k].r.n fs[k].r.c) := hr.elem (List.getElem?_eq_getElem hkn) 4 _ rfl
    have hsh : decide ((fs[k].r.n : Int) ≠ (b.pols.length : Int)) = floShort b (fl l k) := by
      rw [← hfl]; exact decide_eq_decide.2 (by omega)
    repeat (first | (refine M0 ?_; first | refine O0 ?_ | refine z1 tok rfl ?_ | refine O1 rfl ?_ rfl | refine O2 rfl ?_ | refine O3 rfl ?_ rfl | refine U0 _ (Ev.load_old tok rfl rfl (add_lt2 hlt) hcell) rfl ?_ | refine O4 rfl rfl rfl (fun _ _ => ?_) | refine O5 tok rfl rfl rfl (fun _ _ => ?_) | refine U0 _ (U2 rfl) rfl ?_ | refine U0 _ (U3 tok rfl rfl rfl rfl rfl) rfl ?_ | refine z3 tok rfl ?_ | refine U0 _ (U4 rfl rfl) rfl ?_ | refine U0 _ (U5 rfl rfl) rfl ?_) | (refine M1 ?_; first | refine J0 ?_ | refine J1 ?_ | refine J2 mixed rfl (by kernel_rfl) ?_ | refine J3 mixed rfl rfl (by kernel_rfl) ?_ | refine J4 ?_ | refine J5 ?_ | refine J6 ?_ | refine J7 ?_ | refine J8 rfl ?_ | refine J9 rfl ?_) | (refine M2 ?_; first | refine I0 ?_ | refine I1 ?_ | refine I2 ?_ | refine I3 ?_ | refine I4 ?_ | refine I5 ?_ | refine I6 rfl ?_ | refine I7 ?_ | refine I8 ?_ | refine z4 ?_) | (refine M3 ?_; first | refine O6 ?_ | refine z2 tok rfl ?_ | refine O8 rfl ?_ | refine O7 rfl ?_ rfl | refine O9 rfl ?_ rfl | refine U1 _ (Ev.load_old tok rfl rfl (add_lt2 hlt) hcell) rfl ?_ | refine U1 _ (U4 rfl rfl) rfl ?_ | refine U1 _ (U5 rfl rfl) rfl ?_ | refine U1 _ (U2 rfl) rfl ?_ | refine U1 _ (U3 tok rfl rfl rfl rfl rfl) rfl ?_) | (refine M4 ?_; first | refine M6 ?_ | refine U6 rfl (by kernel_rfl) ?_ | refine XR.take2 rfl (by kernel_rfl) ?_ | refine U7 (by kernel_rfl) ?_) | (refine M5 ?_; first | exact M7 | refine U8 rfl ?_ | refine U9 rfl rfl ?_ ?_))
    rw [hsh]
    refine XC.cond _ rfl (fun h2 => ?_) (fun h2 => ?_)
    · repeat (first | (refine M0 ?_; first | refine O0 ?_ | refine z1 tok rfl ?_ | refine O1 rfl ?_ rfl | refine O2 rfl ?_ | refine O3 rfl ?_ rfl | refine O4 rfl rfl rfl (fun _ _ => ?_) | refine O5 tok rfl rfl rfl (fun _ _ => ?_) | refine U0 _ (U2 rfl) rfl ?_ | refine U0 _ (U3 tok rfl rfl rfl rfl rfl) rfl ?_ | refine z3 tok rfl ?_ | refine U0 _ (U4 rfl rfl) rfl ?_ | refine U0 _ (U5 rfl rfl) rfl ?_) | (refine M1 ?_; first | refine J0 ?_ | refine J1 ?_ | refine J2 mixed rfl (by kernel_rfl) ?_ | refine J3 mixed rfl rfl (by kernel_rfl) ?_ | refine J4 ?_ | refine J5 ?_ | refine J6 ?_ | refine J7 ?_ | refine J8 rfl ?_ | refine J9 rfl ?_) | (refine M2 ?_; first | refine I0 ?_ | refine I1 ?_ | refine I2 ?_ | refine I3 ?_ | refine I4 ?_ | refine I5 ?_ | refine I6 rfl ?_ | refine I7 ?_ | refine I8 ?_ | refine z4 ?_) | (refine M3 ?_; first | refine O6 ?_ | refine z2 tok rfl ?_ | refine O8 rfl ?_ | refine O7 rfl ?_ rfl | refine O9 rfl ?_ rfl | refine U1 _ (U4 rfl rfl) rfl ?_ | refine U1 _ (U5 rfl rfl) rfl ?_ | refine U1 _ (U2 rfl) rfl ?_ | refine U1 _ (U3 tok rfl rfl rfl rfl rfl) rfl ?_) | (refine M4 ?_; first | refine M6 ?_ | refine U6 rfl (by kernel_rfl) ?_ | refine XR.take2 rfl (by kernel_rfl) ?_ | refine U7 (by kernel_rfl) ?_) | (refine M5 ?_; first | exact M7 | refine U8 rfl ?_ | refine U9 rfl rfl ?_ ?_))
      refine XE.round (s := (k, e)) (k + 1, 2) ?_ ?_ (by repeat (first | exact Sub.nil | refine Sub.cons rfl ?_)) (fun _ h => h)
      · exact ⟨hkn, .inr ⟨he1.1, rfl, any_one (by omega) h2⟩⟩
      · simp only; omega
    · repeat (first | (refine M0 ?_; first | refine O0 ?_ | refine z1 tok rfl ?_ | refine O1 rfl ?_ rfl | refine O2 rfl ?_ | refine O3 rfl ?_ rfl | refine O4 rfl rfl rfl (fun _ _ => ?_) | refine O5 tok rfl rfl rfl (fun _ _ => ?_) | refine U0 _ (U2 rfl) rfl ?_ | refine U0 _ (U3 tok rfl rfl rfl rfl rfl) rfl ?_ | refine z3 tok rfl ?_ | refine U0 _ (U4 rfl rfl) rfl ?_ | refine U0 _ (U5 rfl rfl) rfl ?_) | (refine M1 ?_; first | refine J0 ?_ | refine J1 ?_ | refine J2 mixed rfl (by kernel_rfl) ?_ | refine J3 mixed rfl rfl (by kernel_rfl) ?_ | refine J4 ?_ | refine J5 ?_ | refine J6 ?_ | refine J7 ?_ | refine J8 rfl ?_ | refine J9 rfl ?_) | (refine M2 ?_; first | refine I0 ?_ | refine I1 ?_ | refine I2 ?_ | refine I3 ?_ | refine I4 ?_ | refine I5 ?_ | refine I6 rfl ?_ | refine I7 ?_ | refine I8 ?_ | refine z4 ?_) | (refine M3 ?_; first | refine O6 ?_ | refine z2 tok rfl ?_ | refine O8 rfl ?_ | refine O7 rfl ?_ rfl | refine O9 rfl ?_ rfl | refine U1 _ (U4 rfl rfl) rfl ?_ | refine U1 _ (U5 rfl rfl) rfl ?_ | refine U1 _ (U2 rfl) rfl ?_ | refine U1 _ (U3 tok rfl rfl rfl rfl rfl) rfl ?_) | (refine M4 ?_; first | refine M6 ?_ | refine U6 rfl (by kernel_rfl) ?_ | refine XR.take2 rfl (by kernel_rfl) ?_ | refine U7 (by kernel_rfl) ?_) | (refine M5 ?_; first | exact M7 | refine U8 rfl ?_ | refine U9 rfl rfl ?_ ?_))
      refine XE.round (s := (k, e)) (k + 1, e) ?_ ?_ (by repeat (first | exact Sub.nil | refine Sub.cons rfl ?_)) (fun _ h => h)
      rotate_left
      · simp only; omega
      refine ⟨hkn, .inl ⟨by simp only; omega, fun j hj => ?_⟩⟩
      rcases Nat.lt_or_ge j k with h5 | h5
      · exact he1.2 j h5
      · have : j = k := by simp only at hj; omega
        subst this
        exact h2
  dsimp only [List.cons_append, List.nil_append]
  refine XC.seq ?_
  refine XC.cutn [1, 2, 4] rfl (fun _ : World => [(6, .int .i64 (totE b l))]) (fun _ => [(g4, cel 32 [.int .i64 0, .int .i64 0, .int .i64 0, .int .i64 0, .slice none 0 0]), (g2, cel 25 [.slice A n c, .int .i64 b.leak, .int .i64 b.crest, .int .i64 b.over, .slice A2 b.pols.length c2])]) (fun W => W) (fun W => Below w.heap.size w W) ?_ (fun W hBW => ?_)
  · repeat (first | (refine M0 ?_; first | refine O0 ?_ | refine z1 tok rfl ?_ | refine O1 rfl ?_ rfl | refine O2 rfl ?_ | refine O3 rfl ?_ rfl | refine O4 rfl rfl rfl (fun _ _ => ?_) | refine O5 tok rfl rfl rfl (fun _ _ => ?_) | refine U0 _ (U2 rfl) rfl ?_ | refine U0 _ (U3 tok rfl rfl rfl rfl rfl) rfl ?_ | refine z3 tok rfl ?_ | refine U0 _ (U4 rfl rfl) rfl ?_ | refine U0 _ (U5 rfl rfl) rfl ?_) | (refine M1 ?_; first | refine J0 ?_ | refine J1 ?_ | refine J4 ?_ | refine J5 ?_ | refine J6 ?_ | refine J7 ?_ | refine J8 rfl ?_ | refine J9 rfl ?_) | (refine M2 ?_; first | refine I0 ?_ | refine I1 ?_ | refine I2 ?_ | refine I3 ?_ | refine I4 ?_ | refine I5 ?_ | refine I6 rfl ?_ | refine I7 ?_ | refine I8 ?_ | refine z4 ?_) | (refine M3 ?_; first | refine O6 ?_ | refine z2 tok rfl ?_ | refine O8 rfl ?_ | refine O7 rfl ?_ rfl | refine O9 rfl ?_ rfl | refine U1 _ (U4 rfl rfl) rfl ?_ | refine U1 _ (U5 rfl rfl) rfl ?_ | refine U1 _ (U2 rfl) rfl ?_ | refine U1 _ (U3 tok rfl rfl rfl rfl rfl) rfl ?_) | (refine M4 ?_; first | refine M6 ?_ | refine U6 rfl (by kernel_rfl) ?_ | refine XR.take2 rfl (by kernel_rfl) ?_ | refine U7 (by kernel_rfl) ?_) | (refine M5 ?_; first | exact M7 | refine U8 rfl ?_ | refine U9 rfl rfl ?_ ?_))
    refine XC.loopk [1, 2, 4] rfl (fun s : Nat × Int × World => [(8, .int .i64 (s.1 : Nat)), (6, .int .i64 s.2.1)]) (fun _ => [(g4, cel 32 [.int .i64 0, .int .i64 0, .int .i64 0, .int .i64 0, .slice none 0 0]), (g2, cel 25 [.slice A n c, .int .i64 b.leak, .int .i64 b.crest, .int .i64 b.over, .slice A2 b.pols.length c2])]) (fun s => s.2.2)
      (fun s => s.1 ≤ fs.length ∧ Below w.heap.size w s.2.2 ∧ ((s.2.1 = totE2 b l ∧ ∀ j, j < s.1 → floBad (fl l j) = false) ∨ (totE2 b l = 0 ∧ s.2.1 = 7 ∧ l.any floBad = true))) (fun s => fs.length - s.1) (0, totE2 b l, w) ⟨Nat.zero_le _, Below.refl _ _, .inl ⟨rfl, fun j hj => absurd hj (by simp)⟩⟩ (by repeat (first | exact Sub.nil | refine Sub.cons rfl ?_)) (fun _ h => h) ?_
    rintro ⟨k, e, W⟩ ⟨hk, hBW, hI⟩
    simp only at hk hBW hI
    dsimp only [List.cons_append, List.nil_append]
    refine XC.seq (XC.seq ?_)
    refine XC.cutln [1, 2, 4, 6, 8] rfl (fun _ : Unit => [(51, .bool (decide (k < fs.length) && decide (e = 0)))]) (fun _ => []) (fun _ => True) ?_ (fun _ _ => ?_)
    · repeat (first | (refine M0 ?_; first | refine O0 ?_ | refine z1 tok rfl ?_ | refine O1 rfl ?_ rfl | refine O2 rfl ?_ | refine O3 rfl ?_ rfl | refine O4 rfl rfl rfl (fun _ _ => ?_) | refine O5 tok rfl rfl rfl (fun _ _ => ?_) | refine U0 _ (U2 rfl) rfl ?_ | refine U0 _ (U3 tok rfl rfl rfl rfl rfl) rfl ?_ | refine z3 tok rfl ?_ | refine U0 _ (U4 rfl rfl) rfl ?_ | refine U0 _ (U5 rfl rfl) rfl ?_) | (refine M1 ?_; first | refine J0 ?_ | refine J1 ?_ | refine J2 mixed rfl (by kernel_rfl) ?_ | refine J3 mixed rfl rfl (by kernel_rfl) ?_ | refine J4 ?_ | refine J5 ?_ | refine J6 ?_ | refine J7 ?_ | refine J8 rfl ?_ | refine J9 rfl ?_) | (refine M2 ?_; first | refine I0 ?_ | refine I1 ?_ | refine I2 ?_ | refine I3 ?_ | refine I4 ?_ | refine I5 ?_ | refine I6 rfl ?_ | refine I7 ?_ | refine I8 ?_ | refine z4 ?_) | (refine M3 ?_; first | refine O6 ?_ | refine z2 tok rfl ?_ | refine O8 rfl ?_ | refine O7 rfl ?_ rfl | refine O9 rfl ?_ rfl | refine U1 _ (U4 rfl rfl) rfl ?_ | refine U1 _ (U5 rfl rfl) rfl ?_ | refine U1 _ (U2 rfl) rfl ?_ | refine U1 _ (U3 tok rfl rfl rfl rfl rfl) rfl ?_) | (refine M4 ?_; first | refine M6 ?_ | refine U6 rfl (by kernel_rfl) ?_ | refine XR.take2 rfl (by kernel_rfl) ?_ | refine U7 (by kernel_rfl) ?_) | (refine M5 ?_; first | exact M7 | refine U8 rfl ?_ | refine U9 rfl rfl ?_ ?_))
      refine XL.split _ _ rfl (fun h => ?_) (fun h => ?_)
      · have h9 : k < fs.length := by have := of_decide_eq_true h; omega
        rw [h, decide_eq_true h9, Bool.true_and]
        repeat (first | (refine M0 ?_; first | refine O0 ?_ | refine z1 tok rfl ?_ | refine O1 rfl ?_ rfl | refine O2 rfl ?_ | refine O3 rfl ?_ rfl | refine O4 rfl rfl rfl (fun _ _ => ?_) | refine O5 tok rfl rfl rfl (fun _ _ => ?_) | refine U0 _ (U2 rfl) rfl ?_ | refine U0 _ (U3 tok rfl rfl rfl rfl rfl) rfl ?_ | refine z3 tok rfl ?_ | refine U0 _ (U4 rfl rfl) rfl ?_ | refine U0 _ (U5 rfl rfl) rfl ?_) | (refine M1 ?_; first | refine J0 ?_ | refine J1 ?_ | refine J2 mixed rfl (by kernel_rfl) ?_ | refine J3 mixed rfl rfl (by kernel_rfl) ?_ | refine J4 ?_ | refine J5 ?_ | refine J6 ?_ | refine J7 ?_ | refine J8 rfl ?_ | refine J9 rfl ?_) | (refine M2 ?_; first | refine I0 ?_ | refine I1 ?_ | refine I2 ?_ | refine I3 ?_ | refine I4 ?_ | refine I5 ?_ | refine I6 rfl ?_ | refine I7 ?_ | refine I8 ?_ | refine z4 ?_) | (refine M3 ?_; first | refine O6 ?_ | refine z2 tok rfl ?_ | refine O8 rfl ?_ | refine O7 rfl ?_ rfl | refine O9 rfl ?_ rfl | refine U1 _ (U4 rfl rfl) rfl ?_ | refine U1 _ (U5 rfl rfl) rfl ?_ | refine U1 _ (U2 rfl) rfl ?_ | refine U1 _ (U3 tok rfl rfl rfl rfl rfl) rfl ?_) | (refine M4 ?_; first | refine M6 ?_ | refine U6 rfl (by kernel_rfl) ?_ | refine XR.take2 rfl (by kernel_rfl) ?_ | refine U7 (by kernel_rfl) ?_) | (refine M5 ?_; first | exact M7 | refine U8 rfl ?_ | refine U9 rfl rfl ?_ ?_))
        refine XE.leaf () (by repeat (first | exact Sub.nil | refine Sub.cons rfl ?_)) (fun _ S' => by first | exact S' | exact S'.perm (by repeat (first | exact List.Perm.refl _ | refine perm1 ?_ | refine List.Perm.cons _ ?_ | refine perm2 ?_)) | exact (S'.pop (by assumption)) | exact (S'.pop2 (by assumption))) ?_
        trivial
      · have h9 : ¬ k < fs.length := by have := of_decide_eq_false h; omega
        rw [h, decide_eq_false h9, Bool.false_and]
        repeat (first | (refine M0 ?_; first | refine O0 ?_ | refine z1 tok rfl ?_ | refine O1 rfl ?_ rfl | refine O2 rfl ?_ | refine O3 rfl ?_ rfl | refine O4 rfl rfl rfl (fun _ _ => ?_) | refine O5 tok rfl rfl rfl (fun _ _ => ?_) | refine U0 _ (U2 rfl) rfl ?_ | refine U0 _ (U3 tok rfl rfl rfl rfl rfl) rfl ?_ | refine z3 tok rfl ?_ | refine U0 _ (U4 rfl rfl) rfl ?_ | refine U0 _ (U5 rfl rfl) rfl ?_) | (refine M1 ?_; first | refine J0 ?_ | refine J1 ?_ | refine J2 mixed rfl (by kernel_rfl) ?_ | refine J3 mixed rfl rfl (by kernel_rfl) ?_ | refine J4 ?_ | refine J5 ?_ | refine J6 ?_ | refine J7 ?_ | refine J8 rfl ?_ | refine J9 rfl ?_) | (refine M2 ?_; first | refine I0 ?_ | refine I1 ?_ | refine I2 ?_ | refine I3 ?_ | refine I4 ?_ | refine I5 ?_ | refine I6 rfl ?_ | refine I7 ?_ | refine I8 ?_ | refine z4 ?_) | (refine M3 ?_; first | refine O6 ?_ | refine z2 tok rfl ?_ | refine O8 rfl ?_ | refine O7 rfl ?_ rfl | refine O9 rfl ?_ rfl | refine U1 _ (U4 rfl rfl) rfl ?_ | refine U1 _ (U5 rfl rfl) rfl ?_ | refine U1 _ (U2 rfl) rfl ?_ | refine U1 _ (U3 tok rfl rfl rfl rfl rfl) rfl ?_) | (refine M4 ?_; first | refine M6 ?_ | refine U6 rfl (by kernel_rfl) ?_ | refine XR.take2 rfl (by kernel_rfl) ?_ | refine U7 (by kernel_rfl) ?_) | (refine M5 ?_; first | exact M7 | refine U8 rfl ?_ | refine U9 rfl rfl ?_ ?_))
        refine XE.leaf () (by repeat (first | exact Sub.nil | refine Sub.cons rfl ?_)) (fun _ S' => by first | exact S' | exact S'.perm (by repeat (first | exact List.Perm.refl _ | refine perm1 ?_ | refine List.Perm.cons _ ?_ | refine perm2 ?_)) | exact (S'.pop (by assumption)) | exact (S'.pop2 (by assumption))) ?_
        trivial
    dsimp only [List.cons_append, List.nil_append]
    refine XC.cond _ rfl (fun h1 => ?_) (fun h1 => ?_)
    rotate_left
    · have h2 : ¬ (k < fs.length ∧ e = 0) := by simpa using h1
      rw [show totE b l = e by
        rw [totE_eq]
        rcases hI with ⟨h3, h4⟩ | ⟨h3, h4, h5⟩
        · by_cases h6 : totE2 b l = 0
          · rw [if_neg (by simp [h6]), if_neg (by rw [any_upto (P := floBad) (k := k) (by omega) h4]; simp)]; omega
          · rw [if_pos h6, h3]
        · rw [if_neg (by simp [h3]), if_pos h5, h4]]
      repeat (first | (refine M0 ?_; first | refine O0 ?_ | refine z1 tok rfl ?_ | refine O1 rfl ?_ rfl | refine O2 rfl ?_ | refine O3 rfl ?_ rfl | refine O4 rfl rfl rfl (fun _ _ => ?_) | refine O5 tok rfl rfl rfl (fun _ _ => ?_) | refine U0 _ (U2 rfl) rfl ?_ | refine U0 _ (U3 tok rfl rfl rfl rfl rfl) rfl ?_ | refine z3 tok rfl ?_ | refine U0 _ (U4 rfl rfl) rfl ?_ | refine U0 _ (U5 rfl rfl) rfl ?_) | (refine M1 ?_; first | refine J0 ?_ | refine J1 ?_ | refine J4 ?_ | refine J5 ?_ | refine J6 ?_ | refine J7 ?_ | refine J8 rfl ?_ | refine J9 rfl ?_) | (refine M2 ?_; first | refine I0 ?_ | refine I1 ?_ | refine I2 ?_ | refine I3 ?_ | refine I4 ?_ | refine I5 ?_ | refine I6 rfl ?_ | refine I7 ?_ | refine I8 ?_ | refine z4 ?_) | (refine M3 ?_; first | refine O6 ?_ | refine z2 tok rfl ?_ | refine O8 rfl ?_ | refine O7 rfl ?_ rfl | refine O9 rfl ?_ rfl | refine U1 _ (U4 rfl rfl) rfl ?_ | refine U1 _ (U5 rfl rfl) rfl ?_ | refine U1 _ (U2 rfl) rfl ?_ | refine U1 _ (U3 tok rfl rfl rfl rfl rfl) rfl ?_) | (refine M4 ?_; first | refine M6 ?_ | refine U6 rfl (by kernel_rfl) ?_ | refine XR.take2 rfl (by kernel_rfl) ?_ | refine U7 (by kernel_rfl) ?_) | (refine M5 ?_; first | exact M7 | refine U8 rfl ?_ | refine U9 rfl rfl ?_ ?_))
      refine XE.leaf W (by repeat (first | exact Sub.nil | refine Sub.cons rfl ?_)) (fun _ S' => by first | exact S' | exact S'.perm (by repeat (first | exact List.Perm.refl _ | refine perm1 ?_ | refine List.Perm.cons _ ?_ | refine perm2 ?_)) | exact (S'.pop (by assumption)) | exact (S'.pop2 (by assumption))) ?_
      exact hBW
    obtain ⟨hkn, he0⟩ : k < fs.length ∧ e = 0 := by simpa using h1
    have he1 : totE2 b l = 0 ∧ ∀ j, j < k → floBad (fl l j) = false := by
      rcases hI with ⟨h3, h4⟩ | ⟨h3, h4, h5⟩
      · exact ⟨by omega, h4⟩
      · omega
    obtain ⟨v1, v2, v3⟩ := tot2_inv he1.1
    have hm6 := (ok_of v1).m6
    refine XC.rebase (List.Sublist.refl _) (fun W1 S1 => ?_)
    have hBW1 := hBW.trans S1.toBelow
    have hg4W := S1.lt (e := (g4, _)) (.head _)
    have hg2W := S1.lt (e := (g2, _)) (.tail _ (.head _))
    obtain ⟨ad, rfl, hlt⟩ := hr.addr (by decide) (by omega)
    have hq : IntsAt w (Lt w.heap.size) fs[k].r fs[k].f.taken := hr.ins _ (List.getElem_mem hkn) (hInts _ _) (.head _)
    have hqn := hlen _ (List.getElem_mem hkn)
    have hfl : fs[k].f = fl l k := by rw [hl, fl_map hkn]
    have hcell : ∀ j u, (floC fs[k].r fs[k].f)[j]? = some u → w.cell? ((ad.add (k * 5)).add j) = some u := hr.elem (List.getElem?_eq_getElem hkn)
    obtain ⟨q, hqq⟩ : ∃ q, q = fs[k].r := ⟨_, rfl⟩
    obtain ⟨f, hff⟩ : ∃ f, f = fs[k].f := ⟨_, rfl⟩
    rw [← hqq, ← hff] at hcell hq hqn
    have hc0 := hcell 0 _ rfl
    have hc1 := hcell 1 _ rfl
    have hc2 := hcell 2 _ rfl
    have hc3 := hcell 3 _ rfl
    have hc4 := hcell 4 _ rfl
    repeat (first | (refine M0 ?_; first | refine O0 ?_ | refine z1 tok rfl ?_ | refine O1 rfl ?_ rfl | refine O2 rfl ?_ | refine O3 rfl ?_ rfl | refine O4 rfl rfl rfl (fun _ _ => ?_) | refine O5 tok rfl rfl rfl (fun _ _ => ?_) | refine U0 _ (U2 rfl) rfl ?_ | refine U0 _ (U3 tok rfl rfl rfl rfl rfl) rfl ?_ | refine z3 tok rfl ?_ | refine U0 _ (U4 rfl rfl) rfl ?_ | refine U0 _ (U5 rfl rfl) rfl ?_) | (refine M1 ?_; first | refine J0 ?_ | refine J1 ?_ | refine J4 ?_ | refine J5 ?_ | refine J6 ?_ | refine J7 ?_ | refine J8 rfl ?_ | refine J9 rfl ?_) | (refine M2 ?_; first | refine I0 ?_ | refine I1 ?_ | refine I2 ?_ | refine I3 ?_ | refine I4 ?_ | refine I5 ?_ | refine I6 rfl ?_ | refine I7 ?_ | refine I8 ?_ | refine z4 ?_) | (refine M3 ?_; first | refine O6 ?_ | refine z2 tok rfl ?_ | refine O8 rfl ?_ | refine O7 rfl ?_ rfl | refine O9 rfl ?_ rfl | refine U1 _ (U4 rfl rfl) rfl ?_ | refine U1 _ (U5 rfl rfl) rfl ?_ | refine U1 _ (U2 rfl) rfl ?_ | refine U1 _ (U3 tok rfl rfl rfl rfl rfl) rfl ?_) | (refine M4 ?_; first | refine M6 ?_ | refine U6 rfl (by kernel_rfl) ?_ | refine XR.take2 rfl (by kernel_rfl) ?_ | refine U7 (by kernel_rfl) ?_) | (refine M5 ?_; first | exact M7 | refine U8 rfl ?_ | refine U9 rfl rfl ?_ ?_))
    refine XC.drawRS _ [] [0, 1, 2, 3, 4, 5, 6, 7, 8, 9, 10, 11, 12, 13, 14, 15, 16, 17, 18, 19, 21, 22, 23, 24, 25] [20, 26, 27] mixed (fun _ h => Sys.anchor2 (by assumption) h (by repeat (first | exact List.Sublist.refl _ | exact List.nil_sublist _ | refine List.Sublist.cons_cons _ ?_ | refine List.Sublist.cons _ ?_))) rfl (by kernel_rfl) ?_
    repeat (first | (refine M0 ?_; first | refine O0 ?_ | refine z1 tok rfl ?_ | refine O1 rfl ?_ rfl | refine O2 rfl ?_ | refine O3 rfl ?_ rfl | refine U0 _ (Ev.load_old tok rfl rfl (add_lt2 hlt) hc0) rfl ?_ | refine U0 _ (Ev.load_old tok rfl rfl (add_lt2 hlt) hc1) rfl ?_ | refine U0 _ (Ev.load_old tok rfl rfl (add_lt2 hlt) hc2) rfl ?_ | refine U0 _ (Ev.load_old tok rfl rfl (add_lt2 hlt) hc3) rfl ?_ | refine U0 _ (Ev.load_old tok rfl rfl (add_lt2 hlt) hc4) rfl ?_ | refine O4 rfl rfl rfl (fun _ _ => ?_) | refine O5 tok rfl rfl rfl (fun _ _ => ?_) | refine U0 _ (U2 rfl) rfl ?_ | refine U0 _ (U3 tok rfl rfl rfl rfl rfl) rfl ?_ | refine z3 tok rfl ?_ | refine U0 _ (U4 rfl rfl) rfl ?_ | refine U0 _ (U5 rfl rfl) rfl ?_) | (refine M1 ?_; first | refine J0 ?_ | refine J1 ?_ | refine J4 ?_ | refine J5 ?_ | refine J6 ?_ | refine J7 ?_ | refine J8 rfl ?_ | refine J9 rfl ?_) | (refine M2 ?_; first | refine I0 ?_ | refine I1 ?_ | refine I2 ?_ | refine I3 ?_ | refine I4 ?_ | refine I5 ?_ | refine I6 rfl ?_ | refine I7 ?_ | refine I8 ?_ | refine z4 ?_) | (refine M3 ?_; first | refine O6 ?_ | refine z2 tok rfl ?_ | refine O8 rfl ?_ | refine O7 rfl ?_ rfl | refine O9 rfl ?_ rfl | refine U1 _ (Ev.load_old tok rfl rfl (add_lt2 hlt) hc0) rfl ?_ | refine U1 _ (Ev.load_old tok rfl rfl (add_lt2 hlt) hc1) rfl ?_ | refine U1 _ (Ev.load_old tok rfl rfl (add_lt2 hlt) hc2) rfl ?_ | refine U1 _ (Ev.load_old tok rfl rfl (add_lt2 hlt) hc3) rfl ?_ | refine U1 _ (Ev.load_old tok rfl rfl (add_lt2 hlt) hc4) rfl ?_ | refine U1 _ (U4 rfl rfl) rfl ?_ | refine U1 _ (U5 rfl rfl) rfl ?_ | refine U1 _ (U2 rfl) rfl ?_ | refine U1 _ (U3 tok rfl rfl rfl rfl rfl) rfl ?_) | (refine M4 ?_; first | refine M6 ?_ | refine U6 rfl (by kernel_rfl) ?_ | refine XR.take2 rfl (by kernel_rfl) ?_ | refine U7 (by kernel_rfl) ?_) | (refine M5 ?_; first | exact M7 | refine U8 rfl ?_ | refine U9 rfl rfl ?_ ?_))
    any_goals (repeat (first | exact AnyR.nil | refine AnyR.skip rfl ?_))
    have hsW : w.heap.size ≤ W1.heap.size := hBW1.size
    have hksW : ∀ k, k ∈ [g4, g2] → k < W1.heap.size := fun j hj => by simp only [List.mem_cons, List.not_mem_nil, or_false] at hj; rcases hj with rfl | rfl <;> assumption
    refine XL.newRow (hL := fun e he => by simp only [List.mem_cons, List.not_mem_nil, or_false] at he; rcases he with rfl | rfl <;> simp) tok (K := intK) (l := [f.river, f.over, f.leak, f.out]) rfl rfl rfl rfl rfl rfl rfl rfl rfl ⟨rfl, rfl⟩ rfl rfl (Fam.start (ks := [g4, g2]) (Nat.le_refl W1.heap.size)) hksW hBW1 (Nat.le_refl _) (fun a ha x hx => by cases hx) (fun w7 g7 hF7 hB7 hk7 => ?_)
    repeat (first | (refine M0 ?_; first | refine O0 ?_ | refine z1 tok rfl ?_ | refine O1 rfl ?_ rfl | refine O2 rfl ?_ | refine O3 rfl ?_ rfl | refine O4 rfl rfl rfl (fun _ _ => ?_) | refine O5 tok rfl rfl rfl (fun _ _ => ?_) | refine U0 _ (U2 rfl) rfl ?_ | refine U0 _ (U3 tok rfl rfl rfl rfl rfl) rfl ?_ | refine z3 tok rfl ?_ | refine U0 _ (U4 rfl rfl) rfl ?_ | refine U0 _ (U5 rfl rfl) rfl ?_) | (refine M2 ?_; first | refine I0 ?_ | refine I1 ?_ | refine I2 ?_ | refine I3 ?_ | refine I4 ?_ | refine I5 ?_ | refine I6 rfl ?_ | refine I7 ?_ | refine I8 ?_ | refine z4 ?_) | (refine M3 ?_; first | refine O6 ?_ | refine z2 tok rfl ?_ | refine O8 rfl ?_ | refine O7 rfl ?_ rfl | refine O9 rfl ?_ rfl | refine U1 _ (U4 rfl rfl) rfl ?_ | refine U1 _ (U5 rfl rfl) rfl ?_ | refine U1 _ (U2 rfl) rfl ?_ | refine U1 _ (U3 tok rfl rfl rfl rfl rfl) rfl ?_) | (refine M4 ?_; first | refine M6 ?_ | refine U6 rfl (by kernel_rfl) ?_ | refine XR.take2 rfl (by kernel_rfl) ?_ | refine U7 (by kernel_rfl) ?_) | (refine M5 ?_; first | exact M7 | refine U8 rfl ?_ | refine U9 rfl rfl ?_ ?_))
    have htl : f.taken.length = b.pols.length := by
      have := List.any_eq_false.1 v3 (fl l k) (fl_mem (by omega))
      rw [hff, hfl]
      simpa [floShort] using this
    have hq7 : IntsAt w7 (Lt w.heap.size) q f.taken := ((hr.below hB7).ins _ (List.getElem_mem hkn) (hInts fs[k].r fs[k].f.taken) (.head _) |> fun h => by rw [hqq, hff]; exact h)
    refine XL.pushL (hL := fun e he => by simp only [List.mem_cons, List.not_mem_nil, or_false] at he; rcases he with rfl | rfl <;> simp) (K := intK) (l := [f.river, f.over, f.leak, f.out]) (l2 := f.taken) (r2 := q) (wE := w) 0 intK_el (by decide) rfl rfl rfl hF7 rfl hk7 hB7 (by omega) (fun w9 S9 => (hq7.arg S9).list) (fun a ha x hx => by cases hx) int_all (by simp; omega) (by decide) (fun w8 v8 hF8 hB8 hk8 => ?_)
    any_goals (repeat (first | exact AnyR.nil | refine AnyR.skip rfl ?_))
    have hsep := hF8.sep _ (.head _)
    obtain ⟨⟨Ar8, n8, c8⟩, e8, hra⟩ := hF8.list (.head _)
    have e8' : v8 = .slice Ar8 n8 c8 := e8
    clear e8
    subst e8'
    obtain ⟨al, hal⟩ : ∃ al, al = [f.river, f.over, f.leak, f.out] ++ f.taken := ⟨_, rfl⟩
    have hraI : IntsAt w8 (Btw W1.heap.size w8.heap.size) ⟨Ar8, n8, c8⟩ al := by rw [hal]; exact hra.ints
    have hn8 := hraI.len
    simp only at hn8
    subst hn8
    have hal4 : al.length = 4 + b.pols.length := by rw [hal]; simp [htl]; omega
    have hbad : al.any farB = floBad f := by rw [hal]; simp [floBad]
    repeat (first | (refine M0 ?_; first | refine O0 ?_ | refine z1 tok rfl ?_ | refine O1 rfl ?_ rfl | refine O2 rfl ?_ | refine O3 rfl ?_ rfl | refine O4 rfl rfl rfl (fun _ _ => ?_) | refine O5 tok rfl rfl rfl (fun _ _ => ?_) | refine U0 _ (U2 rfl) rfl ?_ | refine U0 _ (U3 tok rfl rfl rfl rfl rfl) rfl ?_ | refine z3 tok rfl ?_ | refine U0 _ (U4 rfl rfl) rfl ?_ | refine U0 _ (U5 rfl rfl) rfl ?_) | (refine M1 ?_; first | refine J0 ?_ | refine J1 ?_ | refine J4 ?_ | refine J5 ?_ | refine J6 ?_ | refine J7 ?_ | refine J8 rfl ?_ | refine J9 rfl ?_) | (refine M2 ?_; first | refine I0 ?_ | refine I1 ?_ | refine I2 ?_ | refine I3 ?_ | refine I4 ?_ | refine I5 ?_ | refine I6 rfl ?_ | refine I7 ?_ | refine I8 ?_ | refine z4 ?_) | (refine M3 ?_; first | refine O6 ?_ | refine z2 tok rfl ?_ | refine O8 rfl ?_ | refine O7 rfl ?_ rfl | refine O9 rfl ?_ rfl | refine U1 _ (U4 rfl rfl) rfl ?_ | refine U1 _ (U5 rfl rfl) rfl ?_ | refine U1 _ (U2 rfl) rfl ?_ | refine U1 _ (U3 tok rfl rfl rfl rfl rfl) rfl ?_) | (refine M4 ?_; first | refine M6 ?_ | refine U6 rfl (by kernel_rfl) ?_ | refine XR.take2 rfl (by kernel_rfl) ?_ | refine U7 (by kernel_rfl) ?_) | (refine M5 ?_; first | exact M7 | refine U8 rfl ?_ | refine U9 rfl rfl ?_ ?_))
    refine XC.loopk [1, 2, 4, 8, 9] rfl (fun s : Nat × Int => [(10, .int .i64 (s.1 : Nat)), (6, .int .i64 s.2)]) (fun _ => [(g4, cel 32 [.int .i64 0, .int .i64 0, .int .i64 0, .int .i64 0, .slice none 0 0]), (g2, cel 25 [.slice A n c, .int .i64 b.leak, .int .i64 b.crest, .int .i64 b.over, .slice A2 b.pols.length c2])]) (fun _ => w8)
      (fun s => s.1 ≤ al.length ∧ s.2 = if (al.take s.1).any farB = true then 7 else 0) (fun s => al.length - s.1) (0, 0) ⟨Nat.zero_le _, by simp⟩ (by rw [he0]; repeat (first | exact Sub.nil | refine Sub.cons rfl ?_)) (fun _ h => h) ?_
    rintro ⟨j, e2⟩ ⟨hj, hJ⟩
    simp only at hj hJ
    dsimp only [List.cons_append, List.nil_append]
    repeat (first | (refine M0 ?_; first | refine O0 ?_ | refine z1 tok rfl ?_ | refine O1 rfl ?_ rfl | refine O2 rfl ?_ | refine O3 rfl ?_ rfl | refine O4 rfl rfl rfl (fun _ _ => ?_) | refine O5 tok rfl rfl rfl (fun _ _ => ?_) | refine U0 _ (U2 rfl) rfl ?_ | refine U0 _ (U3 tok rfl rfl rfl rfl rfl) rfl ?_ | refine z3 tok rfl ?_ | refine U0 _ (U4 rfl rfl) rfl ?_ | refine U0 _ (U5 rfl rfl) rfl ?_) | (refine M1 ?_; first | refine J0 ?_ | refine J1 ?_ | refine J4 ?_ | refine J5 ?_ | refine J6 ?_ | refine J7 ?_ | refine J8 rfl ?_ | refine J9 rfl ?_) | (refine M2 ?_; first | refine I0 ?_ | refine I1 ?_ | refine I2 ?_ | refine I3 ?_ | refine I4 ?_ | refine I5 ?_ | refine I6 rfl ?_ | refine I7 ?_ | refine I8 ?_ | refine z4 ?_) | (refine M3 ?_; first | refine O6 ?_ | refine z2 tok rfl ?_ | refine O8 rfl ?_ | refine O7 rfl ?_ rfl | refine O9 rfl ?_ rfl | refine U1 _ (U4 rfl rfl) rfl ?_ | refine U1 _ (U5 rfl rfl) rfl ?_ | refine U1 _ (U2 rfl) rfl ?_ | refine U1 _ (U3 tok rfl rfl rfl rfl rfl) rfl ?_) | (refine M4 ?_; first | refine M6 ?_ | refine U6 rfl (by kernel_rfl) ?_ | refine XR.take2 rfl (by kernel_rfl) ?_ | refine U7 (by kernel_rfl) ?_) | (refine M5 ?_; first | exact M7 | refine U8 rfl ?_ | refine U9 rfl rfl ?_ ?_))
    refine XC.cond _ rfl (fun h2 => ?_) (fun h2 => ?_)
    rotate_left
    · have hjn : j = al.length := by have : ¬ (j < al.length) := by simpa using h2
                                     omega
      rw [hjn, List.take_length, hbad] at hJ
      repeat (first | (refine M0 ?_; first | refine O0 ?_ | refine z1 tok rfl ?_ | refine O1 rfl ?_ rfl | refine O2 rfl ?_ | refine O3 rfl ?_ rfl | refine O4 rfl rfl rfl (fun _ _ => ?_) | refine O5 tok rfl rfl rfl (fun _ _ => ?_) | refine U0 _ (U2 rfl) rfl ?_ | refine U0 _ (U3 tok rfl rfl rfl rfl rfl) rfl ?_ | refine z3 tok rfl ?_ | refine U0 _ (U4 rfl rfl) rfl ?_ | refine U0 _ (U5 rfl rfl) rfl ?_) | (refine M1 ?_; first | refine J0 ?_ | refine J1 ?_ | refine J4 ?_ | refine J5 ?_ | refine J6 ?_ | refine J7 ?_ | refine J8 rfl ?_ | refine J9 rfl ?_) | (refine M2 ?_; first | refine I0 ?_ | refine I1 ?_ | refine I2 ?_ | refine I3 ?_ | refine I4 ?_ | refine I5 ?_ | refine I6 rfl ?_ | refine I7 ?_ | refine I8 ?_ | refine z4 ?_) | (refine M3 ?_; first | refine O6 ?_ | refine z2 tok rfl ?_ | refine O8 rfl ?_ | refine O7 rfl ?_ rfl | refine O9 rfl ?_ rfl | refine U1 _ (U4 rfl rfl) rfl ?_ | refine U1 _ (U5 rfl rfl) rfl ?_ | refine U1 _ (U2 rfl) rfl ?_ | refine U1 _ (U3 tok rfl rfl rfl rfl rfl) rfl ?_) | (refine M4 ?_; first | refine M6 ?_ | refine U6 rfl (by kernel_rfl) ?_ | refine XR.take2 rfl (by kernel_rfl) ?_ | refine U7 (by kernel_rfl) ?_) | (refine M5 ?_; first | exact M7 | refine U8 rfl ?_ | refine U9 rfl rfl ?_ ?_))
      refine XE.round (s := (k, e, W)) (k + 1, e2, w8) ?_ ?_ (by repeat (first | exact Sub.nil | refine Sub.cons rfl ?_)) (fun _ h => h)
      rotate_left
      · simp only; omega
      refine ⟨hkn, hB8, ?_⟩
      simp only
      cases h5 : floBad f with
      | true =>
        rw [h5, if_pos rfl] at hJ
        exact .inr ⟨he1.1, hJ, any_one (k := k) (by omega) (by rw [← hfl, ← hff]; exact h5)⟩
      | false =>
        rw [h5, if_neg (by simp)] at hJ
        refine .inl ⟨by omega, fun j hj => ?_⟩
        rcases Nat.lt_or_ge j k with h6 | h6
        · exact he1.2 j h6
        · have : j = k := by omega
          subst this
          rw [← hfl, ← hff]; exact h5
    have hjn : j < al.length := by simpa using h2
    obtain ⟨a8, rfl, ⟨hlo8, hhi8⟩, hd8⟩ := hraI.at_ (by omega)
    have hc8 := hd8 j (by omega)
    have hne8 : ∀ e, e ∈ [(g4, cel 32 [.int .i64 0, .int .i64 0, .int .i64 0, .int .i64 0, .slice none 0 0]), (g2, cel 25 [.slice A n c, .int .i64 b.leak, .int .i64 b.crest, .int .i64 b.over, .slice A2 b.pols.length c2])] → e.1 ≠ a8.block := fun e he e1 => hsep a8.block (by simp [Value.ownBlock]) (by simp only [List.mem_cons, List.not_mem_nil, or_false] at he; rcases he with rfl | rfl <;> simp only at e1 <;> simp [e1])
    repeat (first | (refine M0 ?_; first | refine O0 ?_ | refine z1 tok rfl ?_ | refine O1 rfl ?_ rfl | refine O2 rfl ?_ | refine O3 rfl ?_ rfl | refine U0 _ (Ev.load_far tok rfl rfl (add_lt hhi8) (fun e he => by rw [add_block]; exact hne8 e he) hc8) rfl ?_ | refine O4 rfl rfl rfl (fun _ _ => ?_) | refine O5 tok rfl rfl rfl (fun _ _ => ?_) | refine U0 _ (U2 rfl) rfl ?_ | refine U0 _ (U3 tok rfl rfl rfl rfl rfl) rfl ?_ | refine z3 tok rfl ?_ | refine U0 _ (U4 rfl rfl) rfl ?_ | refine U0 _ (U5 rfl rfl) rfl ?_) | (refine M1 ?_; first | refine J0 ?_ | refine J1 ?_ | refine J4 ?_ | refine J5 ?_ | refine J6 ?_ | refine J7 ?_ | refine J8 rfl ?_ | refine J9 rfl ?_) | (refine M2 ?_; first | refine I0 ?_ | refine I1 ?_ | refine I2 ?_ | refine I3 ?_ | refine I4 ?_ | refine I5 ?_ | refine I6 rfl ?_ | refine I7 ?_ | refine I8 ?_ | refine z4 ?_) | (refine M3 ?_; first | refine O6 ?_ | refine z2 tok rfl ?_ | refine O8 rfl ?_ | refine O7 rfl ?_ rfl | refine O9 rfl ?_ rfl | refine U1 _ (Ev.load_far tok rfl rfl (add_lt hhi8) (fun e he => by rw [add_block]; exact hne8 e he) hc8) rfl ?_ | refine U1 _ (U4 rfl rfl) rfl ?_ | refine U1 _ (U5 rfl rfl) rfl ?_ | refine U1 _ (U2 rfl) rfl ?_ | refine U1 _ (U3 tok rfl rfl rfl rfl rfl) rfl ?_) | (refine M4 ?_; first | refine M6 ?_ | refine U6 rfl (by kernel_rfl) ?_ | refine XR.take2 rfl (by kernel_rfl) ?_ | refine U7 (by kernel_rfl) ?_) | (refine M5 ?_; first | exact M7 | refine U8 rfl ?_ | refine U9 rfl rfl ?_ ?_))
    repeat (first | (refine M0 ?_; first | refine O0 ?_ | refine z1 tok rfl ?_ | refine O1 rfl ?_ rfl | refine O2 rfl ?_ | refine O3 rfl ?_ rfl | refine U0 _ (Ev.call (f := 54) (ck rfl) rfl (fun w S => in_any _ _ _ w)) rfl ?_ | refine O4 rfl rfl rfl (fun _ _ => ?_) | refine O5 tok rfl rfl rfl (fun _ _ => ?_) | refine U0 _ (U2 rfl) rfl ?_ | refine U0 _ (U3 tok rfl rfl rfl rfl rfl) rfl ?_ | refine z3 tok rfl ?_ | refine U0 _ (U4 rfl rfl) rfl ?_ | refine U0 _ (U5 rfl rfl) rfl ?_) | (refine M1 ?_; first | refine J0 ?_ | refine J1 ?_ | refine J4 ?_ | refine J5 ?_ | refine J6 ?_ | refine J7 ?_ | refine J8 rfl ?_ | refine J9 rfl ?_) | (refine M2 ?_; first | refine I0 ?_ | refine I1 ?_ | refine I2 ?_ | refine I3 ?_ | refine I4 ?_ | refine I5 ?_ | refine I6 rfl ?_ | refine I7 ?_ | refine I8 ?_ | refine z4 ?_) | (refine M3 ?_; first | refine O6 ?_ | refine z2 tok rfl ?_ | refine O8 rfl ?_ | refine O7 rfl ?_ rfl | refine O9 rfl ?_ rfl | refine U1 _ (Ev.call (f := 54) (ck rfl) rfl (fun w S => in_any _ _ _ w)) rfl ?_ | refine U1 _ (U4 rfl rfl) rfl ?_ | refine U1 _ (U5 rfl rfl) rfl ?_ | refine U1 _ (U2 rfl) rfl ?_ | refine U1 _ (U3 tok rfl rfl rfl rfl rfl) rfl ?_) | (refine M4 ?_; first | refine M6 ?_ | refine U6 rfl (by kernel_rfl) ?_ | refine XR.take2 rfl (by kernel_rfl) ?_ | refine U7 (by kernel_rfl) ?_) | (refine M5 ?_; first | exact M7 | refine U8 rfl ?_ | refine U9 rfl rfl ?_ ?_))
    have htk : ∀ (B : Bool), farB (at0 al j) = B → (al.take (j + 1)).any farB = ((al.take j).any farB || B) := fun B hB => by
      rw [List.take_add_one, List.any_append, List.getElem?_eq_getElem hjn]
      have : al[j] = at0 al j := by simp [at0, hjn]
      simp [this, hB]
    refine XC.cond _ rfl (fun h3 => ?_) (fun h3 => ?_)
    · repeat (first | (refine M0 ?_; first | refine O0 ?_ | refine z1 tok rfl ?_ | refine O1 rfl ?_ rfl | refine O2 rfl ?_ | refine O3 rfl ?_ rfl | refine O4 rfl rfl rfl (fun _ _ => ?_) | refine O5 tok rfl rfl rfl (fun _ _ => ?_) | refine U0 _ (U2 rfl) rfl ?_ | refine U0 _ (U3 tok rfl rfl rfl rfl rfl) rfl ?_ | refine z3 tok rfl ?_ | refine U0 _ (U4 rfl rfl) rfl ?_ | refine U0 _ (U5 rfl rfl) rfl ?_) | (refine M1 ?_; first | refine J0 ?_ | refine J1 ?_ | refine J4 ?_ | refine J5 ?_ | refine J6 ?_ | refine J7 ?_ | refine J8 rfl ?_ | refine J9 rfl ?_) | (refine M2 ?_; first | refine I0 ?_ | refine I1 ?_ | refine I2 ?_ | refine I3 ?_ | refine I4 ?_ | refine I5 ?_ | refine I6 rfl ?_ | refine I7 ?_ | refine I8 ?_ | refine z4 ?_) | (refine M3 ?_; first | refine O6 ?_ | refine z2 tok rfl ?_ | refine O8 rfl ?_ | refine O7 rfl ?_ rfl | refine O9 rfl ?_ rfl | refine U1 _ (U4 rfl rfl) rfl ?_ | refine U1 _ (U5 rfl rfl) rfl ?_ | refine U1 _ (U2 rfl) rfl ?_ | refine U1 _ (U3 tok rfl rfl rfl rfl rfl) rfl ?_) | (refine M4 ?_; first | refine M6 ?_ | refine U6 rfl (by kernel_rfl) ?_ | refine XR.take2 rfl (by kernel_rfl) ?_ | refine U7 (by kernel_rfl) ?_) | (refine M5 ?_; first | exact M7 | refine U8 rfl ?_ | refine U9 rfl rfl ?_ ?_))
      refine XE.round (s := (j, e2)) (j + 1, 7) ⟨hjn, ?_⟩ (by simp only; omega) (by repeat (first | exact Sub.nil | refine Sub.cons rfl ?_)) (fun _ h => h)
      have h4 : farB (at0 al j) = true := by unfold farB; simpa using h3
      simp only
      rw [htk true h4, Bool.or_true, if_pos rfl]
    · repeat (first | (refine M0 ?_; first | refine O0 ?_ | refine z1 tok rfl ?_ | refine O1 rfl ?_ rfl | refine O2 rfl ?_ | refine O3 rfl ?_ rfl | refine O4 rfl rfl rfl (fun _ _ => ?_) | refine O5 tok rfl rfl rfl (fun _ _ => ?_) | refine U0 _ (U2 rfl) rfl ?_ | refine U0 _ (U3 tok rfl rfl rfl rfl rfl) rfl ?_ | refine z3 tok rfl ?_ | refine U0 _ (U4 rfl rfl) rfl ?_ | refine U0 _ (U5 rfl rfl) rfl ?_) | (refine M1 ?_; first | refine J0 ?_ | refine J1 ?_ | refine J4 ?_ | refine J5 ?_ | refine J6 ?_ | refine J7 ?_ | refine J8 rfl ?_ | refine J9 rfl ?_) | (refine M2 ?_; first | refine I0 ?_ | refine I1 ?_ | refine I2 ?_ | refine I3 ?_ | refine I4 ?_ | refine I5 ?_ | refine I6 rfl ?_ | refine I7 ?_ | refine I8 ?_ | refine z4 ?_) | (refine M3 ?_; first | refine O6 ?_ | refine z2 tok rfl ?_ | refine O8 rfl ?_ | refine O7 rfl ?_ rfl | refine O9 rfl ?_ rfl | refine U1 _ (U4 rfl rfl) rfl ?_ | refine U1 _ (U5 rfl rfl) rfl ?_ | refine U1 _ (U2 rfl) rfl ?_ | refine U1 _ (U3 tok rfl rfl rfl rfl rfl) rfl ?_) | (refine M4 ?_; first | refine M6 ?_ | refine U6 rfl (by kernel_rfl) ?_ | refine XR.take2 rfl (by kernel_rfl) ?_ | refine U7 (by kernel_rfl) ?_) | (refine M5 ?_; first | exact M7 | refine U8 rfl ?_ | refine U9 rfl rfl ?_ ?_))
      refine XE.round (s := (j, e2)) (j + 1, e2) ⟨hjn, ?_⟩ (by simp only; omega) (by repeat (first | exact Sub.nil | refine Sub.cons rfl ?_)) (fun _ h => h)
      have h4 : farB (at0 al j) = false := by unfold farB; simpa using h3
      simp only
      rw [htk false h4, Bool.or_false]
      exact hJ
  dsimp only [List.cons_append, List.nil_append]
  repeat (first | (refine M0 ?_; first | refine O0 ?_ | refine z1 tok rfl ?_ | refine O1 rfl ?_ rfl | refine O2 rfl ?_ | refine O3 rfl ?_ rfl | refine O4 rfl rfl rfl (fun _ _ => ?_) | refine O5 tok rfl rfl rfl (fun _ _ => ?_) | refine U0 _ (U2 rfl) rfl ?_ | refine U0 _ (U3 tok rfl rfl rfl rfl rfl) rfl ?_ | refine z3 tok rfl ?_ | refine U0 _ (U4 rfl rfl) rfl ?_ | refine U0 _ (U5 rfl rfl) rfl ?_) | (refine M1 ?_; first | refine J0 ?_ | refine J1 ?_ | refine J4 ?_ | refine J5 ?_ | refine J6 ?_ | refine J7 ?_ | refine J8 rfl ?_ | refine J9 rfl ?_) | (refine M2 ?_; first | refine I0 ?_ | refine I1 ?_ | refine I2 ?_ | refine I3 ?_ | refine I4 ?_ | refine I5 ?_ | refine I6 rfl ?_ | refine I7 ?_ | refine I8 ?_ | refine z4 ?_) | (refine M3 ?_; first | refine O6 ?_ | refine z2 tok rfl ?_ | refine O8 rfl ?_ | refine O7 rfl ?_ rfl | refine O9 rfl ?_ rfl | refine U1 _ (U4 rfl rfl) rfl ?_ | refine U1 _ (U5 rfl rfl) rfl ?_ | refine U1 _ (U2 rfl) rfl ?_ | refine U1 _ (U3 tok rfl rfl rfl rfl rfl) rfl ?_) | (refine M4 ?_; first | refine M6 ?_ | refine U6 rfl (by kernel_rfl) ?_ | refine XR.take2 rfl (by kernel_rfl) ?_ | refine U7 (by kernel_rfl) ?_) | (refine M5 ?_; first | exact M7 | refine U8 rfl ?_ | refine U9 rfl rfl ?_ ?_))
  refine XC.cond _ rfl (fun h0 => ?_) (fun h0 => ?_)
  · have h1 : totE b l ≠ 0 := by simpa using h0
    repeat (first | (refine M0 ?_; first | refine O0 ?_ | refine z1 tok rfl ?_ | refine O1 rfl ?_ rfl | refine O2 rfl ?_ | refine O3 rfl ?_ rfl | refine O4 rfl rfl rfl (fun _ _ => ?_) | refine O5 tok rfl rfl rfl (fun _ _ => ?_) | refine U0 _ (U2 rfl) rfl ?_ | refine U0 _ (U3 tok rfl rfl rfl rfl rfl) rfl ?_ | refine z3 tok rfl ?_ | refine U0 _ (U4 rfl rfl) rfl ?_ | refine U0 _ (U5 rfl rfl) rfl ?_) | (refine M1 ?_; first | refine J0 ?_ | refine J1 ?_ | refine J2 mixed rfl (by kernel_rfl) ?_ | refine J3 mixed rfl rfl (by kernel_rfl) ?_ | refine J4 ?_ | refine J5 ?_ | refine J6 ?_ | refine J7 ?_ | refine J8 rfl ?_ | refine J9 rfl ?_) | (refine M2 ?_; first | refine I0 ?_ | refine I1 ?_ | refine I2 ?_ | refine I3 ?_ | refine I4 ?_ | refine I5 ?_ | refine I6 rfl ?_ | refine I7 ?_ | refine I8 ?_ | refine z4 ?_) | (refine M3 ?_; first | refine O6 ?_ | refine z2 tok rfl ?_ | refine O8 rfl ?_ | refine O7 rfl ?_ rfl | refine O9 rfl ?_ rfl | refine U1 _ (U4 rfl rfl) rfl ?_ | refine U1 _ (U5 rfl rfl) rfl ?_ | refine U1 _ (U2 rfl) rfl ?_ | refine U1 _ (U3 tok rfl rfl rfl rfl rfl) rfl ?_) | (refine M4 ?_; first | refine M6 ?_ | refine U6 rfl (by kernel_rfl) ?_ | refine XR.take2 rfl (by kernel_rfl) ?_ | refine U7 (by kernel_rfl) ?_) | (refine M5 ?_; first | exact M7 | refine U8 rfl ?_ | refine U9 rfl rfl ?_ ?_))
    refine XE.retg tok Tryd.results43 rfl (by simp only [and_self, and_true]) (fun w' S => ?_)
    exact TotV.err ⟨rfl, totF_n h1⟩ rfl (hBW.trans S.toBelow)
  have hE0 : totE b l = 0 := by simpa using h0
  obtain ⟨v1, h300, h2, h3⟩ := tot_inv hE0
  have hm6 := (ok_of v1).m6
  have htl : ∀ m, m ∈ fs → m.f.taken.length = b.pols.length := fun m hm => by
    have := List.any_eq_false.1 h2 m.f (by rw [hl]; exact List.mem_map.2 ⟨m, hm, rfl⟩)
    simpa [floShort] using this
  have hbd := totBd_of h300 h2 h3
  obtain ⟨hE2, hF2⟩ := tot_0 v1 h300 h2 h3
  have hrW := hr.below hBW
  repeat (first | (refine M0 ?_; first | refine O0 ?_ | refine z1 tok rfl ?_ | refine O1 rfl ?_ rfl | refine O2 rfl ?_ | refine O3 rfl ?_ rfl | refine O4 rfl rfl rfl (fun _ _ => ?_) | refine O5 tok rfl rfl rfl (fun _ _ => ?_) | refine U0 _ (U2 rfl) rfl ?_ | refine U0 _ (U3 tok rfl rfl rfl rfl rfl) rfl ?_ | refine z3 tok rfl ?_ | refine U0 _ (U4 rfl rfl) rfl ?_ | refine U0 _ (U5 rfl rfl) rfl ?_) | (refine M1 ?_; first | refine J0 ?_ | refine J1 ?_ | refine J4 ?_ | refine J5 ?_ | refine J6 ?_ | refine J7 ?_ | refine J8 rfl ?_ | refine J9 rfl ?_) | (refine M2 ?_; first | refine I0 ?_ | refine I1 ?_ | refine I2 ?_ | refine I3 ?_ | refine I4 ?_ | refine I5 ?_ | refine I6 rfl ?_ | refine I7 ?_ | refine I8 ?_ | refine z4 ?_) | (refine M3 ?_; first | refine O6 ?_ | refine z2 tok rfl ?_ | refine O8 rfl ?_ | refine O7 rfl ?_ rfl | refine O9 rfl ?_ rfl | refine U1 _ (U4 rfl rfl) rfl ?_ | refine U1 _ (U5 rfl rfl) rfl ?_ | refine U1 _ (U2 rfl) rfl ?_ | refine U1 _ (U3 tok rfl rfl rfl rfl rfl) rfl ?_) | (refine M4 ?_; first | refine M6 ?_ | refine U6 rfl (by kernel_rfl) ?_ | refine XR.take2 rfl (by kernel_rfl) ?_ | refine U7 (by kernel_rfl) ?_) | (refine M5 ?_; first | exact M7 | refine U8 rfl ?_ | refine U9 rfl rfl ?_ ?_))
  refine XL.makeInts int_el int_zero rfl rfl rfl (by omega) (fun gT hgT => ?_)
  rw [tak_0 b l]
  repeat (first | (refine M0 ?_; first | refine O0 ?_ | refine z1 tok rfl ?_ | refine O1 rfl ?_ rfl | refine O2 rfl ?_ | refine O3 rfl ?_ rfl | refine O4 rfl rfl rfl (fun _ _ => ?_) | refine O5 tok rfl rfl rfl (fun _ _ => ?_) | refine U0 _ (U2 rfl) rfl ?_ | refine U0 _ (U3 tok rfl rfl rfl rfl rfl) rfl ?_ | refine z3 tok rfl ?_ | refine U0 _ (U4 rfl rfl) rfl ?_ | refine U0 _ (U5 rfl rfl) rfl ?_) | (refine M1 ?_; first | refine J0 ?_ | refine J1 ?_ | refine J4 ?_ | refine J5 ?_ | refine J6 ?_ | refine J7 ?_ | refine J8 rfl ?_ | refine J9 rfl ?_) | (refine M2 ?_; first | refine I0 ?_ | refine I1 ?_ | refine I2 ?_ | refine I3 ?_ | refine I4 ?_ | refine I5 ?_ | refine I6 rfl ?_ | refine I7 ?_ | refine I8 ?_ | refine z4 ?_) | (refine M3 ?_; first | refine O6 ?_ | refine z2 tok rfl ?_ | refine O8 rfl ?_ | refine O7 rfl ?_ rfl | refine O9 rfl ?_ rfl | refine U1 _ (U4 rfl rfl) rfl ?_ | refine U1 _ (U5 rfl rfl) rfl ?_ | refine U1 _ (U2 rfl) rfl ?_ | refine U1 _ (U3 tok rfl rfl rfl rfl rfl) rfl ?_) | (refine M4 ?_; first | refine M6 ?_ | refine U6 rfl (by kernel_rfl) ?_ | refine XR.take2 rfl (by kernel_rfl) ?_ | refine U7 (by kernel_rfl) ?_) | (refine M5 ?_; first | exact M7 | refine U8 rfl ?_ | refine U9 rfl rfl ?_ ?_))
  rename_i g11 hg11
  have hWw := hBW.size
  refine XC.loopk [1, 4, 11] rfl (fun k : Nat => [(12, .int .i64 (k : Nat))]) (fun k => [(g11, cel 32 (floC ⟨some ⟨gT, 0, none⟩, b.pols.length, b.pols.length⟩ (totA b l k))), (gT, cel 3 (ints (rg b.pols.length (takTo l k)))), (g4, cel 32 [.int .i64 0, .int .i64 0, .int .i64 0, .int .i64 0, .slice none 0 0]), (g2, cel 25 [.slice A n c, .int .i64 b.leak, .int .i64 b.crest, .int .i64 b.over, .slice A2 b.pols.length c2])]) (fun _ => W)
    (fun k => k ≤ fs.length) (fun k => fs.length - k) 0 (Nat.zero_le _) (by repeat (first | exact Sub.nil | refine Sub.cons rfl ?_)) (fun _ h => h) ?_
  rintro k hk
  dsimp only [List.cons_append, List.nil_append]
  simp only [floC, totA]
  repeat (first | (refine M0 ?_; first | refine O0 ?_ | refine z1 tok rfl ?_ | refine O1 rfl ?_ rfl | refine O2 rfl ?_ | refine O3 rfl ?_ rfl | refine O4 rfl rfl rfl (fun _ _ => ?_) | refine O5 tok rfl rfl rfl (fun _ _ => ?_) | refine U0 _ (U2 rfl) rfl ?_ | refine U0 _ (U3 tok rfl rfl rfl rfl rfl) rfl ?_ | refine z3 tok rfl ?_ | refine U0 _ (U4 rfl rfl) rfl ?_ | refine U0 _ (U5 rfl rfl) rfl ?_) | (refine M1 ?_; first | refine J0 ?_ | refine J1 ?_ | refine J4 ?_ | refine J5 ?_ | refine J6 ?_ | refine J7 ?_ | refine J8 rfl ?_ | refine J9 rfl ?_) | (refine M2 ?_; first | refine I0 ?_ | refine I1 ?_ | refine I2 ?_ | refine I3 ?_ | refine I4 ?_ | refine I5 ?_ | refine I6 rfl ?_ | refine I7 ?_ | refine I8 ?_ | refine z4 ?_) | (refine M3 ?_; first | refine O6 ?_ | refine z2 tok rfl ?_ | refine O8 rfl ?_ | refine O7 rfl ?_ rfl | refine O9 rfl ?_ rfl | refine U1 _ (U4 rfl rfl) rfl ?_ | refine U1 _ (U5 rfl rfl) rfl ?_ | refine U1 _ (U2 rfl) rfl ?_ | refine U1 _ (U3 tok rfl rfl rfl rfl rfl) rfl ?_) | (refine M4 ?_; first | refine M6 ?_ | refine U6 rfl (by kernel_rfl) ?_ | refine XR.take2 rfl (by kernel_rfl) ?_ | refine U7 (by kernel_rfl) ?_) | (refine M5 ?_; first | exact M7 | refine U8 rfl ?_ | refine U9 rfl rfl ?_ ?_))
  refine XC.cond _ rfl (fun h4 => ?_) (fun h4 => ?_)
  rotate_left
  · have hkn : k = l.length := by have : ¬ (k < fs.length) := by simpa using h4
                                  omega
    subst hkn
    repeat (first | (refine M0 ?_; first | refine O0 ?_ | refine z1 tok rfl ?_ | refine O1 rfl ?_ rfl | refine O2 rfl ?_ | refine O3 rfl ?_ rfl | refine O4 rfl rfl rfl (fun _ _ => ?_) | refine O5 tok rfl rfl rfl (fun _ _ => ?_) | refine U0 _ (U2 rfl) rfl ?_ | refine U0 _ (U3 tok rfl rfl rfl rfl rfl) rfl ?_ | refine z3 tok rfl ?_ | refine U0 _ (U4 rfl rfl) rfl ?_ | refine U0 _ (U5 rfl rfl) rfl ?_) | (refine M1 ?_; first | refine J0 ?_ | refine J1 ?_ | refine J4 ?_ | refine J5 ?_ | refine J6 ?_ | refine J7 ?_ | refine J8 rfl ?_ | refine J9 rfl ?_) | (refine M2 ?_; first | refine I0 ?_ | refine I1 ?_ | refine I2 ?_ | refine I3 ?_ | refine I4 ?_ | refine I5 ?_ | refine I6 rfl ?_ | refine I7 ?_ | refine I8 ?_ | refine z4 ?_) | (refine M3 ?_; first | refine O6 ?_ | refine z2 tok rfl ?_ | refine O8 rfl ?_ | refine O7 rfl ?_ rfl | refine O9 rfl ?_ rfl | refine U1 _ (U4 rfl rfl) rfl ?_ | refine U1 _ (U5 rfl rfl) rfl ?_ | refine U1 _ (U2 rfl) rfl ?_ | refine U1 _ (U3 tok rfl rfl rfl rfl rfl) rfl ?_) | (refine M4 ?_; first | refine M6 ?_ | refine U6 rfl (by kernel_rfl) ?_ | refine XR.take2 rfl (by kernel_rfl) ?_ | refine U7 (by kernel_rfl) ?_) | (refine M5 ?_; first | exact M7 | refine U8 rfl ?_ | refine U9 rfl rfl ?_ ?_))
    refine XE.retg tok Tryd.results43 rfl (by simp only [and_self, and_true]) (fun w' S => ?_)
    refine TotV.made (r := ⟨some ⟨gT, 0, none⟩, b.pols.length, b.pols.length⟩) (by rw [hE2, hF2]; rfl) ?_ (hBW.trans S.toBelow)
    rw [hF2]
    have h5 := S.own (gT, _) (.tail _ (.head _))
    exact ⟨ReadsP.block h5.2 (Nat.le_trans hWw hgT) (by simp [ints_len, rg_len, totA]), by simp only; omega⟩
  have hkn : k < fs.length := by simpa using h4
  obtain ⟨ad, rfl, hlt⟩ := hr.addr (by decide) (by omega)
  have hmk : fs[k]? = some fs[k] := List.getElem?_eq_getElem hkn
  have hq : IntsAt W (Lt w.heap.size) fs[k].r fs[k].f.taken := hrW.ins _ (List.getElem_mem hkn) (hInts _ _) (.head _)
  have hqn := hlen _ (List.getElem_mem hkn)
  have hqt := htl _ (List.getElem_mem hkn)
  have hfl : fs[k].f = fl l k := by rw [hl, fl_map hkn]
  have hcell : ∀ j u, (floC fs[k].r fs[k].f)[j]? = some u → W.cell? ((ad.add (k * 5)).add j) = some u := hrW.elem hmk
  obtain ⟨q, hqq⟩ : ∃ q, q = fs[k].r := ⟨_, rfl⟩
  obtain ⟨f, hff⟩ : ∃ f, f = fl l k := ⟨_, rfl⟩
  rw [← hqq, hfl, ← hff] at hcell
  rw [← hqq, hfl, ← hff] at hq
  rw [← hqq, hfl, ← hff] at hqn
  rw [hfl, ← hff] at hqt
  obtain ⟨Aq, nq, cq⟩ := q
  simp only at hqn
  have hnq : nq = b.pols.length := hqn.trans hqt
  subst hnq
  have hfine := hbd.fine k (by omega)
  rw [← hff] at hfine
  obtain ⟨f1, f2, f3, f4, f5⟩ := hfine
  have t1 := hbd.river (k := k) (by omega)
  have t2 := hbd.over (k := k) (by omega)
  have t3 := hbd.leak (k := k) (by omega)
  have t4 := hbd.out (k := k) (by omega)
  repeat (first | (refine M0 ?_; first | refine O0 ?_ | refine z1 tok rfl ?_ | refine O1 rfl ?_ rfl | refine O2 rfl ?_ | refine O3 rfl ?_ rfl | refine U0 _ (Ev.load_old_agg tok (floC ⟨Aq, b.pols.length, cq⟩ f) rfl rfl rfl (add_lt hlt) hcell) rfl ?_ | refine O4 rfl rfl rfl (fun _ _ => ?_) | refine O5 tok rfl rfl rfl (fun _ _ => ?_) | refine U0 _ (U2 rfl) rfl ?_ | refine U0 _ (U3 tok rfl rfl rfl rfl rfl) rfl ?_ | refine z3 tok rfl ?_ | refine U0 _ (U4 rfl rfl) rfl ?_ | refine U0 _ (U5 rfl rfl) rfl ?_) | (refine M1 ?_; first | refine J0 ?_ | refine J1 ?_ | refine J4 ?_ | refine J5 ?_ | refine J6 ?_ | refine J7 ?_ | refine J8 rfl ?_ | refine J9 rfl ?_) | (refine M2 ?_; first | refine I0 ?_ | refine I1 ?_ | refine I2 ?_ | refine I3 ?_ | refine I4 ?_ | refine I5 ?_ | refine I6 rfl ?_ | refine I7 ?_ | refine I8 ?_ | refine z4 ?_) | (refine M3 ?_; first | refine O6 ?_ | refine z2 tok rfl ?_ | refine O8 rfl ?_ | refine O7 rfl ?_ rfl | refine O9 rfl ?_ rfl | refine U1 _ (Ev.load_old_agg tok (floC ⟨Aq, b.pols.length, cq⟩ f) rfl rfl rfl (add_lt hlt) hcell) rfl ?_ | refine U1 _ (U4 rfl rfl) rfl ?_ | refine U1 _ (U5 rfl rfl) rfl ?_ | refine U1 _ (U2 rfl) rfl ?_ | refine U1 _ (U3 tok rfl rfl rfl rfl rfl) rfl ?_) | (refine M4 ?_; first | refine M6 ?_ | refine U6 rfl (by kernel_rfl) ?_ | refine XR.take2 rfl (by kernel_rfl) ?_ | refine U7 (by kernel_rfl) ?_) | (refine M5 ?_; first | exact M7 | refine U8 rfl ?_ | refine U9 rfl rfl ?_ ?_))
  rename_i g13 hg13
  have hfa : ∀ i, takTo l (k + 1) i = takTo l k i + f.t i := fun i => by rw [hff]; rfl
  refine XC.cutn [1, 4, 11, 12, 13] rfl (fun _ : Unit => []) (fun _ => [(g13, cel 32 [.int .i64 f.river, .int .i64 f.over, .int .i64 f.leak, .int .i64 f.out, .slice Aq b.pols.length cq]), (g11, cel 32 [.int .i64 (sumTo (fun j => (fl l j).river) k + f.river), .int .i64 (sumTo (fun j => (fl l j).over) k + f.over), .int .i64 (sumTo (fun j => (fl l j).leak) k + f.leak), .int .i64 (sumTo (fun j => (fl l j).out) k + f.out), .slice (some ⟨gT, 0, none⟩) b.pols.length b.pols.length]), (gT, cel 3 (ints (rg b.pols.length (takTo l k)))), (g4, cel 32 [.int .i64 0, .int .i64 0, .int .i64 0, .int .i64 0, .slice none 0 0]), (g2, cel 25 [.slice A n c, .int .i64 b.leak, .int .i64 b.crest, .int .i64 b.over, .slice A2 b.pols.length c2])]) (fun _ => W) (fun _ => True) ?_ (fun _ _ => ?_)
  · refine XC.drawRS _ [(g13, cel 32 [.int .i64 f.river, .int .i64 f.over, .int .i64 f.leak, .int .i64 f.out, .slice Aq b.pols.length cq])] [2, 3, 7, 8, 12, 13, 17, 18] [0, 1, 4, 5, 6, 9, 10, 11, 14, 15, 16, 19, 20, 21, 22, 23, 24, 25, 26, 27] mixed (fun _ h => Sys.anchor (by assumption) h (by simp) (by simp)) rfl (by kernel_rfl) ?_
    repeat (any_goals (first | (refine M0 ?_; first | refine O0 ?_ | refine z1 tok rfl ?_ | refine O1 rfl ?_ rfl | refine O2 rfl ?_ | refine O3 rfl ?_ rfl | refine O4 rfl rfl rfl (fun _ _ => ?_) | refine O5 tok rfl rfl rfl (fun _ _ => ?_) | refine U0 _ (U2 rfl) rfl ?_ | refine U0 _ (U3 tok rfl rfl rfl rfl rfl) rfl ?_ | refine z3 tok rfl ?_ | refine U0 _ (U4 rfl rfl) rfl ?_ | refine U0 _ (U5 rfl rfl) rfl ?_) | (refine M1 ?_; first | refine J0 ?_ | refine J1 ?_ | refine J4 ?_ | refine J5 ?_ | refine J6 ?_ | refine J7 ?_ | refine J8 rfl ?_ | refine J9 rfl ?_) | (refine M2 ?_; first | refine I0 ?_ | refine I1 ?_ | refine I2 ?_ | refine I3 ?_ | refine I4 ?_ | refine I5 ?_ | refine I6 rfl ?_ | refine I7 ?_ | refine I8 ?_ | refine z4 ?_) | (refine M3 ?_; first | refine O6 ?_ | refine z2 tok rfl ?_ | refine O8 rfl ?_ | refine O7 rfl ?_ rfl | refine O9 rfl ?_ rfl | refine U1 _ (U4 rfl rfl) rfl ?_ | refine U1 _ (U5 rfl rfl) rfl ?_ | refine U1 _ (U2 rfl) rfl ?_ | refine U1 _ (U3 tok rfl rfl rfl rfl rfl) rfl ?_) | (refine M4 ?_; first | refine M6 ?_ | refine U6 rfl (by kernel_rfl) ?_ | refine XR.take2 rfl (by kernel_rfl) ?_ | refine U7 (by kernel_rfl) ?_) | (refine M5 ?_; first | exact M7 | refine U8 rfl ?_ | refine U9 rfl rfl ?_ ?_)))
    any_goals (repeat (first | exact AnyR.nil | refine AnyR.skip rfl ?_))
    all_goals
      exact XE.leaf () (by repeat (first | exact Sub.nil | refine Sub.cons rfl ?_)) (fun _ S' => S') trivial
  dsimp only [List.cons_append, List.nil_append]
  repeat (first | (refine M0 ?_; first | refine O0 ?_ | refine z1 tok rfl ?_ | refine O1 rfl ?_ rfl | refine O2 rfl ?_ | refine O3 rfl ?_ rfl | refine O4 rfl rfl rfl (fun _ _ => ?_) | refine O5 tok rfl rfl rfl (fun _ _ => ?_) | refine U0 _ (U2 rfl) rfl ?_ | refine U0 _ (U3 tok rfl rfl rfl rfl rfl) rfl ?_ | refine z3 tok rfl ?_ | refine U0 _ (U4 rfl rfl) rfl ?_ | refine U0 _ (U5 rfl rfl) rfl ?_) | (refine M1 ?_; first | refine J0 ?_ | refine J1 ?_ | refine J4 ?_ | refine J5 ?_ | refine J6 ?_ | refine J7 ?_ | refine J8 rfl ?_ | refine J9 rfl ?_) | (refine M2 ?_; first | refine I0 ?_ | refine I1 ?_ | refine I2 ?_ | refine I3 ?_ | refine I4 ?_ | refine I5 ?_ | refine I6 rfl ?_ | refine I7 ?_ | refine I8 ?_ | refine z4 ?_) | (refine M3 ?_; first | refine O6 ?_ | refine z2 tok rfl ?_ | refine O8 rfl ?_ | refine O7 rfl ?_ rfl | refine O9 rfl ?_ rfl | refine U1 _ (U4 rfl rfl) rfl ?_ | refine U1 _ (U5 rfl rfl) rfl ?_ | refine U1 _ (U2 rfl) rfl ?_ | refine U1 _ (U3 tok rfl rfl rfl rfl rfl) rfl ?_) | (refine M4 ?_; first | refine M6 ?_ | refine U6 rfl (by kernel_rfl) ?_ | refine XR.take2 rfl (by kernel_rfl) ?_ | refine U7 (by kernel_rfl) ?_) | (refine M5 ?_; first | exact M7 | refine U8 rfl ?_ | refine U9 rfl rfl ?_ ?_))
  refine XC.loopk [1, 4, 11, 12, 13] rfl (fun j : Nat => [(14, .int .i64 (j : Nat))]) (fun j => [(g13, cel 32 [.int .i64 f.river, .int .i64 f.over, .int .i64 f.leak, .int .i64 f.out, .slice Aq b.pols.length cq]), (g11, cel 32 [.int .i64 (sumTo (fun j => (fl l j).river) k + f.river), .int .i64 (sumTo (fun j => (fl l j).over) k + f.over), .int .i64 (sumTo (fun j => (fl l j).leak) k + f.leak), .int .i64 (sumTo (fun j => (fl l j).out) k + f.out), .slice (some ⟨gT, 0, none⟩) b.pols.length b.pols.length]), (gT, cel 3 (ints (mixL b.pols.length (takTo l k) (takTo l (k + 1)) j))), (g4, cel 32 [.int .i64 0, .int .i64 0, .int .i64 0, .int .i64 0, .slice none 0 0]), (g2, cel 25 [.slice A n c, .int .i64 b.leak, .int .i64 b.crest, .int .i64 b.over, .slice A2 b.pols.length c2])]) (fun _ => W)
    (fun j => j ≤ b.pols.length) (fun j => b.pols.length - j) 0 (Nat.zero_le _) (by repeat (first | exact Sub.nil | refine Sub.cons rfl ?_)) (fun _ h => by rw [mixL_0]; exact h) ?_
  rintro j hj
  dsimp only [List.cons_append, List.nil_append]
  repeat (first | (refine M0 ?_; first | refine O0 ?_ | refine z1 tok rfl ?_ | refine O1 rfl ?_ rfl | refine O2 rfl ?_ | refine O3 rfl ?_ rfl | refine O4 rfl rfl rfl (fun _ _ => ?_) | refine O5 tok rfl rfl rfl (fun _ _ => ?_) | refine U0 _ (U2 rfl) rfl ?_ | refine U0 _ (U3 tok rfl rfl rfl rfl rfl) rfl ?_ | refine z3 tok rfl ?_ | refine U0 _ (U4 rfl rfl) rfl ?_ | refine U0 _ (U5 rfl rfl) rfl ?_) | (refine M1 ?_; first | refine J0 ?_ | refine J1 ?_ | refine J4 ?_ | refine J5 ?_ | refine J6 ?_ | refine J7 ?_ | refine J8 rfl ?_ | refine J9 rfl ?_) | (refine M2 ?_; first | refine I0 ?_ | refine I1 ?_ | refine I2 ?_ | refine I3 ?_ | refine I4 ?_ | refine I5 ?_ | refine I6 rfl ?_ | refine I7 ?_ | refine I8 ?_ | refine z4 ?_) | (refine M3 ?_; first | refine O6 ?_ | refine z2 tok rfl ?_ | refine O8 rfl ?_ | refine O7 rfl ?_ rfl | refine O9 rfl ?_ rfl | refine U1 _ (U4 rfl rfl) rfl ?_ | refine U1 _ (U5 rfl rfl) rfl ?_ | refine U1 _ (U2 rfl) rfl ?_ | refine U1 _ (U3 tok rfl rfl rfl rfl rfl) rfl ?_) | (refine M4 ?_; first | refine M6 ?_ | refine U6 rfl (by kernel_rfl) ?_ | refine XR.take2 rfl (by kernel_rfl) ?_ | refine U7 (by kernel_rfl) ?_) | (refine M5 ?_; first | exact M7 | refine U8 rfl ?_ | refine U9 rfl rfl ?_ ?_))
  refine XC.cond _ rfl (fun h5 => ?_) (fun h5 => ?_)
  rotate_left
  · have hjn : j = b.pols.length := by have : ¬ (j < b.pols.length) := by simpa using h5
                                       omega
    subst hjn
    repeat (first | (refine M0 ?_; first | refine O0 ?_ | refine z1 tok rfl ?_ | refine O1 rfl ?_ rfl | refine O2 rfl ?_ | refine O3 rfl ?_ rfl | refine O4 rfl rfl rfl (fun _ _ => ?_) | refine O5 tok rfl rfl rfl (fun _ _ => ?_) | refine U0 _ (U2 rfl) rfl ?_ | refine U0 _ (U3 tok rfl rfl rfl rfl rfl) rfl ?_ | refine z3 tok rfl ?_ | refine U0 _ (U4 rfl rfl) rfl ?_ | refine U0 _ (U5 rfl rfl) rfl ?_) | (refine M1 ?_; first | refine J0 ?_ | refine J1 ?_ | refine J4 ?_ | refine J5 ?_ | refine J6 ?_ | refine J7 ?_ | refine J8 rfl ?_ | refine J9 rfl ?_) | (refine M2 ?_; first | refine I0 ?_ | refine I1 ?_ | refine I2 ?_ | refine I3 ?_ | refine I4 ?_ | refine I5 ?_ | refine I6 rfl ?_ | refine I7 ?_ | refine I8 ?_ | refine z4 ?_) | (refine M3 ?_; first | refine O6 ?_ | refine z2 tok rfl ?_ | refine O8 rfl ?_ | refine O7 rfl ?_ rfl | refine O9 rfl ?_ rfl | refine U1 _ (U4 rfl rfl) rfl ?_ | refine U1 _ (U5 rfl rfl) rfl ?_ | refine U1 _ (U2 rfl) rfl ?_ | refine U1 _ (U3 tok rfl rfl rfl rfl rfl) rfl ?_) | (refine M4 ?_; first | refine M6 ?_ | refine U6 rfl (by kernel_rfl) ?_ | refine XR.take2 rfl (by kernel_rfl) ?_ | refine U7 (by kernel_rfl) ?_) | (refine M5 ?_; first | exact M7 | refine U8 rfl ?_ | refine U9 rfl rfl ?_ ?_))
    refine XE.round (k + 1) hkn (by omega) (by repeat (first | exact Sub.nil | refine Sub.cons rfl ?_)) (fun _ h => ?_)
    rw [mixL_end, hff] at h
    exact h.pop hg13
  have hjn : j < b.pols.length := by simpa using h5
  obtain ⟨aq, rfl, hlq, hdq⟩ := hq.at_ (by omega)
  have hcq := hdq j (by omega)
  have t5 := hbd.tak (k := k) (by omega) hjn
  have t6 : -1000000000 ≤ at0 f.taken j ∧ at0 f.taken j ≤ 1000000000 := f5 j (by omega)
  have hml : j < (ints (mixL b.pols.length (takTo l k) (takTo l (k + 1)) j)).length := by rw [mixL_len]; exact hjn
  repeat (first | (refine M0 ?_; first | refine O0 ?_ | refine z1 tok rfl ?_ | refine O1 rfl ?_ rfl | refine O2 rfl ?_ | refine O3 rfl ?_ rfl | refine U0 _ (Ev.load_old tok rfl rfl (add_lt hlq) hcq) rfl ?_ | refine U0 _ (Ev.load_at tok 2 (v := .int .i64 (takTo l k j)) rfl rfl rfl (by simpa using mixL_at hjn)) rfl ?_ | refine O4 rfl rfl rfl (fun _ _ => ?_) | refine O5 tok rfl rfl rfl (fun _ _ => ?_) | refine U0 _ (U2 rfl) rfl ?_ | refine U0 _ (U3 tok rfl rfl rfl rfl rfl) rfl ?_ | refine z3 tok rfl ?_ | refine U0 _ (U4 rfl rfl) rfl ?_ | refine U0 _ (U5 rfl rfl) rfl ?_) | (refine M1 ?_; first | refine J0 ?_ | refine J1 ?_ | refine J2 mixed rfl (by kernel_rfl) ?_ | refine J3 mixed rfl rfl (by kernel_rfl) ?_ | refine J4 ?_ | refine J5 ?_ | refine J6 ?_ | refine J7 ?_ | refine J8 rfl ?_ | refine J9 rfl ?_) | (refine M2 ?_; first | refine I0 ?_ | refine I1 ?_ | refine I2 ?_ | refine I3 ?_ | refine I4 ?_ | refine I5 ?_ | refine I6 rfl ?_ | refine I7 ?_ | refine I8 ?_ | refine z4 ?_) | (refine M3 ?_; first | refine O6 ?_ | refine z2 tok rfl ?_ | refine O8 rfl ?_ | refine O7 rfl ?_ rfl | refine O9 rfl ?_ rfl | refine U1 _ (Ev.load_old tok rfl rfl (add_lt hlq) hcq) rfl ?_ | refine U1 _ (Ev.load_at tok 2 (v := .int .i64 (takTo l k j)) rfl rfl rfl (by simpa using mixL_at hjn)) rfl ?_ | refine U1 _ (U4 rfl rfl) rfl ?_ | refine U1 _ (U5 rfl rfl) rfl ?_ | refine U1 _ (U2 rfl) rfl ?_ | refine U1 _ (U3 tok rfl rfl rfl rfl rfl) rfl ?_) | (refine M4 ?_; first | refine M6 ?_ | refine U6 rfl (by kernel_rfl) ?_ | refine XR.take2 rfl (by kernel_rfl) ?_ | refine U7 (by kernel_rfl) ?_) | (refine M5 ?_; first | exact M7 | refine U8 rfl ?_ | refine U9 rfl rfl ?_ ?_))
  refine XL.store_at tok 2 rfl rfl rfl rfl rfl (show 0 + (j : Int).toNat * 1 < (ints (mixL b.pols.length (takTo l k) (takTo l (k + 1)) j)).length by rw [Int.toNat_natCast]; omega) rfl ?_
  rw [show (ints (mixL b.pols.length (takTo l k) (takTo l (k + 1)) j)).set (0 + (j : Int).toNat * 1) (.int .i64 (takTo l k j + at0 f.taken j)) = ints (mixL b.pols.length (takTo l k) (takTo l (k + 1)) (j + 1)) by
    rw [Int.toNat_natCast, Nat.zero_add, Nat.mul_one, ← mixL_set hjn, hfa j]; rfl]
  repeat (first | (refine M0 ?_; first | refine O0 ?_ | refine z1 tok rfl ?_ | refine O1 rfl ?_ rfl | refine O2 rfl ?_ | refine O3 rfl ?_ rfl | refine O4 rfl rfl rfl (fun _ _ => ?_) | refine O5 tok rfl rfl rfl (fun _ _ => ?_) | refine U0 _ (U2 rfl) rfl ?_ | refine U0 _ (U3 tok rfl rfl rfl rfl rfl) rfl ?_ | refine z3 tok rfl ?_ | refine U0 _ (U4 rfl rfl) rfl ?_ | refine U0 _ (U5 rfl rfl) rfl ?_) | (refine M1 ?_; first | refine J0 ?_ | refine J1 ?_ | refine J4 ?_ | refine J5 ?_ | refine J6 ?_ | refine J7 ?_ | refine J8 rfl ?_ | refine J9 rfl ?_) | (refine M2 ?_; first | refine I0 ?_ | refine I1 ?_ | refine I2 ?_ | refine I3 ?_ | refine I4 ?_ | refine I5 ?_ | refine I6 rfl ?_ | refine I7 ?_ | refine I8 ?_ | refine z4 ?_) | (refine M3 ?_; first | refine O6 ?_ | refine z2 tok rfl ?_ | refine O8 rfl ?_ | refine O7 rfl ?_ rfl | refine O9 rfl ?_ rfl | refine U1 _ (U4 rfl rfl) rfl ?_ | refine U1 _ (U5 rfl rfl) rfl ?_ | refine U1 _ (U2 rfl) rfl ?_ | refine U1 _ (U3 tok rfl rfl rfl rfl rfl) rfl ?_) | (refine M4 ?_; first | refine M6 ?_ | refine U6 rfl (by kernel_rfl) ?_ | refine XR.take2 rfl (by kernel_rfl) ?_ | refine U7 (by kernel_rfl) ?_) | (refine M5 ?_; first | exact M7 | refine U8 rfl ?_ | refine U9 rfl rfl ?_ ?_))
  exact XE.round (j + 1) hjn (by omega) (by repeat (first | exact Sub.nil | refine Sub.cons rfl ?_)) (fun _ h => h)
end Go.Proofs.YtoiepgcjinccpaaDoor.X
/-
  The law BasinTotals.
-/
namespace Go.Proofs.YtoiepgcjinccpaaDoor.X
open Go Go.RowKit Go.Proofs.YtoiepgcjinccpaaDoor.Bs
set_option linter.unusedVariables false
set_option maxHeartbeats 8000000 in
theorem BasinTotals_any {p : BV} {b : Bas} {r : SV} {fs : List FloI} {w : World} (hL : Laid w) (hb : BasAt w w.heap.size p b) (hr : ListAt floK w (Lt w.heap.size) r fs) :
    Calls Tryd.prog 13 #[basV p b, svV r] w fun e w' => e = .returned (.bool true) ∧ Below w.heap.size w w' := by
  obtain ⟨l, hl⟩ : ∃ l, l = fs.map (·.f) := ⟨_, rfl⟩
  simp only [basV, basC, svV]
  refine enter Tryd.func13 rfl Tryd.ntmps13 rfl ?_; simp only [frame, Nat.zero_add, Nat.reduceAdd]
  repeat (first | (refine M0 ?_; first | refine O0 ?_ | refine z1 tok rfl ?_ | refine O1 rfl ?_ rfl | refine O2 rfl ?_ | refine O3 rfl ?_ rfl | refine O4 rfl rfl rfl (fun _ _ => ?_) | refine O5 tok rfl rfl rfl (fun _ _ => ?_) | refine U0 _ (U2 rfl) rfl ?_ | refine U0 _ (U3 tok rfl rfl rfl rfl rfl) rfl ?_ | refine z3 tok rfl ?_ | refine U0 _ (U4 rfl rfl) rfl ?_ | refine U0 _ (U5 rfl rfl) rfl ?_) | (refine M1 ?_; first | refine J0 ?_ | refine J1 ?_ | refine J4 ?_ | refine J5 ?_ | refine J6 ?_ | refine J7 ?_ | refine J8 rfl ?_ | refine J9 rfl ?_) | (refine M2 ?_; first | refine I0 ?_ | refine I1 ?_ | refine I2 ?_ | refine I3 ?_ | refine I4 ?_ | refine I5 ?_ | refine I6 rfl ?_ | refine I7 ?_ | refine I8 ?_ | refine z4 ?_) | (refine M3 ?_; first | refine O6 ?_ | refine z2 tok rfl ?_ | refine O8 rfl ?_ | refine O7 rfl ?_ rfl | refine O9 rfl ?_ rfl | refine U1 _ (U4 rfl rfl) rfl ?_ | refine U1 _ (U5 rfl rfl) rfl ?_ | refine U1 _ (U2 rfl) rfl ?_ | refine U1 _ (U3 tok rfl rfl rfl rfl rfl) rfl ?_) | (refine M4 ?_; first | refine M6 ?_ | refine U6 rfl (by kernel_rfl) ?_ | refine U7 (by kernel_rfl) ?_) | (refine M5 ?_; first | exact M7 | refine U8 rfl ?_ | refine U9 rfl rfl ?_ ?_))
  rename_i g2 hg2
  refine XL.callF (TotV b l) (ck rfl) rfl rfl (Fam.start (ks := []) (Nat.le_refl w.heap.size)) (fun _ h => by cases h) (Below.refl w.heap.size w) (fun w1 S1 _ _ => by rw [hl]; exact Total_any (p := p) (r := r) (hb.sys S1) (hr.arg S1)) (fun w2 v new hR hF2 hB2 hk2 => ?_)
  obtain ⟨q2, rfl, rfl⟩ := hR
  simp only [floV, floC]
  repeat (first | (refine M0 ?_; first | refine O0 ?_ | refine z1 tok rfl ?_ | refine O1 rfl ?_ rfl | refine O2 rfl ?_ | refine O3 rfl ?_ rfl | refine O4 rfl rfl rfl (fun _ _ => ?_) | refine O5 tok rfl rfl rfl (fun _ _ => ?_) | refine U0 _ (U2 rfl) rfl ?_ | refine U0 _ (U3 tok rfl rfl rfl rfl rfl) rfl ?_ | refine z3 tok rfl ?_ | refine U0 _ (U4 rfl rfl) rfl ?_ | refine U0 _ (U5 rfl rfl) rfl ?_) | (refine M1 ?_; first | refine J0 ?_ | refine J1 ?_ | refine J4 ?_ | refine J5 ?_ | refine J6 ?_ | refine J7 ?_ | refine J8 rfl ?_ | refine J9 rfl ?_) | (refine M2 ?_; first | refine I0 ?_ | refine I1 ?_ | refine I2 ?_ | refine I3 ?_ | refine I4 ?_ | refine I5 ?_ | refine I6 rfl ?_ | refine I7 ?_ | refine I8 ?_ | refine z4 ?_) | (refine M3 ?_; first | refine O6 ?_ | refine z2 tok rfl ?_ | refine O8 rfl ?_ | refine O7 rfl ?_ rfl | refine O9 rfl ?_ rfl | refine U1 _ (U4 rfl rfl) rfl ?_ | refine U1 _ (U5 rfl rfl) rfl ?_ | refine U1 _ (U2 rfl) rfl ?_ | refine U1 _ (U3 tok rfl rfl rfl rfl rfl) rfl ?_) | (refine M4 ?_; first | refine M6 ?_ | refine U6 rfl (by kernel_rfl) ?_ | refine U7 (by kernel_rfl) ?_) | (refine M5 ?_; first | exact M7 | refine U8 rfl ?_ | refine U9 rfl rfl ?_ ?_))
  rename_i g5 hg5
  refine XL.callF (TotV b l) (ck rfl) rfl rfl hF2 hk2 hB2 (fun w1 S1 _ hB1 => by rw [hl]; exact refTotal_any (p := p) (r := r) ((hb.below hB2).sys S1) ((hr.below hB2).arg S1)) (fun w4 v new hR hF4 hB4 hk4 => ?_)
  obtain ⟨q4, rfl, rfl⟩ := hR
  simp only [floV, floC]
  repeat (first | (refine M0 ?_; first | refine O0 ?_ | refine z1 tok rfl ?_ | refine O1 rfl ?_ rfl | refine O2 rfl ?_ | refine O3 rfl ?_ rfl | refine O4 rfl rfl rfl (fun _ _ => ?_) | refine O5 tok rfl rfl rfl (fun _ _ => ?_) | refine U0 _ (U2 rfl) rfl ?_ | refine U0 _ (U3 tok rfl rfl rfl rfl rfl) rfl ?_ | refine z3 tok rfl ?_ | refine U0 _ (U4 rfl rfl) rfl ?_ | refine U0 _ (U5 rfl rfl) rfl ?_) | (refine M1 ?_; first | refine J0 ?_ | refine J1 ?_ | refine J4 ?_ | refine J5 ?_ | refine J6 ?_ | refine J7 ?_ | refine J8 rfl ?_ | refine J9 rfl ?_) | (refine M2 ?_; first | refine I0 ?_ | refine I1 ?_ | refine I2 ?_ | refine I3 ?_ | refine I4 ?_ | refine I5 ?_ | refine I6 rfl ?_ | refine I7 ?_ | refine I8 ?_ | refine z4 ?_) | (refine M3 ?_; first | refine O6 ?_ | refine z2 tok rfl ?_ | refine O8 rfl ?_ | refine O7 rfl ?_ rfl | refine O9 rfl ?_ rfl | refine U1 _ (U4 rfl rfl) rfl ?_ | refine U1 _ (U5 rfl rfl) rfl ?_ | refine U1 _ (U2 rfl) rfl ?_ | refine U1 _ (U3 tok rfl rfl rfl rfl rfl) rfl ?_) | (refine M4 ?_; first | refine M6 ?_ | refine U6 rfl (by kernel_rfl) ?_ | refine U7 (by kernel_rfl) ?_) | (refine M5 ?_; first | exact M7 | refine U8 rfl ?_ | refine U9 rfl rfl ?_ ?_))
  rename_i g7 hg7
  refine XL.step _ (Ev.call (f := 22) (ck rfl) rfl (fun w5 S5 => (sameFlows_self (q := q2) (r := q4) (s := totF b l) (Held.lt (x := hInts q2 (totF b l).taken) ((hF4.sys S5 (by intro e he; repeat (first | (cases he; done) | (rcases List.mem_cons.1 he with rfl | he; · first | (right; assumption) | (left; simp <;> fail))))).get (.tail _ (.head _)))) (Held.lt (x := hInts q4 (totF b l).taken) ((hF4.sys S5 (by intro e he; repeat (first | (cases he; done) | (rcases List.mem_cons.1 he with rfl | he; · first | (right; assumption) | (left; simp <;> fail))))).get (.head _))) :))) rfl ?_
  repeat (first | (refine M0 ?_; first | refine O0 ?_ | refine z1 tok rfl ?_ | refine O1 rfl ?_ rfl | refine O2 rfl ?_ | refine O3 rfl ?_ rfl | refine O4 rfl rfl rfl (fun _ _ => ?_) | refine O5 tok rfl rfl rfl (fun _ _ => ?_) | refine U0 _ (U2 rfl) rfl ?_ | refine U0 _ (U3 tok rfl rfl rfl rfl rfl) rfl ?_ | refine z3 tok rfl ?_ | refine U0 _ (U4 rfl rfl) rfl ?_ | refine U0 _ (U5 rfl rfl) rfl ?_) | (refine M1 ?_; first | refine J0 ?_ | refine J1 ?_ | refine J4 ?_ | refine J5 ?_ | refine J6 ?_ | refine J7 ?_ | refine J8 rfl ?_ | refine J9 rfl ?_) | (refine M2 ?_; first | refine I0 ?_ | refine I1 ?_ | refine I2 ?_ | refine I3 ?_ | refine I4 ?_ | refine I5 ?_ | refine I6 rfl ?_ | refine I7 ?_ | refine I8 ?_ | refine z4 ?_) | (refine M3 ?_; first | refine O6 ?_ | refine z2 tok rfl ?_ | refine O8 rfl ?_ | refine O7 rfl ?_ rfl | refine O9 rfl ?_ rfl | refine U1 _ (U4 rfl rfl) rfl ?_ | refine U1 _ (U5 rfl rfl) rfl ?_ | refine U1 _ (U2 rfl) rfl ?_ | refine U1 _ (U3 tok rfl rfl rfl rfl rfl) rfl ?_) | (refine M4 ?_; first | refine M6 ?_ | refine U6 rfl (by kernel_rfl) ?_ | refine U7 (by kernel_rfl) ?_) | (refine M5 ?_; first | exact M7 | refine U8 rfl ?_ | refine U9 rfl rfl ?_ ?_))
  rw [show decide (totE b l = totE b l) = true by simp]
  repeat (first | (refine M0 ?_; first | refine O0 ?_ | refine z1 tok rfl ?_ | refine O1 rfl ?_ rfl | refine O2 rfl ?_ | refine O3 rfl ?_ rfl | refine O4 rfl rfl rfl (fun _ _ => ?_) | refine O5 tok rfl rfl rfl (fun _ _ => ?_) | refine U0 _ (U2 rfl) rfl ?_ | refine U0 _ (U3 tok rfl rfl rfl rfl rfl) rfl ?_ | refine z3 tok rfl ?_ | refine U0 _ (U4 rfl rfl) rfl ?_ | refine U0 _ (U5 rfl rfl) rfl ?_) | (refine M1 ?_; first | refine J0 ?_ | refine J1 ?_ | refine J4 ?_ | refine J5 ?_ | refine J6 ?_ | refine J7 ?_ | refine J8 rfl ?_ | refine J9 rfl ?_) | (refine M2 ?_; first | refine I0 ?_ | refine I1 ?_ | refine I2 ?_ | refine I3 ?_ | refine I4 ?_ | refine I5 ?_ | refine I6 rfl ?_ | refine I7 ?_ | refine I8 ?_ | refine z4 ?_) | (refine M3 ?_; first | refine O6 ?_ | refine z2 tok rfl ?_ | refine O8 rfl ?_ | refine O7 rfl ?_ rfl | refine O9 rfl ?_ rfl | refine U1 _ (U4 rfl rfl) rfl ?_ | refine U1 _ (U5 rfl rfl) rfl ?_ | refine U1 _ (U2 rfl) rfl ?_ | refine U1 _ (U3 tok rfl rfl rfl rfl rfl) rfl ?_) | (refine M4 ?_; first | refine M6 ?_ | refine U6 rfl (by kernel_rfl) ?_ | refine U7 (by kernel_rfl) ?_) | (refine M5 ?_; first | exact M7 | refine U8 rfl ?_ | refine U9 rfl rfl ?_ ?_))
  refine XL.step _ (Ev.call (f := 23) (ck rfl) rfl (fun w S => (Awake_any (hL.below (hB4.trans S.toBelow)) :))) rfl ?_
  repeat (first | (refine M0 ?_; first | refine O0 ?_ | refine z1 tok rfl ?_ | refine O1 rfl ?_ rfl | refine O2 rfl ?_ | refine O3 rfl ?_ rfl | refine O4 rfl rfl rfl (fun _ _ => ?_) | refine O5 tok rfl rfl rfl (fun _ _ => ?_) | refine U0 _ (U2 rfl) rfl ?_ | refine U0 _ (U3 tok rfl rfl rfl rfl rfl) rfl ?_ | refine z3 tok rfl ?_ | refine U0 _ (U4 rfl rfl) rfl ?_ | refine U0 _ (U5 rfl rfl) rfl ?_) | (refine M1 ?_; first | refine J0 ?_ | refine J1 ?_ | refine J4 ?_ | refine J5 ?_ | refine J6 ?_ | refine J7 ?_ | refine J8 rfl ?_ | refine J9 rfl ?_) | (refine M2 ?_; first | refine I0 ?_ | refine I1 ?_ | refine I2 ?_ | refine I3 ?_ | refine I4 ?_ | refine I5 ?_ | refine I6 rfl ?_ | refine I7 ?_ | refine I8 ?_ | refine z4 ?_) | (refine M3 ?_; first | refine O6 ?_ | refine z2 tok rfl ?_ | refine O8 rfl ?_ | refine O7 rfl ?_ rfl | refine O9 rfl ?_ rfl | refine U1 _ (U4 rfl rfl) rfl ?_ | refine U1 _ (U5 rfl rfl) rfl ?_ | refine U1 _ (U2 rfl) rfl ?_ | refine U1 _ (U3 tok rfl rfl rfl rfl rfl) rfl ?_) | (refine M4 ?_; first | refine M6 ?_ | refine U6 rfl (by kernel_rfl) ?_ | refine U7 (by kernel_rfl) ?_) | (refine M5 ?_; first | exact M7 | refine U8 rfl ?_ | refine U9 rfl rfl ?_ ?_))
  refine XE.retg tok Tryd.results13 rfl (by simp only [and_self, and_true]) (fun w' S => ?_)
  exact ⟨rfl, hB4.trans S.toBelow⟩
end Go.Proofs.YtoiepgcjinccpaaDoor.X
/-
  From the reading of the arguments to how they lie in memory.
-/
namespace Go.Proofs.YtoiepgcjinccpaaDoor.X
open Go Go.RowKit Go.Proofs.YtoiepgcjinccpaaDoor.Bs Go.WideShapes Go.ChangeShapes
set_option linter.unusedVariables false
section
variable {H : Type} {enc : TypeId × Value → H} {P : Program} {w : World} {base : Nat} {spare : Nat → Bool} {held : Bool}
/-- a field of one cell. -/
theorem fieldR {t : TypeId} {fs : Array Field} {fuel : Nat} {cs : List Value} {x : DataW H × List MemPlace} (ht : P.underlying t = some (.struct fs)) (h : DataW.trod enc P w base spare held fuel t cs = some x) :
    cs.length = P.cellsOf t ∧ ∃ n, ∀ (i : Nat) (f : Field), fs[i]? = some f → P.cellsOf f.type = 1 → f.offset < cs.length → ∃ c y, cs[f.offset]? = some c ∧ DataW.trod enc P w base spare held n f.type [c] = some y := by
  obtain ⟨xs, n, _, rfl, hl, hlen, hf⟩ := DataW.trod_struct ht h
  refine ⟨hl, n, fun i f hi hc ho => ?_⟩
  have h1 := hf i f hi
  have hi' : i < xs.length := by rw [hlen]; exact (Array.getElem?_eq_some_iff.1 hi).1
  rw [hc, List.getElem?_eq_getElem hi'] at h1
  refine ⟨cs[f.offset], xs[i], List.getElem?_eq_getElem ho, ?_⟩
  rw [List.drop_eq_getElem_cons ho, List.take_succ_cons, List.take_zero] at h1
  exact h1
theorem choose_list {α : Type} {p : Nat → α → Prop} : ∀ n : Nat, (∀ i, i < n → ∃ b, p i b) → ∃ l : List α, l.length = n ∧ ∀ i b, l[i]? = some b → p i b := by
  intro n
  induction n with
  | zero => intro _; exact ⟨[], rfl, fun i b hb => by cases hb⟩
  | succ k ih =>
    intro hall
    obtain ⟨l, h1, h2⟩ := ih fun i hi => hall i (by omega)
    obtain ⟨b, h3⟩ := hall k (by omega)
    refine ⟨l ++ [b], by simp [h1], fun i c hc => ?_⟩
    rcases Nat.lt_or_ge i l.length with hi | hi
    · rw [List.getElem?_append_left hi] at hc
      exact h2 i c hc
    · have hi' : i < (l ++ [b]).length := (List.getElem?_eq_some_iff.1 hc).1
      have : i = l.length := by simp at hi'; omega
      subst this
      simp at hc
      subst hc
      rw [h1]
      exact h3
/-- a slice of elements that are decoded by C. -/
theorem sliceR {α : Type} {C : α → List Value} {G : α → Prop} {t e : TypeId} {m fuel : Nat} {cs : List Value} {x : DataW H × List MemPlace} (ht : P.underlying t = some (.slice e)) (he : P.cellsOf e = m)
    (hd : ∀ n cs x, DataW.trod enc P w base spare held n e cs = some x → ∃ a, cs = C a ∧ G a) (hm : ∀ a, (C a).length = m) (h0 : 0 < m) (h : DataW.trod enc P w base spare held fuel t cs = some x) :
    ∃ (A : Option Addr) (n c : Nat) (l : List α), cs = [.slice A n c] ∧ Reads w w.heap.size m A n (l.flatMap C) ∧ n ≤ c ∧ c ≤ maxLen ∧ ∀ a, a ∈ l → G a := by
  rcases Go.Deep.open_slice ht h with ⟨rfl, _⟩ | ⟨a, len, cap, m', n', D, Pl, rfl, hb, hl, hcm, hmm, _, hx⟩
  · exact ⟨none, 0, 0, [], rfl, Reads.none_, Nat.le_refl _, Nat.zero_le _, fun a ha => by cases ha⟩
  · rw [he] at hx
    have hlm : len ≤ m' := by rw [hmm]; split <;> omega
    have hall : ∀ i, i < len → ∃ b : α, w.cells? base (a.add (i * m)) m = some (C b) ∧ G b := fun i hi => by
      obtain ⟨cs', h1, h2⟩ := hx i (by omega)
      obtain ⟨b, rfl, hg⟩ := hd _ _ _ h2
      exact ⟨b, h1, hg⟩
    obtain ⟨l, hll, hlx⟩ := choose_list len hall
    refine ⟨some a, len, cap, l, rfl, ⟨by rw [flat_len C m hm, hll], fun hn => ?_⟩, hl, hcm, fun b hb => ?_⟩
    · have hcell : ∀ j u, (l.flatMap C)[j]? = some u → w.cell? (a.add j) = some u := fun j u hj => by
        have hjl : j < (l.flatMap C).length := (List.getElem?_eq_some_iff.1 hj).1
        rw [flat_len C m hm] at hjl
        have hdm := Nat.div_add_mod j m
        have hlt : j / m < l.length := Nat.div_lt_of_lt_mul (by rw [Nat.mul_comm]; exact hjl)
        have hb : l[j / m]? = some l[j / m] := List.getElem?_eq_getElem hlt
        have h1 := flat_at C m hm l (j / m) (j % m) _ hb (Nat.mod_lt _ h0)
        rw [show j / m * m + j % m = j by rw [Nat.mul_comm]; exact hdm, hj] at h1
        obtain ⟨_, _, h2⟩ := World.cells?_some (hlx _ _ hb).1
        have h3 := h2 (j % m) (Nat.mod_lt _ h0)
        rw [add_add, show j / m * m + j % m = j by rw [Nat.mul_comm]; exact hdm, ← h1] at h3
        exact h3
      refine ⟨a, rfl, ?_, hcell⟩
      obtain ⟨b, h1, _⟩ := hall 0 hn
      have := World.cells?_block h1 h0
      simpa [add_block] using this
    · obtain ⟨i, hi, rfl⟩ := List.mem_iff_getElem.1 hb
      exact (hlx i _ (List.getElem?_eq_getElem hi)).2
end
section
variable {H : Type} {enc : TypeId × Value → H} {w : World} {base : Nat} {spare : Nat → Bool} {held : Bool} {fuel : Nat} {cs : List Value} {x : DataW H × List MemPlace}
theorem intR {n : Nat} {c : Value} {y : DataW H × List MemPlace} (h : DataW.trod enc Tryd.prog w base spare held n 3 [c] = some y) : ∃ k : Int, c = .int .i64 k := by
  obtain ⟨k, e, _⟩ := DataW.trod_int Tryd.underlying3 h
  exact ⟨k, by simpa using e⟩
theorem strR {n : Nat} {c : Value} {y : DataW H × List MemPlace} (h : DataW.trod enc Tryd.prog w base spare held n 9 [c] = some y) : ∃ s : ByteArray, c = .string s ∧ s.size ≤ maxLen := by
  obtain ⟨s, e, _, hs⟩ := DataW.trod_string Tryd.underlying9 h
  exact ⟨s, by simpa using e, hs⟩
theorem c_int : (Tryd.prog).cellsOf 3 = 1 := by kernel_rfl
theorem c_str : (Tryd.prog).cellsOf 9 = 1 := by kernel_rfl
theorem c_row : (Tryd.prog).cellsOf 67 = 2 := by kernel_rfl
theorem c_pol : (Tryd.prog).cellsOf 76 = 4 := by kernel_rfl
theorem c_bas : (Tryd.prog).cellsOf 25 = 5 := by kernel_rfl
theorem c_rows : (Tryd.prog).cellsOf 22 = 1 := by kernel_rfl
theorem c_pols : (Tryd.prog).cellsOf 23 = 1 := by kernel_rfl
theorem c_ints : (Tryd.prog).cellsOf 26 = 1 := by kernel_rfl
theorem rowR (h : DataW.trod enc Tryd.prog w base spare held fuel 67 cs = some x) : ∃ r : Row, cs = rowC r := by
  obtain ⟨hl, n, hf⟩ := fieldR Tryd.underlying67 h
  rw [c_row] at hl
  match cs, hl with
  | [c0, c1], _ =>
    obtain ⟨d0, y0, e0, h0⟩ := hf 0 _ rfl c_int (Nat.le_of_ble_eq_true rfl)
    obtain ⟨d1, y1, e1, h1⟩ := hf 1 _ rfl c_int (Nat.le_of_ble_eq_true rfl)
    obtain ⟨k0, rfl⟩ := intR h0
    obtain ⟨k1, rfl⟩ := intR h1
    cases e0; cases e1
    exact ⟨⟨k0, k1⟩, rfl⟩
theorem polR (h : DataW.trod enc Tryd.prog w base spare held fuel 76 cs = some x) : ∃ r : Pol, cs = polC r ∧ r.name.size ≤ maxLen := by
  obtain ⟨hl, n, hf⟩ := fieldR Tryd.underlying76 h
  rw [c_pol] at hl
  match cs, hl with
  | [c0, c1, c2, c3], _ =>
    obtain ⟨d0, y0, e0, h0⟩ := hf 0 _ rfl c_str (Nat.le_of_ble_eq_true rfl)
    obtain ⟨d1, y1, e1, h1⟩ := hf 1 _ rfl c_int (Nat.le_of_ble_eq_true rfl)
    obtain ⟨d2, y2, e2, h2⟩ := hf 2 _ rfl c_int (Nat.le_of_ble_eq_true rfl)
    obtain ⟨d3, y3, e3, h3⟩ := hf 3 _ rfl c_int (Nat.le_of_ble_eq_true rfl)
    obtain ⟨s, rfl, hs⟩ := strR h0
    obtain ⟨k1, rfl⟩ := intR h1
    obtain ⟨k2, rfl⟩ := intR h2
    obtain ⟨k3, rfl⟩ := intR h3
    cases e0; cases e1; cases e2; cases e3
    exact ⟨⟨s, k1, k2, k3⟩, rfl, hs⟩
theorem ints_flat (l : List Int) : l.flatMap (fun k : Int => [Value.int .i64 k]) = ints l := by
  unfold ints
  induction l with
  | nil => rfl
  | cons a l ih => rw [List.flatMap_cons, ih]; rfl
theorem intsR (h : DataW.trod enc Tryd.prog w base spare held fuel 26 cs = some x) : ∃ (q : SV) (l : List Int), cs = [svV q] ∧ IntsAt w (Lt w.heap.size) q l := by
  obtain ⟨A, n, c, l, rfl, hr, hnc, hcm, _⟩ := sliceR (C := fun k : Int => [.int .i64 k]) (G := fun _ => True) Tryd.underlying26 c_int (fun n cs x h => by
    obtain ⟨k, e, _⟩ := DataW.trod_int Tryd.underlying3 h
    exact ⟨k, e, trivial⟩) (fun _ => rfl) (by decide) h
  refine ⟨⟨A, n, c⟩, l, rfl, ?_, by simp only; unfold maxLen at hcm; omega⟩
  have := ints_flat l
  rw [this] at hr
  exact ReadsP.of hr
theorem basR (h : DataW.trod enc Tryd.prog w base spare held fuel 25 cs = some x) : ∃ (p : BV) (b : Bas), cs = basC p b ∧ BasAt w w.heap.size p b := by
  obtain ⟨hl, n, hf⟩ := fieldR Tryd.underlying25 h
  rw [c_bas] at hl
  match cs, hl with
  | [c0, c1, c2, c3, c4], _ =>
    obtain ⟨d0, y0, e0, h0⟩ := hf 0 _ rfl c_rows (Nat.le_of_ble_eq_true rfl)
    obtain ⟨d1, y1, e1, h1⟩ := hf 1 _ rfl c_int (Nat.le_of_ble_eq_true rfl)
    obtain ⟨d2, y2, e2, h2⟩ := hf 2 _ rfl c_int (Nat.le_of_ble_eq_true rfl)
    obtain ⟨d3, y3, e3, h3⟩ := hf 3 _ rfl c_int (Nat.le_of_ble_eq_true rfl)
    obtain ⟨d4, y4, e4, h4⟩ := hf 4 _ rfl c_pols (Nat.le_of_ble_eq_true rfl)
    obtain ⟨k1, rfl⟩ := intR h1
    obtain ⟨k2, rfl⟩ := intR h2
    obtain ⟨k3, rfl⟩ := intR h3
    obtain ⟨A, n1, cc, l, e5, hr, hnc, hcm, _⟩ := sliceR (C := rowC) (G := fun _ => True) Tryd.underlying22 c_row (fun n cs x h => by
      obtain ⟨k, e⟩ := rowR h
      exact ⟨k, e, trivial⟩) rowC_len (by decide) h0
    obtain ⟨A2, n2, cc2, l2, e6, hr2, hnc2, hcm2, hg⟩ := sliceR (C := polC) (G := fun r => r.name.size ≤ maxLen) Tryd.underlying23 c_pol (fun n cs x h => polR h) polC_len (by decide) h4
    cases e0; cases e1; cases e2; cases e3; cases e4; cases e5; cases e6
    refine ⟨⟨A, n1, cc, A2, n2, cc2⟩, ⟨l, k1, k2, k3, l2⟩, rfl, hr, hr2, hnc, ?_, ?_, fun r hr => ?_⟩
    · simp only; unfold maxLen at hcm; omega
    · simp only; unfold maxLen at hcm2; omega
    · have := hg r hr
      unfold maxLen at this; omega
end
end Go.Proofs.YtoiepgcjinccpaaDoor.X
/-
  From the reading of the arguments to how they lie in memory: ticks, numbers, cases.
-/
namespace Go.Proofs.YtoiepgcjinccpaaDoor.X
open Go Go.RowKit Go.Proofs.YtoiepgcjinccpaaDoor.Bs Go.WideShapes Go.ChangeShapes
set_option linter.unusedVariables false
section
variable {H : Type} {enc : TypeId × Value → H} {w : World} {base : Nat} {spare : Nat → Bool} {held : Bool} {fuel : Nat} {cs : List Value} {x : DataW H × List MemPlace}
/-- the fields, of however many cells. -/
theorem fieldN {P : Program} {t : TypeId} {fs : Array Field} (ht : P.underlying t = some (.struct fs)) (h : DataW.trod enc P w base spare held fuel t cs = some x) :
    cs.length = P.cellsOf t ∧ ∃ n, ∀ (i : Nat) (f : Field) (u : TypeId) (o m : Nat), fs[i]? = some f → f.type = u → f.offset = o → P.cellsOf u = m → ∃ y, DataW.trod enc P w base spare held n u ((cs.drop o).take m) = some y := by
  obtain ⟨xs, n, _, rfl, hl, hlen, hf⟩ := DataW.trod_struct ht h
  refine ⟨hl, n, fun i f u o m hi hu ho hm => ?_⟩
  subst hu ho hm
  have h1 := hf i f hi
  have hi' : i < xs.length := by rw [hlen]; exact (Array.getElem?_eq_some_iff.1 hi).1
  rw [List.getElem?_eq_getElem hi'] at h1
  exact ⟨xs[i], h1⟩
/-- a number. -/
theorem intR' (h : DataW.trod enc Tryd.prog w base spare held fuel 3 cs = some x) : ∃ k : Int, cs = [.int .i64 k] := by
  obtain ⟨k, e, _⟩ := DataW.trod_int Tryd.underlying3 h
  exact ⟨k, e⟩
end
end Go.Proofs.YtoiepgcjinccpaaDoor.X
/-
  From the reading of the arguments to how they lie in memory: flows.
-/
namespace Go.Proofs.YtoiepgcjinccpaaDoor.X
open Go Go.RowKit Go.Proofs.YtoiepgcjinccpaaDoor.Bs Go.WideShapes Go.ChangeShapes
set_option linter.unusedVariables false
section
variable {H : Type} {enc : TypeId × Value → H} {w : World} {base : Nat} {spare : Nat → Bool} {held : Bool} {fuel : Nat} {cs : List Value} {x : DataW H × List MemPlace}
theorem c_flo : (Tryd.prog).cellsOf 32 = 5 := by kernel_rfl
theorem floR (h : DataW.trod enc Tryd.prog w base spare held fuel 32 cs = some x) : ∃ a : FloI, cs = a.c ∧ IntsAt w (Lt w.heap.size) a.r a.f.taken := by
  obtain ⟨hl, n, hf⟩ := fieldN Tryd.underlying32 h
  rw [c_flo] at hl
  match cs, hl with
  | [c0, c1, c2, c3, c4], _ =>
    obtain ⟨y0, h0⟩ := hf 0 _ 3 0 1 rfl rfl rfl c_int
    obtain ⟨y1, h1⟩ := hf 1 _ 3 1 1 rfl rfl rfl c_int
    obtain ⟨y2, h2⟩ := hf 2 _ 3 2 1 rfl rfl rfl c_int
    obtain ⟨y3, h3⟩ := hf 3 _ 3 3 1 rfl rfl rfl c_int
    obtain ⟨y4, h4⟩ := hf 4 _ 26 4 1 rfl rfl rfl c_ints
    obtain ⟨k0, e0⟩ := intR' (cs := [c0]) h0
    obtain ⟨k1, e1⟩ := intR' (cs := [c1]) h1
    obtain ⟨k2, e2⟩ := intR' (cs := [c2]) h2
    obtain ⟨k3, e3⟩ := intR' (cs := [c3]) h3
    obtain ⟨q, l, e4, hq⟩ := intsR (cs := [c4]) h4
    cases e0; cases e1; cases e2; cases e3; cases e4
    exact ⟨⟨⟨k0, k1, k2, k3, l⟩, q⟩, rfl, hq⟩
theorem flosR (h : DataW.trod enc Tryd.prog w base spare held fuel 43 cs = some x) : ∃ (r : SV) (fs : List FloI), cs = [svV r] ∧ ListAt floK w (Lt w.heap.size) r fs := by
  obtain ⟨A, n, c, l, rfl, hr, hnc, hcm, hg⟩ := sliceR (C := floK.c) (G := fun a : FloI => IntsAt w (Lt w.heap.size) a.r a.f.taken) Tryd.underlying43 c_flo (fun n cs x h => floR h) floK.len (by decide) h
  exact ⟨⟨A, n, c⟩, l, rfl, ReadsP.of hr, by simp only; unfold maxLen at hcm; omega, fun a ha x hx => by
    have hx' : x = hInts a.r a.f.taken := List.mem_singleton.1 hx
    subst hx'
    exact hg a ha⟩
end
end Go.Proofs.YtoiepgcjinccpaaDoor.X
