/-
  The walks of the document's Check, and of what returns its error alone (good, valid).
-/
import Derived.Test.YtoiepgcjinccpaaDoorBs2
import Derived.Test.YtoiepgcjinccpaaDoorBsDef2
namespace Go.Proofs.YtoiepgcjinccpaaDoor.X
open Go Go.RowKit Go.Proofs.YtoiepgcjinccpaaDoor.Bs
set_option linter.unusedVariables false
set_option maxHeartbeats 4000000 in
theorem polder_any {p : BV} {b : Bas} {w : World} (hb : BasAt w w.heap.size p b) (h0 : 0 < b.rows.length) {i : Nat} (hi : i < b.pols.length) :
    Calls Tryd.prog 65 #[basV p b, .int .i64 (i : Int)] w fun e w' => e = .returned (.int .i64 (polErr b i)) ∧ Below w.heap.size w w' := by
  obtain ⟨A, n, c, A2, n2, c2⟩ := p
  have hn := hb.n_eq
  have hn2 := hb.n2_eq
  simp only at hn hn2
  subst hn hn2
  obtain ⟨ad, rfl, hlt⟩ := hb.rows.addr (by simp only; omega)
  obtain ⟨ad2, rfl, hlt2⟩ := hb.pols.addr (by simp only; omega)
  simp only [basV, basC]
  refine enter Tryd.func65 rfl Tryd.ntmps65 rfl ?_; simp only [frame, Nat.zero_add, Nat.reduceAdd]
  repeat (any_goals (first | (refine M0 ?_; first | refine O0 ?_ | refine z1 tok rfl ?_ | refine O1 rfl ?_ rfl | refine O2 rfl ?_ | refine O3 rfl ?_ rfl | (refine XL.split _ _ rfl (fun h => ?_) (fun h => ?_) <;> rw [h]) | refine U0 _ (Ev.load_old_agg tok (polC (b.pol i)) rfl rfl rfl (add_lt hlt2) (hb.pol hi)) rfl ?_ | refine U0 _ (Ev.call (f := 95) (ck rfl) rfl (fun w _ => refName_any _ (hb.name hi) w)) rfl ?_ | refine O4 rfl rfl rfl (fun _ _ => ?_) | refine O5 tok rfl rfl rfl (fun _ _ => ?_) | refine U0 _ (U2 rfl) rfl ?_ | refine U0 _ (U3 tok rfl rfl rfl rfl rfl) rfl ?_ | refine z3 tok rfl ?_ | refine U0 _ (U4 rfl rfl) rfl ?_ | refine U0 _ (U5 rfl rfl) rfl ?_) | (refine M1 ?_; first | refine J0 ?_ | refine J1 ?_ | refine J2 mixed rfl (by kernel_rfl) ?_ | refine J3 mixed rfl rfl (by kernel_rfl) ?_ | refine J4 ?_ | refine J5 ?_ | refine J6 ?_ | refine J7 ?_ | refine J8 rfl ?_ | refine J9 rfl ?_ | refine XC.cond _ rfl (fun h => ?_) (fun h => ?_)) | (refine M2 ?_; first | refine I0 ?_ | refine I1 ?_ | refine I2 ?_ | refine I3 ?_ | refine I4 ?_ | refine I5 ?_ | refine I6 rfl ?_ | refine I7 ?_ | refine I8 ?_ | refine z4 ?_) | (refine M3 ?_; first | refine O6 ?_ | refine z2 tok rfl ?_ | refine O8 rfl ?_ | refine O7 rfl ?_ rfl | refine O9 rfl ?_ rfl | (refine Fw.split _ _ rfl (fun h => ?_) (fun h => ?_) <;> rw [h]) | refine U1 _ (Ev.load_old_agg tok (polC (b.pol i)) rfl rfl rfl (add_lt hlt2) (hb.pol hi)) rfl ?_ | refine U1 _ (Ev.call (f := 95) (ck rfl) rfl (fun w _ => refName_any _ (hb.name hi) w)) rfl ?_ | refine U1 _ (U4 rfl rfl) rfl ?_ | refine U1 _ (U5 rfl rfl) rfl ?_ | refine U1 _ (U2 rfl) rfl ?_ | refine U1 _ (U3 tok rfl rfl rfl rfl rfl) rfl ?_) | (refine M4 ?_; first | refine M6 ?_ | refine U6 rfl (by kernel_rfl) ?_ | refine U7 (by kernel_rfl) ?_) | (refine M5 ?_; first | exact M7 | refine U8 rfl ?_ | refine U9 rfl rfl ?_ ?_)))
  · refine XE.ret1 Tryd.results65 rfl (fun w' S => ?_)
    exact ⟨by rw [polErr_6 (by simpa using h)], S.toBelow⟩
  have hnm : nameB (b.pol i).name = true := by simpa using h
  have hl2 := hb.len2
  simp only at hl2
  refine XC.loopk [1, 2, 5] rfl (fun k : Nat => [(6, .int .i64 (k : Int))]) (fun k => _) (fun _ => w) (fun k => k ≤ i ∧ ∀ j, j < k → (b.pol j).name ≠ (b.pol i).name) (fun k => i - k) 0 ⟨Nat.zero_le _, fun i hi => by omega⟩ (by repeat (first | exact Sub.nil | refine Sub.cons rfl ?_)) (fun _ h => h) ?_
  rintro k ⟨hk, hnk⟩
  dsimp only [List.cons_append, List.nil_append]
  repeat (first | (refine M0 ?_; first | refine O0 ?_ | refine z1 tok rfl ?_ | refine O1 rfl ?_ rfl | refine O2 rfl ?_ | refine O3 rfl ?_ rfl | refine O4 rfl rfl rfl (fun _ _ => ?_) | refine O5 tok rfl rfl rfl (fun _ _ => ?_) | refine U0 _ (U2 rfl) rfl ?_ | refine U0 _ (U3 tok rfl rfl rfl rfl rfl) rfl ?_ | refine z3 tok rfl ?_ | refine U0 _ (U4 rfl rfl) rfl ?_ | refine U0 _ (U5 rfl rfl) rfl ?_) | (refine M1 ?_; first | refine J0 ?_ | refine J1 ?_ | refine J2 mixed rfl (by kernel_rfl) ?_ | refine J3 mixed rfl rfl (by kernel_rfl) ?_ | refine J4 ?_ | refine J5 ?_ | refine J6 ?_ | refine J7 ?_ | refine J8 rfl ?_ | refine J9 rfl ?_) | (refine M2 ?_; first | refine I0 ?_ | refine I1 ?_ | refine I2 ?_ | refine I3 ?_ | refine I4 ?_ | refine I5 ?_ | refine I6 rfl ?_ | refine I7 ?_ | refine I8 ?_ | refine z4 ?_) | (refine M3 ?_; first | refine O6 ?_ | refine z2 tok rfl ?_ | refine O8 rfl ?_ | refine O7 rfl ?_ rfl | refine O9 rfl ?_ rfl | refine U1 _ (U4 rfl rfl) rfl ?_ | refine U1 _ (U5 rfl rfl) rfl ?_ | refine U1 _ (U2 rfl) rfl ?_ | refine U1 _ (U3 tok rfl rfl rfl rfl rfl) rfl ?_) | (refine M4 ?_; first | refine M6 ?_ | refine U6 rfl (by kernel_rfl) ?_ | refine U7 (by kernel_rfl) ?_) | (refine M5 ?_; first | exact M7 | refine U8 rfl ?_ | refine U9 rfl rfl ?_ ?_))
  refine XC.cond _ rfl (fun h1 => ?_) (fun h1 => ?_)
  · have hki : k < i := by simpa using h1
    repeat (any_goals (first | (refine M0 ?_; first | refine O0 ?_ | refine z1 tok rfl ?_ | refine O1 rfl ?_ rfl | refine O2 rfl ?_ | refine O3 rfl ?_ rfl | (refine XL.split _ _ rfl (fun h => ?_) (fun h => ?_) <;> rw [h]) | refine U0 _ (Ev.load_old tok rfl rfl (add_lt2 hlt2) (hb.pol (i := k) (by omega) 0 _ rfl)) rfl ?_ | refine U0 _ (Ev.eql_str rfl rfl) rfl ?_ | refine O4 rfl rfl rfl (fun _ _ => ?_) | refine O5 tok rfl rfl rfl (fun _ _ => ?_) | refine U0 _ (U2 rfl) rfl ?_ | refine U0 _ (U3 tok rfl rfl rfl rfl rfl) rfl ?_ | refine z3 tok rfl ?_ | refine U0 _ (U4 rfl rfl) rfl ?_ | refine U0 _ (U5 rfl rfl) rfl ?_) | (refine M1 ?_; first | refine J0 ?_ | refine J1 ?_ | refine J2 mixed rfl (by kernel_rfl) ?_ | refine J3 mixed rfl rfl (by kernel_rfl) ?_ | refine J4 ?_ | refine J5 ?_ | refine J6 ?_ | refine J7 ?_ | refine J8 rfl ?_ | refine J9 rfl ?_ | refine XC.cond _ rfl (fun h => ?_) (fun h => ?_)) | (refine M2 ?_; first | refine I0 ?_ | refine I1 ?_ | refine I2 ?_ | refine I3 ?_ | refine I4 ?_ | refine I5 ?_ | refine I6 rfl ?_ | refine I7 ?_ | refine I8 ?_ | refine z4 ?_) | (refine M3 ?_; first | refine O6 ?_ | refine z2 tok rfl ?_ | refine O8 rfl ?_ | refine O7 rfl ?_ rfl | refine O9 rfl ?_ rfl | (refine Fw.split _ _ rfl (fun h => ?_) (fun h => ?_) <;> rw [h]) | refine U1 _ (Ev.load_old tok rfl rfl (add_lt2 hlt2) (hb.pol (i := k) (by omega) 0 _ rfl)) rfl ?_ | refine U1 _ (Ev.eql_str rfl rfl) rfl ?_ | refine U1 _ (U4 rfl rfl) rfl ?_ | refine U1 _ (U5 rfl rfl) rfl ?_ | refine U1 _ (U2 rfl) rfl ?_ | refine U1 _ (U3 tok rfl rfl rfl rfl rfl) rfl ?_) | (refine M4 ?_; first | refine M6 ?_ | refine U6 rfl (by kernel_rfl) ?_ | refine U7 (by kernel_rfl) ?_) | (refine M5 ?_; first | exact M7 | refine U8 rfl ?_ | refine U9 rfl rfl ?_ ?_)))
    · refine XE.ret1 Tryd.results65 rfl (fun w' S => ?_)
      exact ⟨by rw [polErr_5 hnm k hki (by simpa using h)], S.toBelow⟩
    · refine XE.round (k + 1) ⟨hki, fun j hj => ?_⟩ (by omega) (by repeat (first | exact Sub.nil | refine Sub.cons rfl ?_)) (fun _ h => by first | exact h | exact h.pop (by assumption) | exact (h.pop (by assumption)).pop (by assumption) | exact ((h.pop (by assumption)).pop (by assumption)).pop (by assumption) | exact (((h.pop (by assumption)).pop (by assumption)).pop (by assumption)).pop (by assumption) | exact Sys.anchor (by assumption) h (by simp) (by simp))
      rcases Nat.lt_succ_iff_lt_or_eq.1 hj with hj | rfl
      · exact hnk j hj
      · simpa using h
  · have hge : k = i := by simp at h1; omega
    subst hge
    repeat (any_goals (first | (refine M0 ?_; first | refine O0 ?_ | refine z1 tok rfl ?_ | refine O1 rfl ?_ rfl | refine O2 rfl ?_ | refine O3 rfl ?_ rfl | (refine XL.split _ _ rfl (fun h => ?_) (fun h => ?_) <;> rw [h]) | refine U0 _ (Ev.load_old tok rfl rfl (add_lt2 hlt) (hb.rowLevel (i := 0) h0)) rfl ?_ | refine U0 _ (Ev.call (f := 54) (ck rfl) rfl (fun w _ => in_any _ _ _ w)) rfl ?_ | refine O4 rfl rfl rfl (fun _ _ => ?_) | refine O5 tok rfl rfl rfl (fun _ _ => ?_) | refine U0 _ (U2 rfl) rfl ?_ | refine U0 _ (U3 tok rfl rfl rfl rfl rfl) rfl ?_ | refine z3 tok rfl ?_ | refine U0 _ (U4 rfl rfl) rfl ?_ | refine U0 _ (U5 rfl rfl) rfl ?_) | (refine M1 ?_; first | refine J0 ?_ | refine J1 ?_ | refine J2 mixed rfl (by kernel_rfl) ?_ | refine J3 mixed rfl rfl (by kernel_rfl) ?_ | refine J4 ?_ | refine J5 ?_ | refine J6 ?_ | refine J7 ?_ | refine J8 rfl ?_ | refine J9 rfl ?_ | refine XC.cond _ rfl (fun h => ?_) (fun h => ?_)) | (refine M2 ?_; first | refine I0 ?_ | refine I1 ?_ | refine I2 ?_ | refine I3 ?_ | refine I4 ?_ | refine I5 ?_ | refine I6 rfl ?_ | refine I7 ?_ | refine I8 ?_ | refine z4 ?_) | (refine M3 ?_; first | refine O6 ?_ | refine z2 tok rfl ?_ | refine O8 rfl ?_ | refine O7 rfl ?_ rfl | refine O9 rfl ?_ rfl | (refine Fw.split _ _ rfl (fun h => ?_) (fun h => ?_) <;> rw [h]) | refine U1 _ (Ev.load_old tok rfl rfl (add_lt2 hlt) (hb.rowLevel (i := 0) h0)) rfl ?_ | refine U1 _ (Ev.call (f := 54) (ck rfl) rfl (fun w _ => in_any _ _ _ w)) rfl ?_ | refine U1 _ (U4 rfl rfl) rfl ?_ | refine U1 _ (U5 rfl rfl) rfl ?_ | refine U1 _ (U2 rfl) rfl ?_ | refine U1 _ (U3 tok rfl rfl rfl rfl rfl) rfl ?_) | (refine M4 ?_; first | refine M6 ?_ | refine U6 rfl (by kernel_rfl) ?_ | refine U7 (by kernel_rfl) ?_) | (refine M5 ?_; first | exact M7 | refine U8 rfl ?_ | refine U9 rfl rfl ?_ ?_)))
    all_goals refine XE.ret1 Tryd.results65 rfl (fun w' S => ?_)
    · exact ⟨by rw [polErr_7 hnm hnk (by simp at h; simp [h])], S.toBelow⟩
    · exact ⟨by rw [polErr_7 hnm hnk (by simp at h; simp [h])], S.toBelow⟩
    · exact ⟨by rw [polErr_7 hnm hnk (by simp at h; simp [h])], S.toBelow⟩
    · rename_i g1 g2
      exact ⟨by rw [polErr_n hnm hnk (by simp at h g1 g2; simp [h, g1, g2])], S.toBelow⟩
open Classical in
noncomputable def wideB (b : Bas) (rate : Int) : Bool := decide (wide b rate)
open Classical in
theorem wideB_t {b : Bas} {r : Int} (h : ∀ i, i < b.rows.length - 1 → wideAt b r i) : wideB b r = true := decide_eq_true fun i hi => h i (by omega)
open Classical in
theorem wideB_f {b : Bas} {r : Int} {i : Nat} (hi : i + 1 < b.rows.length) (h : ¬ wideAt b r i) : wideB b r = false := decide_eq_false fun hw => h (hw i hi)
theorem wide_max {b : Bas} (h : RowsOk b) {x y : Int} : wide b (max x y) ↔ wide b x ∧ wide b y := by
  unfold wide
  have key : ∀ i, i + 1 < b.rows.length → (wideAt b (max x y) i ↔ wideAt b x i ∧ wideAt b y i) := by
    intro i hi
    have := h.levelUp i hi
    unfold wideAt
    have hd : 0 ≤ (b.row (i + 1)).level - (b.row i).level := by omega
    rcases Int.le_total x y with hxy | hxy
    · have := Int.mul_le_mul_of_nonneg_right hxy hd
      rw [Int.max_eq_right hxy]
      omega
    · have := Int.mul_le_mul_of_nonneg_right hxy hd
      rw [Int.max_eq_left hxy]
      omega
  constructor
  · intro h; exact ⟨fun i hi => ((key i hi).1 (h i hi)).1, fun i hi => ((key i hi).1 (h i hi)).2⟩
  · rintro ⟨h1, h2⟩ i hi; exact (key i hi).2 ⟨h1 i hi, h2 i hi⟩
theorem wideB_great {b : Bas} (h : RowsOk b) : ∀ k, wideB b (great b (k + 1)) = (wideB b (great b k) && wideB b (b.pol k).take) := by
  intro k
  show wideB b (max (great b k) (b.pol k).take) = _
  rw [Bool.eq_iff_iff]
  simp only [wideB, Bool.and_eq_true, decide_eq_true_eq]
  exact wide_max h
set_option maxHeartbeats 4000000 in
theorem wide_any {p : BV} {b : Bas} {w : World} (hb : BasAt w w.heap.size p b) (ho : RowsOk b) {r : Int} (hr : 0 ≤ r ∧ r ≤ 10000) :
    Calls Tryd.prog 66 #[basV p b, .int .i64 r] w fun e w' => e = .returned (.bool (wideB b r)) ∧ Below w.heap.size w w' := by
  obtain ⟨A, n, c, A2, n2, c2⟩ := p
  have hn := hb.n_eq
  have hn2 := hb.n2_eq
  simp only at hn hn2
  subst hn hn2
  have h2 := ho.n2
  have h12 := ho.n12
  obtain ⟨ad, rfl, hlt⟩ := hb.rows.addr (by simp only; omega)
  simp only [basV, basC]
  refine enter Tryd.func66 rfl Tryd.ntmps66 rfl ?_; simp only [frame, Nat.zero_add, Nat.reduceAdd]
  repeat (first | (refine M0 ?_; first | refine O0 ?_ | refine z1 tok rfl ?_ | refine O1 rfl ?_ rfl | refine O2 rfl ?_ | refine O3 rfl ?_ rfl | refine O4 rfl rfl rfl (fun _ _ => ?_) | refine O5 tok rfl rfl rfl (fun _ _ => ?_) | refine U0 _ (U2 rfl) rfl ?_ | refine U0 _ (U3 tok rfl rfl rfl rfl rfl) rfl ?_ | refine z3 tok rfl ?_ | refine U0 _ (U4 rfl rfl) rfl ?_ | refine U0 _ (U5 rfl rfl) rfl ?_) | (refine M1 ?_; first | refine J0 ?_ | refine J1 ?_ | refine J2 mixed rfl (by kernel_rfl) ?_ | refine J3 mixed rfl rfl (by kernel_rfl) ?_ | refine J4 ?_ | refine J5 ?_ | refine J6 ?_ | refine J7 ?_ | refine J8 rfl ?_ | refine J9 rfl ?_) | (refine M2 ?_; first | refine I0 ?_ | refine I1 ?_ | refine I2 ?_ | refine I3 ?_ | refine I4 ?_ | refine I5 ?_ | refine I6 rfl ?_ | refine I7 ?_ | refine I8 ?_ | refine z4 ?_) | (refine M3 ?_; first | refine O6 ?_ | refine z2 tok rfl ?_ | refine O8 rfl ?_ | refine O7 rfl ?_ rfl | refine O9 rfl ?_ rfl | refine U1 _ (U4 rfl rfl) rfl ?_ | refine U1 _ (U5 rfl rfl) rfl ?_ | refine U1 _ (U2 rfl) rfl ?_ | refine U1 _ (U3 tok rfl rfl rfl rfl rfl) rfl ?_) | (refine M4 ?_; first | refine M6 ?_ | refine U6 rfl (by kernel_rfl) ?_ | refine U7 (by kernel_rfl) ?_) | (refine M5 ?_; first | exact M7 | refine U8 rfl ?_ | refine U9 rfl rfl ?_ ?_))
  refine XC.loopk [1, 2] rfl (fun k : Nat => [(5, .int .i64 ((k + 1 : Nat) : Int))]) (fun k => _) (fun _ => w) (fun k => k ≤ b.rows.length - 1 ∧ ∀ j, j < k → wideAt b r j) (fun k => b.rows.length - k) 0 ⟨Nat.zero_le _, fun i hi => by omega⟩ (by repeat (first | exact Sub.nil | refine Sub.cons rfl ?_)) (fun _ h => h) ?_
  rintro k ⟨hk, hwk⟩
  dsimp only [List.cons_append, List.nil_append]
  repeat (first | (refine M0 ?_; first | refine O0 ?_ | refine z1 tok rfl ?_ | refine O1 rfl ?_ rfl | refine O2 rfl ?_ | refine O3 rfl ?_ rfl | refine O4 rfl rfl rfl (fun _ _ => ?_) | refine O5 tok rfl rfl rfl (fun _ _ => ?_) | refine U0 _ (U2 rfl) rfl ?_ | refine U0 _ (U3 tok rfl rfl rfl rfl rfl) rfl ?_ | refine z3 tok rfl ?_ | refine U0 _ (U4 rfl rfl) rfl ?_ | refine U0 _ (U5 rfl rfl) rfl ?_) | (refine M1 ?_; first | refine J0 ?_ | refine J1 ?_ | refine J2 mixed rfl (by kernel_rfl) ?_ | refine J3 mixed rfl rfl (by kernel_rfl) ?_ | refine J4 ?_ | refine J5 ?_ | refine J6 ?_ | refine J7 ?_ | refine J8 rfl ?_ | refine J9 rfl ?_) | (refine M2 ?_; first | refine I0 ?_ | refine I1 ?_ | refine I2 ?_ | refine I3 ?_ | refine I4 ?_ | refine I5 ?_ | refine I6 rfl ?_ | refine I7 ?_ | refine I8 ?_ | refine z4 ?_) | (refine M3 ?_; first | refine O6 ?_ | refine z2 tok rfl ?_ | refine O8 rfl ?_ | refine O7 rfl ?_ rfl | refine O9 rfl ?_ rfl | refine U1 _ (U4 rfl rfl) rfl ?_ | refine U1 _ (U5 rfl rfl) rfl ?_ | refine U1 _ (U2 rfl) rfl ?_ | refine U1 _ (U3 tok rfl rfl rfl rfl rfl) rfl ?_) | (refine M4 ?_; first | refine M6 ?_ | refine U6 rfl (by kernel_rfl) ?_ | refine U7 (by kernel_rfl) ?_) | (refine M5 ?_; first | exact M7 | refine U8 rfl ?_ | refine U9 rfl rfl ?_ ?_))
  refine XC.cond _ rfl (fun h1 => ?_) (fun h1 => ?_)
  · have hkn : k + 1 < b.rows.length := by simp only [decide_eq_true_eq] at h1; omega
    have r1 := ho.level k (by omega)
    have r2 := ho.level (k + 1) hkn
    have r3 := ho.vol k (by omega)
    have r4 := ho.vol (k + 1) hkn
    have hm := mul_in (x := r) (y := (b.row (k + 1)).level - (b.row k).level) (X := 10000) (Y := 40000) (by omega) (by omega) (by omega)
    have e1 : (((k + 1 : Nat) : Int) - 1).toNat = k := by omega
    have l1 : w.cell? ((ad.add ((((k + 1 : Nat) : Int) - 1).toNat * 2)).add 0) = some (.int .i64 (b.row k).level) := by rw [e1]; exact hb.rowLevel (by omega)
    have l2 : w.cell? ((ad.add ((((k + 1 : Nat) : Int) - 1).toNat * 2)).add 1) = some (.int .i64 (b.row k).vol) := by rw [e1]; exact hb.rowVol (by omega)
    repeat (any_goals (first | (refine M0 ?_; first | refine O0 ?_ | refine z1 tok rfl ?_ | refine O1 rfl ?_ rfl | refine O2 rfl ?_ | refine O3 rfl ?_ rfl | (refine XL.split _ _ rfl (fun h => ?_) (fun h => ?_) <;> rw [h]) | refine U0 _ (Ev.load_old tok rfl rfl (add_lt2 hlt) (hb.rowLevel (i := k + 1) hkn)) rfl ?_ | refine U0 _ (Ev.load_old tok rfl rfl (add_lt2 hlt) (hb.rowVol (i := k + 1) hkn)) rfl ?_ | refine U0 _ (Ev.load_old tok rfl rfl (add_lt2 hlt) l1) rfl ?_ | refine U0 _ (Ev.load_old tok rfl rfl (add_lt2 hlt) l2) rfl ?_ | refine O4 rfl rfl rfl (fun _ _ => ?_) | refine O5 tok rfl rfl rfl (fun _ _ => ?_) | refine U0 _ (U2 rfl) rfl ?_ | refine U0 _ (U3 tok rfl rfl rfl rfl rfl) rfl ?_ | refine z3 tok rfl ?_ | refine U0 _ (U4 rfl rfl) rfl ?_ | refine U0 _ (U5 rfl rfl) rfl ?_) | (refine M1 ?_; first | refine J0 ?_ | refine J1 ?_ | refine J2 mixed rfl (by kernel_rfl) ?_ | refine J3 mixed rfl rfl (by kernel_rfl) ?_ | refine J4 ?_ | refine J5 ?_ | refine J6 ?_ | refine J7 ?_ | refine J8 rfl ?_ | refine J9 rfl ?_ | refine XC.cond _ rfl (fun h => ?_) (fun h => ?_)) | (refine M2 ?_; first | refine I0 ?_ | refine I1 ?_ | refine I2 ?_ | refine I3 ?_ | refine I4 ?_ | refine I5 ?_ | refine I6 rfl ?_ | refine I7 ?_ | refine I8 ?_ | refine z4 ?_) | (refine M3 ?_; first | refine O6 ?_ | refine z2 tok rfl ?_ | refine O8 rfl ?_ | refine O7 rfl ?_ rfl | refine O9 rfl ?_ rfl | (refine Fw.split _ _ rfl (fun h => ?_) (fun h => ?_) <;> rw [h]) | refine U1 _ (Ev.load_old tok rfl rfl (add_lt2 hlt) (hb.rowLevel (i := k + 1) hkn)) rfl ?_ | refine U1 _ (Ev.load_old tok rfl rfl (add_lt2 hlt) (hb.rowVol (i := k + 1) hkn)) rfl ?_ | refine U1 _ (Ev.load_old tok rfl rfl (add_lt2 hlt) l1) rfl ?_ | refine U1 _ (Ev.load_old tok rfl rfl (add_lt2 hlt) l2) rfl ?_ | refine U1 _ (U4 rfl rfl) rfl ?_ | refine U1 _ (U5 rfl rfl) rfl ?_ | refine U1 _ (U2 rfl) rfl ?_ | refine U1 _ (U3 tok rfl rfl rfl rfl rfl) rfl ?_) | (refine M4 ?_; first | refine M6 ?_ | refine U6 rfl (by kernel_rfl) ?_ | refine U7 (by kernel_rfl) ?_) | (refine M5 ?_; first | exact M7 | refine U8 rfl ?_ | refine U9 rfl rfl ?_ ?_)))
    · refine XE.ret1 Tryd.results66 rfl (fun w' S => ?_)
      refine ⟨?_, S.toBelow⟩
      rw [wideB_f hkn]
      unfold wideAt
      simp only [decide_eq_true_eq] at h
      omega
    · refine XE.round (k + 1) ⟨by omega, fun j hj => ?_⟩ (by omega) (by repeat (first | exact Sub.nil | refine Sub.cons rfl ?_)) (fun _ h => by first | exact h | exact h.pop (by assumption) | exact (h.pop (by assumption)).pop (by assumption) | exact ((h.pop (by assumption)).pop (by assumption)).pop (by assumption) | exact (((h.pop (by assumption)).pop (by assumption)).pop (by assumption)).pop (by assumption) | exact Sys.anchor (by assumption) h (by simp) (by simp))
      rcases Nat.lt_succ_iff_lt_or_eq.1 hj with hj | rfl
      · exact hwk j hj
      · simp only [decide_eq_false_iff_not] at h
        unfold wideAt
        omega
  · have hge : k = b.rows.length - 1 := by simp only [decide_eq_false_iff_not] at h1; omega
    subst hge
    repeat (first | (refine M0 ?_; first | refine O0 ?_ | refine z1 tok rfl ?_ | refine O1 rfl ?_ rfl | refine O2 rfl ?_ | refine O3 rfl ?_ rfl | refine O4 rfl rfl rfl (fun _ _ => ?_) | refine O5 tok rfl rfl rfl (fun _ _ => ?_) | refine U0 _ (U2 rfl) rfl ?_ | refine U0 _ (U3 tok rfl rfl rfl rfl rfl) rfl ?_ | refine z3 tok rfl ?_ | refine U0 _ (U4 rfl rfl) rfl ?_ | refine U0 _ (U5 rfl rfl) rfl ?_) | (refine M1 ?_; first | refine J0 ?_ | refine J1 ?_ | refine J2 mixed rfl (by kernel_rfl) ?_ | refine J3 mixed rfl rfl (by kernel_rfl) ?_ | refine J4 ?_ | refine J5 ?_ | refine J6 ?_ | refine J7 ?_ | refine J8 rfl ?_ | refine J9 rfl ?_) | (refine M2 ?_; first | refine I0 ?_ | refine I1 ?_ | refine I2 ?_ | refine I3 ?_ | refine I4 ?_ | refine I5 ?_ | refine I6 rfl ?_ | refine I7 ?_ | refine I8 ?_ | refine z4 ?_) | (refine M3 ?_; first | refine O6 ?_ | refine z2 tok rfl ?_ | refine O8 rfl ?_ | refine O7 rfl ?_ rfl | refine O9 rfl ?_ rfl | refine U1 _ (U4 rfl rfl) rfl ?_ | refine U1 _ (U5 rfl rfl) rfl ?_ | refine U1 _ (U2 rfl) rfl ?_ | refine U1 _ (U3 tok rfl rfl rfl rfl rfl) rfl ?_) | (refine M4 ?_; first | refine M6 ?_ | refine U6 rfl (by kernel_rfl) ?_ | refine U7 (by kernel_rfl) ?_) | (refine M5 ?_; first | exact M7 | refine U8 rfl ?_ | refine U9 rfl rfl ?_ ?_))
    refine XE.ret1 Tryd.results66 rfl (fun w' S => ?_)
    exact ⟨by rw [wideB_t hwk], S.toBelow⟩
end Go.Proofs.YtoiepgcjinccpaaDoor.X
