/-
  The walk of the water's polders.
-/
import Derived.Test.YtoiepgcjinccpaaDoorBs9
import Derived.Test.YtoiepgcjinccpaaDoorEngC
namespace Go.Proofs.YtoiepgcjinccpaaDoor.X
open Go Go.RowKit Go.Proofs.YtoiepgcjinccpaaDoor.Bs
set_option linter.unusedVariables false
theorem int_el : elemOk Tryd.prog 26 3 1 8 = true := by kernel_rfl
/-- what has filled the polders when k have been flooded. -/
def filK (b : Bas) (s : Sta) (k : Nat) : List Int := rg b.pols.length fun i => if i < k then s.f i + polT b s s.vol i else s.f i
theorem filK_0 {b : Bas} {s : Sta} (h : s.fil.length = b.pols.length) : filK b s 0 = s.fil := by
  apply List.ext_getElem (by simp [filK, rg_len, h])
  intro i h1 h2
  simp [filK, rg, Sta.f, h2]
theorem filK_at {b : Bas} {s : Sta} {k : Nat} (h : k < b.pols.length) (sp : List Value) : (ints (filK b s k) ++ sp)[k]? = some (.int .i64 (s.f k)) := by
  have hl : k < (ints (filK b s k)).length := by rw [ints_len]; simpa [filK, rg_len] using h
  rw [List.getElem?_append_left hl]
  simp [ints, filK, rg, h]
theorem filK_set {b : Bas} {s : Sta} {k : Nat} (h : k < b.pols.length) (sp : List Value) : (ints (filK b s k) ++ sp).set k (.int .i64 (s.f k + polT b s s.vol k)) = ints (filK b s (k + 1)) ++ sp := by
  have hl : k < (ints (filK b s k)).length := by rw [ints_len]; simpa [filK, rg_len] using h
  rw [List.set_append_left _ _ hl]
  congr 1
  apply List.ext_getElem (by simp [ints, filK, rg_len])
  intro i h1 h2
  simp only [ints, List.length_map, filK, rg_len] at h2
  rw [List.getElem_set]
  by_cases e : k = i
  · subst e; simp [ints, filK, rg]
  · rw [if_neg e]
    simp only [ints, filK, rg, List.getElem_map, List.getElem_range]
    by_cases hi : i < k
    · rw [if_pos hi, if_pos (by omega)]
    · rw [if_neg hi, if_neg (by omega)]
theorem filK_end (b : Bas) (s : Sta) : filK b s b.pols.length = rg b.pols.length fun i => s.f i + polT b s s.vol i := by
  unfold filK rg
  apply List.map_congr_left
  intro i hi
  rw [if_pos (by simpa using hi)]
section
variable {g fb B n c : Nat} {p : BV} {b : Bas} {s : Sta} {t : Tick} {f : Flo} {w : World} {sp : List Value}
set_option maxHeartbeats 8000000 in
theorem polders_any (h : w.heap[g]? = some (watO p b ⟨some ⟨fb, 0, none⟩, n, c⟩ s t ⟨none, 0, 0⟩ f)) (hfb : w.heap[fb]? = some (cel 3 (ints s.fil ++ sp))) (hne : g ≠ fb) (hBg : B ≤ g) (hBf : B ≤ fb)
    (hb : BasAt w B p b) (ho : Ok b) (hs : StaOk b s) (hn : n = b.pols.length) :
    Calls Tryd.prog 90 #[.pointer (some ⟨g, 0, none⟩)] w fun e w' => e = .returned (.bool true) ∧ ∃ r : SV, Sys B w [(g, watO p b ⟨some ⟨fb, 0, none⟩, n, c⟩ { s with vol := polV b s s.vol b.pols.length } t r f), (fb, cel 3 (ints (rg b.pols.length fun i => s.f i + polT b s s.vol i) ++ sp))] w' ∧
      w'.ownsRow w.heap.size 3 1 (svV r) b.pols.length (ints (rg b.pols.length fun i => polT b s s.vol i)) := by
  obtain ⟨A, n1, c1, A2, n2, c2⟩ := p
  have hn1 := hb.n_eq
  have hn2 := hb.n2_eq
  simp only at hn1 hn2
  subst hn1 hn2 hn
  have hm := ho.m6
  have h' := h
  have hfb' := hfb
  simp only [watO, watC] at h
  have S0 := Sys.start2 hBg hBf h hfb hne
  have hgl := (Array.getElem?_eq_some_iff.1 h).1
  have hfl := (Array.getElem?_eq_some_iff.1 hfb).1
  refine enterL Tryd.func90 rfl Tryd.ntmps90 rfl (S0) ?_; simp only [frame, Nat.zero_add, Nat.reduceAdd]
  refine XC.hint 0 1 ?_
  repeat (first | (refine M0 ?_; first | refine O0 ?_ | refine z1 tok rfl ?_ | refine O1 rfl ?_ rfl | refine O2 rfl ?_ | refine O3 rfl ?_ rfl | refine O4 rfl rfl rfl (fun _ _ => ?_) | refine O5 tok rfl rfl rfl (fun _ _ => ?_) | refine U0 _ (U2 rfl) rfl ?_ | refine U0 _ (U3 tok rfl rfl rfl rfl rfl) rfl ?_ | refine z3 tok rfl ?_ | refine U0 _ (U4 rfl rfl) rfl ?_ | refine U0 _ (U5 rfl rfl) rfl ?_) | (refine M1 ?_; first | refine J0 ?_ | refine J1 ?_ | refine J2 mixed rfl (by kernel_rfl) ?_ | refine J3 mixed rfl rfl (by kernel_rfl) ?_ | refine J4 ?_ | refine J5 ?_ | refine J6 ?_ | refine J7 ?_ | refine J8 rfl ?_ | refine J9 rfl ?_) | (refine M2 ?_; first | refine I0 ?_ | refine I1 ?_ | refine I2 ?_ | refine I3 ?_ | refine I4 ?_ | refine I5 ?_ | refine I6 rfl ?_ | refine I7 ?_ | refine I8 ?_ | refine z4 ?_) | (refine M3 ?_; first | refine O6 ?_ | refine z2 tok rfl ?_ | refine O8 rfl ?_ | refine O7 rfl ?_ rfl | refine O9 rfl ?_ rfl | refine U1 _ (U4 rfl rfl) rfl ?_ | refine U1 _ (U5 rfl rfl) rfl ?_ | refine U1 _ (U2 rfl) rfl ?_ | refine U1 _ (U3 tok rfl rfl rfl rfl rfl) rfl ?_) | (refine M4 ?_; first | refine M6 ?_ | refine U6 rfl (by kernel_rfl) ?_ | refine U7 (by kernel_rfl) ?_) | (refine M5 ?_; first | exact M7 | refine U8 rfl ?_ | refine U9 rfl rfl ?_ ?_))
  refine XC.loopk [0, 11, 12] rfl (fun s' : Nat × World × SV => [(13, .int .i64 (s'.1 : Nat))])
    (fun s' => [(g, cel 137 (watC ⟨A, b.rows.length, c1, A2, b.pols.length, c2⟩ b ⟨some ⟨fb, 0, none⟩, b.pols.length, c⟩ { s with vol := polV b s s.vol s'.1 } t s'.2.2 f)), (fb, cel 3 (ints (filK b s s'.1) ++ sp))]) (fun s' => s'.2.1)
    (fun s' => s'.1 ≤ b.pols.length ∧ Sys B w [(g, cel 137 (watC ⟨A, b.rows.length, c1, A2, b.pols.length, c2⟩ b ⟨some ⟨fb, 0, none⟩, b.pols.length, c⟩ { s with vol := polV b s s.vol s'.1 } t s'.2.2 f)), (fb, cel 3 (ints (filK b s s'.1) ++ sp))] s'.2.1 ∧
      s'.2.1.ownsRow w.heap.size 3 1 (svV s'.2.2) s'.1 (ints (rg s'.1 fun i => polT b s s.vol i)))
    (fun s' => b.pols.length - s'.1) (0, w, ⟨none, 0, 0⟩) ⟨Nat.zero_le _, ?_, World.ownsRow_nil _ _ _ _⟩ (by repeat (first | exact Sub.nil | refine Sub.cons rfl ?_)) ?_ ?_
  · simp only [filK_0 hs.len]; exact S0
  · intro w' S; simp only [filK_0 hs.len]; exact S
  rintro ⟨k, W, r⟩ ⟨hk, SW, hown⟩
  simp only at hk SW hown
  simp only [watC]
  dsimp only [List.cons_append, List.nil_append]
  repeat (first | (refine M0 ?_; first | refine O0 ?_ | refine z1 tok rfl ?_ | refine O1 rfl ?_ rfl | refine O2 rfl ?_ | refine O3 rfl ?_ rfl | refine O4 rfl rfl rfl (fun _ _ => ?_) | refine O5 tok rfl rfl rfl (fun _ _ => ?_) | refine U0 _ (U2 rfl) rfl ?_ | refine U0 _ (U3 tok rfl rfl rfl rfl rfl) rfl ?_ | refine z3 tok rfl ?_ | refine U0 _ (U4 rfl rfl) rfl ?_ | refine U0 _ (U5 rfl rfl) rfl ?_) | (refine M1 ?_; first | refine J0 ?_ | refine J1 ?_ | refine J2 mixed rfl (by kernel_rfl) ?_ | refine J3 mixed rfl rfl (by kernel_rfl) ?_ | refine J4 ?_ | refine J5 ?_ | refine J6 ?_ | refine J7 ?_ | refine J8 rfl ?_ | refine J9 rfl ?_) | (refine M2 ?_; first | refine I0 ?_ | refine I1 ?_ | refine I2 ?_ | refine I3 ?_ | refine I4 ?_ | refine I5 ?_ | refine I6 rfl ?_ | refine I7 ?_ | refine I8 ?_ | refine z4 ?_) | (refine M3 ?_; first | refine O6 ?_ | refine z2 tok rfl ?_ | refine O8 rfl ?_ | refine O7 rfl ?_ rfl | refine O9 rfl ?_ rfl | refine U1 _ (U4 rfl rfl) rfl ?_ | refine U1 _ (U5 rfl rfl) rfl ?_ | refine U1 _ (U2 rfl) rfl ?_ | refine U1 _ (U3 tok rfl rfl rfl rfl rfl) rfl ?_) | (refine M4 ?_; first | refine M6 ?_ | refine U6 rfl (by kernel_rfl) ?_ | refine U7 (by kernel_rfl) ?_) | (refine M5 ?_; first | exact M7 | refine U8 rfl ?_ | refine U9 rfl rfl ?_ ?_))
  refine XC.cond _ rfl (fun h1 => ?_) (fun h1 => ?_)
  · have hkm : k < b.pols.length := by simpa using h1
    have hbW := hb.below SW.toBelow
    obtain ⟨ad2, rfl, hlt2⟩ := hb.pols.addr (by simp only; omega)
    have hpv := polV_bd ho hs (v := s.vol) hs.vol k hk
    have hv : b.v0 ≤ polV b s s.vol k ∧ polV b s s.vol k ≤ 1000000000 := by have := hs.vol; omega
    have hd := den_pos ho.rowsOk (polV b s s.vol k)
    have hnm := num_bd ho.rowsOk hv
    obtain ⟨k1, k2⟩ := takeOver_bd ho hv hkm
    have k3 : i64in ((b.pol k).sill * den b (polV b s s.vol k)) := by unfold i64in; omega
    repeat (first | (refine M0 ?_; first | refine O0 ?_ | refine z1 tok rfl ?_ | refine O1 rfl ?_ rfl | refine O2 rfl ?_ | refine O3 rfl ?_ rfl | refine U0 _ (Ev.load_old_agg tok (polC (b.pol k)) rfl rfl rfl (add_lt hlt2) (hbW.pol hkm)) rfl ?_ | refine O4 rfl rfl rfl (fun _ _ => ?_) | refine O5 tok rfl rfl rfl (fun _ _ => ?_) | refine U0 _ (U2 rfl) rfl ?_ | refine U0 _ (U3 tok rfl rfl rfl rfl rfl) rfl ?_ | refine z3 tok rfl ?_ | refine U0 _ (U4 rfl rfl) rfl ?_ | refine U0 _ (U5 rfl rfl) rfl ?_) | (refine M1 ?_; first | refine J0 ?_ | refine J1 ?_ | refine J2 mixed rfl (by kernel_rfl) ?_ | refine J3 mixed rfl rfl (by kernel_rfl) ?_ | refine J4 ?_ | refine J5 ?_ | refine J6 ?_ | refine J7 ?_ | refine J8 rfl ?_ | refine J9 rfl ?_) | (refine M2 ?_; first | refine I0 ?_ | refine I1 ?_ | refine I2 ?_ | refine I3 ?_ | refine I4 ?_ | refine I5 ?_ | refine I6 rfl ?_ | refine I7 ?_ | refine I8 ?_ | refine z4 ?_) | (refine M3 ?_; first | refine O6 ?_ | refine z2 tok rfl ?_ | refine O8 rfl ?_ | refine O7 rfl ?_ rfl | refine O9 rfl ?_ rfl | refine U1 _ (Ev.load_old_agg tok (polC (b.pol k)) rfl rfl rfl (add_lt hlt2) (hbW.pol hkm)) rfl ?_ | refine U1 _ (U4 rfl rfl) rfl ?_ | refine U1 _ (U5 rfl rfl) rfl ?_ | refine U1 _ (U2 rfl) rfl ?_ | refine U1 _ (U3 tok rfl rfl rfl rfl rfl) rfl ?_) | (refine M4 ?_; first | refine M6 ?_ | refine U6 rfl (by kernel_rfl) ?_ | refine U7 (by kernel_rfl) ?_) | (refine M5 ?_; first | exact M7 | refine U8 rfl ?_ | refine U9 rfl rfl ?_ ?_))
    rename_i gx hgx
    have htk := takeOf_bd ho hv hkm (hs.fil k hkm)
    have hrm := ho.room k hkm
    have h0 := v0_bd ho
    have hfk := hs.fil k hkm
    obtain ⟨tk, htkq⟩ : ∃ tk, tk = takeOf b k (polV b s s.vol k) (s.f k) := ⟨_, rfl⟩
    repeat (first | (refine M0 ?_; first | refine O0 ?_ | refine z1 tok rfl ?_ | refine O1 rfl ?_ rfl | refine O2 rfl ?_ | refine O3 rfl ?_ rfl | refine U0 _ (Ev.call (f := 67) (ck rfl) rfl (fun w S => (exact_any (p := ⟨A, b.rows.length, c1, some ad2, b.pols.length, c2⟩) (hbW.sys S) ho.rowsOk hv :))) rfl ?_ | refine U0 _ (Ev.makeI ratio_con rfl) rfl ?_ | refine O4 rfl rfl rfl (fun _ _ => ?_) | refine O5 tok rfl rfl rfl (fun _ _ => ?_) | refine U0 _ (U2 rfl) rfl ?_ | refine U0 _ (U3 tok rfl rfl rfl rfl rfl) rfl ?_ | refine z3 tok rfl ?_ | refine U0 _ (U4 rfl rfl) rfl ?_ | refine U0 _ (U5 rfl rfl) rfl ?_) | (refine M1 ?_; first | refine J0 ?_ | refine J1 ?_ | refine J2 mixed rfl (by kernel_rfl) ?_ | refine J3 mixed rfl rfl (by kernel_rfl) ?_ | refine J4 ?_ | refine J5 ?_ | refine J6 ?_ | refine J7 ?_ | refine J8 rfl ?_ | refine J9 rfl ?_) | (refine M2 ?_; first | refine I0 ?_ | refine I1 ?_ | refine I2 ?_ | refine I3 ?_ | refine I4 ?_ | refine I5 ?_ | refine I6 rfl ?_ | refine I7 ?_ | refine I8 ?_ | refine z4 ?_) | (refine M3 ?_; first | refine O6 ?_ | refine z2 tok rfl ?_ | refine O8 rfl ?_ | refine O7 rfl ?_ rfl | refine O9 rfl ?_ rfl | refine U1 _ (Ev.call (f := 67) (ck rfl) rfl (fun w S => (exact_any (p := ⟨A, b.rows.length, c1, some ad2, b.pols.length, c2⟩) (hbW.sys S) ho.rowsOk hv :))) rfl ?_ | refine U1 _ (Ev.makeI ratio_con rfl) rfl ?_ | refine U1 _ (U4 rfl rfl) rfl ?_ | refine U1 _ (U5 rfl rfl) rfl ?_ | refine U1 _ (U2 rfl) rfl ?_ | refine U1 _ (U3 tok rfl rfl rfl rfl rfl) rfl ?_) | (refine M4 ?_; first | refine M6 ?_ | refine U6 rfl (by kernel_rfl) ?_ | refine U7 (by kernel_rfl) ?_) | (refine M5 ?_; first | exact M7 | refine U8 rfl ?_ | refine U9 rfl rfl ?_ ?_))
    refine XL.step _ (Ev.invoke (t := 113) above_m (ck rfl) rfl rfl (fun w S => (above_any (n := num b (polV b s s.vol k)) (d := den b (polV b s s.vol k)) (level := (b.pol k).sill) k3 w :))) rfl ?_
    repeat (first | (refine M0 ?_; first | refine O0 ?_ | refine z1 tok rfl ?_ | refine O1 rfl ?_ rfl | refine O2 rfl ?_ | refine O3 rfl ?_ rfl | refine O4 rfl rfl rfl (fun _ _ => ?_) | refine O5 tok rfl rfl rfl (fun _ _ => ?_) | refine U0 _ (U2 rfl) rfl ?_ | refine U0 _ (U3 tok rfl rfl rfl rfl rfl) rfl ?_ | refine z3 tok rfl ?_ | refine U0 _ (U4 rfl rfl) rfl ?_ | refine U0 _ (U5 rfl rfl) rfl ?_) | (refine M1 ?_; first | refine J0 ?_ | refine J1 ?_ | refine J2 mixed rfl (by kernel_rfl) ?_ | refine J3 mixed rfl rfl (by kernel_rfl) ?_ | refine J4 ?_ | refine J5 ?_ | refine J6 ?_ | refine J7 ?_ | refine J8 rfl ?_ | refine J9 rfl ?_) | (refine M2 ?_; first | refine I0 ?_ | refine I1 ?_ | refine I2 ?_ | refine I3 ?_ | refine I4 ?_ | refine I5 ?_ | refine I6 rfl ?_ | refine I7 ?_ | refine I8 ?_ | refine z4 ?_) | (refine M3 ?_; first | refine O6 ?_ | refine z2 tok rfl ?_ | refine O8 rfl ?_ | refine O7 rfl ?_ rfl | refine O9 rfl ?_ rfl | refine U1 _ (U4 rfl rfl) rfl ?_ | refine U1 _ (U5 rfl rfl) rfl ?_ | refine U1 _ (U2 rfl) rfl ?_ | refine U1 _ (U3 tok rfl rfl rfl rfl rfl) rfl ?_) | (refine M4 ?_; first | refine M6 ?_ | refine U6 rfl (by kernel_rfl) ?_ | refine U7 (by kernel_rfl) ?_) | (refine M5 ?_; first | exact M7 | refine U8 rfl ?_ | refine U9 rfl rfl ?_ ?_))
    refine XC.cutln [0, 3, 11, 12, 13] rfl (fun _ : Unit => [(6, .int .i64 tk)]) (fun _ => []) (fun _ => True) ?_ (fun _ _ => ?_)
    · refine XC.cond _ rfl (fun h2 => ?_) (fun h2 => ?_)
      · simp only [decide_eq_true_eq] at h2
        unfold takeOf at htkq
        rw [if_pos h2] at htkq
        have htkr := htk
        unfold takeOf at htkr
        rw [if_pos h2] at htkr
        repeat (first | (refine M0 ?_; first | refine O0 ?_ | refine z1 tok rfl ?_ | refine O1 rfl ?_ rfl | refine O2 rfl ?_ | refine O3 rfl ?_ rfl | refine U0 _ (Ev.invoke (t := 113) over_m (ck rfl) rfl rfl (fun w S => (over_any (n := num b (polV b s s.vol k)) (d := den b (polV b s s.vol k)) (level := (b.pol k).sill) (rate := (b.pol k).take) hd.1 k3 (by unfold i64in; omega) (by omega) w :))) rfl ?_ | refine U0 _ (Ev.load_at tok 2 (v := .int .i64 (s.f k)) rfl rfl rfl (by simpa using filK_at hkm sp)) rfl ?_ | refine O4 rfl rfl rfl (fun _ _ => ?_) | refine O5 tok rfl rfl rfl (fun _ _ => ?_) | refine U0 _ (U2 rfl) rfl ?_ | refine U0 _ (U3 tok rfl rfl rfl rfl rfl) rfl ?_ | refine z3 tok rfl ?_ | refine U0 _ (U4 rfl rfl) rfl ?_ | refine U0 _ (U5 rfl rfl) rfl ?_) | (refine M1 ?_; first | refine J0 ?_ | refine J1 ?_ | refine J2 mixed rfl (by kernel_rfl) ?_ | refine J3 mixed rfl rfl (by kernel_rfl) ?_ | refine J4 ?_ | refine J5 ?_ | refine J6 ?_ | refine J7 ?_ | refine J8 rfl ?_ | refine J9 rfl ?_) | (refine M2 ?_; first | refine I0 ?_ | refine I1 ?_ | refine I2 ?_ | refine I3 ?_ | refine I4 ?_ | refine I5 ?_ | refine I6 rfl ?_ | refine I7 ?_ | refine I8 ?_ | refine z4 ?_) | (refine M3 ?_; first | refine O6 ?_ | refine z2 tok rfl ?_ | refine O8 rfl ?_ | refine O7 rfl ?_ rfl | refine O9 rfl ?_ rfl | refine U1 _ (Ev.invoke (t := 113) over_m (ck rfl) rfl rfl (fun w S => (over_any (n := num b (polV b s s.vol k)) (d := den b (polV b s s.vol k)) (level := (b.pol k).sill) (rate := (b.pol k).take) hd.1 k3 (by unfold i64in; omega) (by omega) w :))) rfl ?_ | refine U1 _ (Ev.load_at tok 2 (v := .int .i64 (s.f k)) rfl rfl rfl (by simpa using filK_at hkm sp)) rfl ?_ | refine U1 _ (U4 rfl rfl) rfl ?_ | refine U1 _ (U5 rfl rfl) rfl ?_ | refine U1 _ (U2 rfl) rfl ?_ | refine U1 _ (U3 tok rfl rfl rfl rfl rfl) rfl ?_) | (refine M4 ?_; first | refine M6 ?_ | refine U6 rfl (by kernel_rfl) ?_ | refine U7 (by kernel_rfl) ?_) | (refine M5 ?_; first | exact M7 | refine U8 rfl ?_ | refine U9 rfl rfl ?_ ?_))
        rw [← htkq]
        refine XE.leaf () (by repeat (first | exact Sub.nil | refine Sub.cons rfl ?_)) (fun _ S' => by first | exact S' | exact S'.perm (by repeat (first | exact List.Perm.refl _ | refine perm1 ?_ | refine List.Perm.cons _ ?_ | refine perm2 ?_)) | exact (S'.pop (by assumption)) | exact (S'.pop2 (by assumption))) ?_
        trivial
      · simp only [decide_eq_false_iff_not] at h2
        unfold takeOf at htkq
        rw [if_neg h2] at htkq
        rw [htkq]
        repeat (first | (refine M0 ?_; first | refine O0 ?_ | refine z1 tok rfl ?_ | refine O1 rfl ?_ rfl | refine O2 rfl ?_ | refine O3 rfl ?_ rfl | refine O4 rfl rfl rfl (fun _ _ => ?_) | refine O5 tok rfl rfl rfl (fun _ _ => ?_) | refine U0 _ (U2 rfl) rfl ?_ | refine U0 _ (U3 tok rfl rfl rfl rfl rfl) rfl ?_ | refine z3 tok rfl ?_ | refine U0 _ (U4 rfl rfl) rfl ?_ | refine U0 _ (U5 rfl rfl) rfl ?_) | (refine M1 ?_; first | refine J0 ?_ | refine J1 ?_ | refine J2 mixed rfl (by kernel_rfl) ?_ | refine J3 mixed rfl rfl (by kernel_rfl) ?_ | refine J4 ?_ | refine J5 ?_ | refine J6 ?_ | refine J7 ?_ | refine J8 rfl ?_ | refine J9 rfl ?_) | (refine M2 ?_; first | refine I0 ?_ | refine I1 ?_ | refine I2 ?_ | refine I3 ?_ | refine I4 ?_ | refine I5 ?_ | refine I6 rfl ?_ | refine I7 ?_ | refine I8 ?_ | refine z4 ?_) | (refine M3 ?_; first | refine O6 ?_ | refine z2 tok rfl ?_ | refine O8 rfl ?_ | refine O7 rfl ?_ rfl | refine O9 rfl ?_ rfl | refine U1 _ (U4 rfl rfl) rfl ?_ | refine U1 _ (U5 rfl rfl) rfl ?_ | refine U1 _ (U2 rfl) rfl ?_ | refine U1 _ (U3 tok rfl rfl rfl rfl rfl) rfl ?_) | (refine M4 ?_; first | refine M6 ?_ | refine U6 rfl (by kernel_rfl) ?_ | refine U7 (by kernel_rfl) ?_) | (refine M5 ?_; first | exact M7 | refine U8 rfl ?_ | refine U9 rfl rfl ?_ ?_))
        refine XE.leaf () (by repeat (first | exact Sub.nil | refine Sub.cons rfl ?_)) (fun _ S' => by first | exact S' | exact S'.perm (by repeat (first | exact List.Perm.refl _ | refine perm1 ?_ | refine List.Perm.cons _ ?_ | refine perm2 ?_)) | exact (S'.pop (by assumption)) | exact (S'.pop2 (by assumption))) ?_
        trivial
    dsimp only [List.cons_append, List.nil_append]
    rw [← htkq] at htk
    have k4 : i64in (s.f k + tk) := by unfold i64in; omega
    repeat (first | (refine M0 ?_; first | refine O0 ?_ | refine z1 tok rfl ?_ | refine O1 rfl ?_ rfl | refine O2 rfl ?_ | refine O3 rfl ?_ rfl | refine U0 _ (Ev.load_at tok 2 (v := .int .i64 (s.f k)) rfl rfl rfl (by simpa using filK_at hkm sp)) rfl ?_ | refine O4 rfl rfl rfl (fun _ _ => ?_) | refine O5 tok rfl rfl rfl (fun _ _ => ?_) | refine U0 _ (U2 rfl) rfl ?_ | refine U0 _ (U3 tok rfl rfl rfl rfl rfl) rfl ?_ | refine z3 tok rfl ?_ | refine U0 _ (U4 rfl rfl) rfl ?_ | refine U0 _ (U5 rfl rfl) rfl ?_) | (refine M1 ?_; first | refine J0 ?_ | refine J1 ?_ | refine J2 mixed rfl (by kernel_rfl) ?_ | refine J3 mixed rfl rfl (by kernel_rfl) ?_ | refine J4 ?_ | refine J5 ?_ | refine J6 ?_ | refine J7 ?_ | refine J8 rfl ?_ | refine J9 rfl ?_) | (refine M2 ?_; first | refine I0 ?_ | refine I1 ?_ | refine I2 ?_ | refine I3 ?_ | refine I4 ?_ | refine I5 ?_ | refine I6 rfl ?_ | refine I7 ?_ | refine I8 ?_ | refine z4 ?_) | (refine M3 ?_; first | refine O6 ?_ | refine z2 tok rfl ?_ | refine O8 rfl ?_ | refine O7 rfl ?_ rfl | refine O9 rfl ?_ rfl | refine U1 _ (Ev.load_at tok 2 (v := .int .i64 (s.f k)) rfl rfl rfl (by simpa using filK_at hkm sp)) rfl ?_ | refine U1 _ (U4 rfl rfl) rfl ?_ | refine U1 _ (U5 rfl rfl) rfl ?_ | refine U1 _ (U2 rfl) rfl ?_ | refine U1 _ (U3 tok rfl rfl rfl rfl rfl) rfl ?_) | (refine M4 ?_; first | refine M6 ?_ | refine U6 rfl (by kernel_rfl) ?_ | refine U7 (by kernel_rfl) ?_) | (refine M5 ?_; first | exact M7 | refine U8 rfl ?_ | refine U9 rfl rfl ?_ ?_))
    have hlen : b.pols.length ≤ (ints (filK b s k) ++ sp).length := by simp [ints, filK, rg_len]
    refine XL.store_at tok 2 rfl rfl rfl rfl rfl (show 0 + (k : Int).toNat * 1 < (ints (filK b s k) ++ sp).length by rw [Int.toNat_natCast]; omega) rfl ?_
    repeat (first | (refine M0 ?_; first | refine O0 ?_ | refine z1 tok rfl ?_ | refine O1 rfl ?_ rfl | refine O2 rfl ?_ | refine O3 rfl ?_ rfl | refine O4 rfl rfl rfl (fun _ _ => ?_) | refine O5 tok rfl rfl rfl (fun _ _ => ?_) | refine U0 _ (U2 rfl) rfl ?_ | refine U0 _ (U3 tok rfl rfl rfl rfl rfl) rfl ?_ | refine z3 tok rfl ?_ | refine U0 _ (U4 rfl rfl) rfl ?_ | refine U0 _ (U5 rfl rfl) rfl ?_) | (refine M1 ?_; first | refine J0 ?_ | refine J1 ?_ | refine J2 mixed rfl (by kernel_rfl) ?_ | refine J3 mixed rfl rfl (by kernel_rfl) ?_ | refine J4 ?_ | refine J5 ?_ | refine J6 ?_ | refine J7 ?_ | refine J8 rfl ?_ | refine J9 rfl ?_) | (refine M2 ?_; first | refine I0 ?_ | refine I1 ?_ | refine I2 ?_ | refine I3 ?_ | refine I4 ?_ | refine I5 ?_ | refine I6 rfl ?_ | refine I7 ?_ | refine I8 ?_ | refine z4 ?_) | (refine M3 ?_; first | refine O6 ?_ | refine z2 tok rfl ?_ | refine O8 rfl ?_ | refine O7 rfl ?_ rfl | refine O9 rfl ?_ rfl | refine U1 _ (U4 rfl rfl) rfl ?_ | refine U1 _ (U5 rfl rfl) rfl ?_ | refine U1 _ (U2 rfl) rfl ?_ | refine U1 _ (U3 tok rfl rfl rfl rfl rfl) rfl ?_) | (refine M4 ?_; first | refine M6 ?_ | refine U6 rfl (by kernel_rfl) ?_ | refine U7 (by kernel_rfl) ?_) | (refine M5 ?_; first | exact M7 | refine U8 rfl ?_ | refine U9 rfl rfl ?_ ?_))
    refine XL.buildSlice tok rfl rfl rfl rfl rfl rfl rfl rfl rfl (fun gb hgb => ?_)
    have hWs : w.heap.size ≤ W.heap.size := SW.size
    refine XL.append (v := svV r) (m := 1) (n := k) (size := 1) (bytes := 8) (news := [.int .i64 tk]) int_el (by decide) rfl rfl rfl hown
      (owns_sep hown (fun x hx => by simp only [List.mem_cons, List.not_mem_nil, or_false] at hx; rcases hx with rfl | rfl | rfl | rfl <;> simp only <;> omega)) rfl
      (fun w' S j u hj => by rw [add_off]; exact (S.cell (List.mem_cons_self) _).trans (by simpa using hj)) rfl (by unfold maxLen; omega) (by omega) SW.size
      (List.Sublist.cons _ (List.Sublist.cons _ (List.Sublist.refl _))) (fun w1 v' w2 S1 ho1 hg1 _ => ?_)
    obtain ⟨r2, rfl, hr2⟩ := owns_sv ho1
    simp only [svV]
    repeat (first | (refine M0 ?_; first | refine O0 ?_ | refine z1 tok rfl ?_ | refine O1 rfl ?_ rfl | refine O2 rfl ?_ | refine O3 rfl ?_ rfl | refine O4 rfl rfl rfl (fun _ _ => ?_) | refine O5 tok rfl rfl rfl (fun _ _ => ?_) | refine U0 _ (U2 rfl) rfl ?_ | refine U0 _ (U3 tok rfl rfl rfl rfl rfl) rfl ?_ | refine z3 tok rfl ?_ | refine U0 _ (U4 rfl rfl) rfl ?_ | refine U0 _ (U5 rfl rfl) rfl ?_) | (refine M1 ?_; first | refine J0 ?_ | refine J1 ?_ | refine J2 mixed rfl (by kernel_rfl) ?_ | refine J3 mixed rfl rfl (by kernel_rfl) ?_ | refine J4 ?_ | refine J5 ?_ | refine J6 ?_ | refine J7 ?_ | refine J8 rfl ?_ | refine J9 rfl ?_) | (refine M2 ?_; first | refine I0 ?_ | refine I1 ?_ | refine I2 ?_ | refine I3 ?_ | refine I4 ?_ | refine I5 ?_ | refine I6 rfl ?_ | refine I7 ?_ | refine I8 ?_ | refine z4 ?_) | (refine M3 ?_; first | refine O6 ?_ | refine z2 tok rfl ?_ | refine O8 rfl ?_ | refine O7 rfl ?_ rfl | refine O9 rfl ?_ rfl | refine U1 _ (U4 rfl rfl) rfl ?_ | refine U1 _ (U5 rfl rfl) rfl ?_ | refine U1 _ (U2 rfl) rfl ?_ | refine U1 _ (U3 tok rfl rfl rfl rfl rfl) rfl ?_) | (refine M4 ?_; first | refine M6 ?_ | refine U6 rfl (by kernel_rfl) ?_ | refine U7 (by kernel_rfl) ?_) | (refine M5 ?_; first | exact M7 | refine U8 rfl ?_ | refine U9 rfl rfl ?_ ?_))
    refine XE.roundW (s := (k, W, r)) ?_
    intro w3 S3
    have e1 : polV b s s.vol (k + 1) = polV b s s.vol k - tk := by rw [htkq]; rfl
    have e2 : (ints (filK b s k) ++ sp).set (0 + (k : Int).toNat * 1) (.int .i64 (s.f k + tk)) = ints (filK b s (k + 1)) ++ sp := by
      rw [Nat.zero_add, Int.toNat_natCast, Nat.mul_one, htkq]; exact filK_set hkm sp
    rw [e2] at S3
    refine ⟨(k + 1, w3, r2), ⟨hkm, ?_, ?_⟩, ?_, (by repeat (first | exact Sub.nil | refine Sub.cons rfl ?_)), ?_⟩
    · simp only [e1]
      refine ((SW.trans ((S1.pop hgb).pop hgx) (fun x hx => by simpa using hx)).grown hg1 fun q hq => ?_).trans S3 (fun x hx => by simpa using hx)
      have := hown.lt q hq
      exact ⟨this.1, fun x hx e2 => by simp only [List.mem_cons, List.not_mem_nil, or_false] at hx; rcases hx with rfl | rfl <;> simp only at e2 <;> omega⟩
    · have e3 : ints (rg (k + 1) fun i => polT b s s.vol i) = ints (rg k fun i => polT b s s.vol i) ++ [.int .i64 tk] := by rw [rg_succ, htkq]; simp [ints, polT]
      simp only [e3]
      exact owns_sys ho1 S3 (owns_sep ho1 (fun x hx => by simp only [List.mem_cons, List.not_mem_nil, or_false] at hx; rcases hx with rfl | rfl <;> simp only <;> omega))
    · simp only; omega
    · simp only [e1]
      exact S3.rebase (List.Sublist.refl _)
  · have hge : k = b.pols.length := by simp at h1; omega
    subst hge
    repeat (first | (refine M0 ?_; first | refine O0 ?_ | refine z1 tok rfl ?_ | refine O1 rfl ?_ rfl | refine O2 rfl ?_ | refine O3 rfl ?_ rfl | refine O4 rfl rfl rfl (fun _ _ => ?_) | refine O5 tok rfl rfl rfl (fun _ _ => ?_) | refine U0 _ (U2 rfl) rfl ?_ | refine U0 _ (U3 tok rfl rfl rfl rfl rfl) rfl ?_ | refine z3 tok rfl ?_ | refine U0 _ (U4 rfl rfl) rfl ?_ | refine U0 _ (U5 rfl rfl) rfl ?_) | (refine M1 ?_; first | refine J0 ?_ | refine J1 ?_ | refine J2 mixed rfl (by kernel_rfl) ?_ | refine J3 mixed rfl rfl (by kernel_rfl) ?_ | refine J4 ?_ | refine J5 ?_ | refine J6 ?_ | refine J7 ?_ | refine J8 rfl ?_ | refine J9 rfl ?_) | (refine M2 ?_; first | refine I0 ?_ | refine I1 ?_ | refine I2 ?_ | refine I3 ?_ | refine I4 ?_ | refine I5 ?_ | refine I6 rfl ?_ | refine I7 ?_ | refine I8 ?_ | refine z4 ?_) | (refine M3 ?_; first | refine O6 ?_ | refine z2 tok rfl ?_ | refine O8 rfl ?_ | refine O7 rfl ?_ rfl | refine O9 rfl ?_ rfl | refine U1 _ (U4 rfl rfl) rfl ?_ | refine U1 _ (U5 rfl rfl) rfl ?_ | refine U1 _ (U2 rfl) rfl ?_ | refine U1 _ (U3 tok rfl rfl rfl rfl rfl) rfl ?_) | (refine M4 ?_; first | refine M6 ?_ | refine U6 rfl (by kernel_rfl) ?_ | refine U7 (by kernel_rfl) ?_) | (refine M5 ?_; first | exact M7 | refine U8 rfl ?_ | refine U9 rfl rfl ?_ ?_))
    refine XE.retg tok Tryd.results90 rfl (by simp only [and_self, and_true]) (fun w' S => ?_)
    refine ⟨rfl, r, ?_, ?_⟩
    · rw [← filK_end]
      exact SW.trans S (fun x hx => by simpa using hx)
    · exact owns_sys hown S (owns_sep hown (fun x hx => by simp only [List.mem_cons, List.not_mem_nil, or_false] at hx; rcases hx with rfl | rfl <;> simp only <;> omega))
end
end Go.Proofs.YtoiepgcjinccpaaDoor.X
