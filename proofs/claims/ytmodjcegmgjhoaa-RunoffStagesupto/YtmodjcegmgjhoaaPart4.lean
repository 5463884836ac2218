/-
  The walks of devices, kinds and Check's closure (runoff).
-/
import Derived.Test.YtmodjcegmgjhoaaPart3
import Derived.KernelRfl
set_option linter.unusedVariables false
set_option linter.unusedSimpArgs false
namespace Go.Proofs.Ytmodjcegmgjhoaa.X
open Go Go.RowKit Go.Proofs.Ytmodjcegmgjhoaa.Bs
set_option linter.unusedVariables false
theorem dev_el : elemOk Try.prog 95 devK.ty devK.m 16 = true := by kernel_rfl
theorem slu_con : conB (Try.prog.underlying 153) = true := by kernel_rfl
theorem pmp_con : conB (Try.prog.underlying 154) = true := by kernel_rfl
def DevsV (ds : List Dev) (v : Value) (new : List Held) : Prop := ∃ r : SV, v = svV r ∧ new = [hList devK r ds] ∧ (0 < ds.length → ds.length ≤ r.c)
theorem take_map_succ {α β : Type} (f : α → β) {l : List α} {k : Nat} (h : k < l.length) : (l.take (k + 1)).map f = (l.take k).map f ++ [f l[k]] := by
  rw [List.take_add_one, List.getElem?_eq_getElem h, List.map_append]; rfl
set_option maxHeartbeats 8000000 in
theorem devices_made {v : RTV} {t : RTk} {w : World} (ht : TskAt w w.heap.size v t) (hn : t.slu.length + t.pmp.length ≤ 5000000) :
    Calls Try.prog 47 #[tskV v t] w (Made w (DevsV t.devs)) := by
  obtain ⟨p, q, o, r, c, ⟨As, ns, cs⟩, ⟨Ap, np, cp⟩, on⟩ := v
  have hls := ht.slu.len (by decide)
  have hlp := ht.pmp.len (by decide)
  simp only at hls hlp
  subst hls hlp
  have hsl := ht.slu
  have hpl := ht.pmp
  simp only at hsl hpl
  simp only [tskV, tskC]
  refine enter Try.func47 rfl Try.ntmps47 rfl ?_; simp only [frame, Nat.zero_add, Nat.reduceAdd]
  repeat (first | (refine M0 ?_; first | refine O0 ?_ | refine z1 tok rfl ?_ | refine O1 rfl ?_ rfl | refine O2 rfl ?_ | refine O3 rfl ?_ rfl | refine O4 rfl rfl rfl (fun _ _ => ?_) | refine O5 tok rfl rfl rfl (fun _ _ => ?_) | refine U0 _ (U2 rfl) rfl ?_ | refine U0 _ (U3 tok rfl rfl rfl rfl rfl) rfl ?_ | refine z3 tok rfl ?_ | refine U0 _ (U4 rfl rfl) rfl ?_ | refine U0 _ (U5 rfl rfl) rfl ?_) | (refine M1 ?_; first | refine J0 ?_ | refine J1 ?_ | refine J2 mixed rfl (by kernel_rfl) ?_ | refine J3 mixed rfl rfl (by kernel_rfl) ?_ | refine J4 ?_ | refine J5 ?_ | refine J6 ?_ | refine J7 ?_ | refine J8 rfl ?_ | refine J9 rfl ?_) | (refine M2 ?_; first | refine I0 ?_ | refine I1 ?_ | refine I2 ?_ | refine I3 ?_ | refine I4 ?_ | refine I5 ?_ | refine I6 rfl ?_ | refine I7 ?_ | refine I8 ?_ | refine z4 ?_) | (refine M3 ?_; first | refine O6 ?_ | refine z2 tok rfl ?_ | refine O8 rfl ?_ | refine O7 rfl ?_ rfl | refine O9 rfl ?_ rfl | refine U1 _ (U4 rfl rfl) rfl ?_ | refine U1 _ (U5 rfl rfl) rfl ?_ | refine U1 _ (U2 rfl) rfl ?_ | refine U1 _ (U3 tok rfl rfl rfl rfl rfl) rfl ?_) | (refine M4 ?_; first | refine M6 ?_ | refine U6 rfl (by kernel_rfl) ?_ | refine U7 (by kernel_rfl) ?_) | (refine M5 ?_; first | exact M7 | refine U8 rfl ?_ | refine U9 rfl rfl ?_ ?_))
  rename_i g1 hg1
  refine XC.rebase (List.Sublist.refl _) (fun W0 S0 => ?_)
  have hl1 : ∀ (l : List Dev), l.length ≤ 5000000 → l.length + 1 ≤ 10000000 := fun l h => by omega
  have ha1 : ∀ (d : Dev) x, x ∈ devK.sl d → x ∈ ([] : List Held) := fun d x hx => hx
  refine XC.loopk [1, 8, 9] rfl (fun s : Nat × World × Value => [(10, .int .i64 (s.1 : Nat)), (2, s.2.2)]) (fun s => [(g1, _)]) (fun s => s.2.1)
    (fun s => s.1 ≤ t.slu.length ∧ Fam s.2.1 w.heap.size [g1] [⟨Dev, devK, s.2.2, (t.slu.take s.1).map Dev.slu⟩] [] ∧ Below w.heap.size w s.2.1 ∧ g1 < s.2.1.heap.size)
    (fun s => t.slu.length - s.1) (0, W0, .slice none 0 0) ⟨Nat.zero_le _, (Fam.start (ks := [g1]) S0.size).nil devK, S0.toBelow, S0.keyLt g1 (by simp)⟩ (by repeat (first | exact Sub.nil | refine Sub.cons rfl ?_)) (fun _ h => h) ?_
  · rintro ⟨k, W, v⟩ ⟨hk, hF, hBW, hgW⟩
    simp only at hk hF hBW hgW
    dsimp only [List.cons_append, List.nil_append]
    repeat (first | (refine M0 ?_; first | refine O0 ?_ | refine z1 tok rfl ?_ | refine O1 rfl ?_ rfl | refine O2 rfl ?_ | refine O3 rfl ?_ rfl | refine O4 rfl rfl rfl (fun _ _ => ?_) | refine O5 tok rfl rfl rfl (fun _ _ => ?_) | refine U0 _ (U2 rfl) rfl ?_ | refine U0 _ (U3 tok rfl rfl rfl rfl rfl) rfl ?_ | refine z3 tok rfl ?_ | refine U0 _ (U4 rfl rfl) rfl ?_ | refine U0 _ (U5 rfl rfl) rfl ?_) | (refine M1 ?_; first | refine J0 ?_ | refine J1 ?_ | refine J2 mixed rfl (by kernel_rfl) ?_ | refine J3 mixed rfl rfl (by kernel_rfl) ?_ | refine J4 ?_ | refine J5 ?_ | refine J6 ?_ | refine J7 ?_ | refine J8 rfl ?_ | refine J9 rfl ?_) | (refine M2 ?_; first | refine I0 ?_ | refine I1 ?_ | refine I2 ?_ | refine I3 ?_ | refine I4 ?_ | refine I5 ?_ | refine I6 rfl ?_ | refine I7 ?_ | refine I8 ?_ | refine z4 ?_) | (refine M3 ?_; first | refine O6 ?_ | refine z2 tok rfl ?_ | refine O8 rfl ?_ | refine O7 rfl ?_ rfl | refine O9 rfl ?_ rfl | refine U1 _ (U4 rfl rfl) rfl ?_ | refine U1 _ (U5 rfl rfl) rfl ?_ | refine U1 _ (U2 rfl) rfl ?_ | refine U1 _ (U3 tok rfl rfl rfl rfl rfl) rfl ?_) | (refine M4 ?_; first | refine M6 ?_ | refine U6 rfl (by kernel_rfl) ?_ | refine U7 (by kernel_rfl) ?_) | (refine M5 ?_; first | exact M7 | refine U8 rfl ?_ | refine U9 rfl rfl ?_ ?_))
    refine XC.cond _ rfl (fun h1 => ?_) (fun h1 => ?_)
    · have hkn : k < t.slu.length := by simpa using h1
      obtain ⟨ad, rfl, hlt⟩ := hsl.addr (by decide) (by omega)
      obtain ⟨x, hx⟩ : ∃ x, x = t.slu[k] := ⟨_, rfl⟩
      have hcell : ∀ j u, (sluC x)[j]? = some u → W.cell? ((ad.add (k * 3)).add j) = some u := by rw [hx]; exact (hsl.below hBW).elem (List.getElem?_eq_getElem hkn)
      have hks : ∀ j, j ∈ [g1] → j < W.heap.size := fun j hj => by rw [List.mem_singleton.1 hj]; exact hgW
      simp only [sluC] at hcell
      repeat (first | (refine M0 ?_; first | refine O0 ?_ | refine z1 tok rfl ?_ | refine O1 rfl ?_ rfl | refine O2 rfl ?_ | refine O3 rfl ?_ rfl | refine U0 _ (Ev.load_old_agg tok _ rfl rfl rfl (add_lt hlt) hcell) rfl ?_ | refine U0 _ (Ev.makeI slu_con rfl) rfl ?_ | refine O4 rfl rfl rfl (fun _ _ => ?_) | refine O5 tok rfl rfl rfl (fun _ _ => ?_) | refine U0 _ (U2 rfl) rfl ?_ | refine U0 _ (U3 tok rfl rfl rfl rfl rfl) rfl ?_ | refine z3 tok rfl ?_ | refine U0 _ (U4 rfl rfl) rfl ?_ | refine U0 _ (U5 rfl rfl) rfl ?_ | refine XL.buildSlice tok rfl rfl rfl rfl rfl rfl rfl rfl rfl (fun _ _ => ?_)) | (refine M1 ?_; first | refine J0 ?_ | refine J1 ?_ | refine J2 mixed rfl (by kernel_rfl) ?_ | refine J3 mixed rfl rfl (by kernel_rfl) ?_ | refine J4 ?_ | refine J5 ?_ | refine J6 ?_ | refine J7 ?_ | refine J8 rfl ?_ | refine J9 rfl ?_) | (refine M2 ?_; first | refine I0 ?_ | refine I1 ?_ | refine I2 ?_ | refine I3 ?_ | refine I4 ?_ | refine I5 ?_ | refine I6 rfl ?_ | refine I7 ?_ | refine I8 ?_ | refine z4 ?_) | (refine M3 ?_; first | refine O6 ?_ | refine z2 tok rfl ?_ | refine O8 rfl ?_ | refine O7 rfl ?_ rfl | refine O9 rfl ?_ rfl | refine U1 _ (Ev.load_old_agg tok _ rfl rfl rfl (add_lt hlt) hcell) rfl ?_ | refine U1 _ (Ev.makeI slu_con rfl) rfl ?_ | refine U1 _ (U4 rfl rfl) rfl ?_ | refine U1 _ (U5 rfl rfl) rfl ?_ | refine U1 _ (U2 rfl) rfl ?_ | refine U1 _ (U3 tok rfl rfl rfl rfl rfl) rfl ?_) | (refine M4 ?_; first | refine M6 ?_ | refine U6 rfl (by kernel_rfl) ?_ | refine U7 (by kernel_rfl) ?_) | (refine M5 ?_; first | exact M7 | refine U8 rfl ?_ | refine U9 rfl rfl ?_ ?_))
      refine XL.push (K := devK) (a := Dev.slu x) (wE := w) 0 dev_el (by decide) rfl rfl rfl hF rfl hks hBW (Nat.le_refl _) rfl (hl1 _ (by rw [List.length_map, List.length_take]; omega)) (by decide) (ha1 _) (fun W1 u1 hF1 hB1 hk1 => ?_)
      repeat (first | (refine M0 ?_; first | refine O0 ?_ | refine z1 tok rfl ?_ | refine O1 rfl ?_ rfl | refine O2 rfl ?_ | refine O3 rfl ?_ rfl | refine O4 rfl rfl rfl (fun _ _ => ?_) | refine O5 tok rfl rfl rfl (fun _ _ => ?_) | refine U0 _ (U2 rfl) rfl ?_ | refine U0 _ (U3 tok rfl rfl rfl rfl rfl) rfl ?_ | refine z3 tok rfl ?_ | refine U0 _ (U4 rfl rfl) rfl ?_ | refine U0 _ (U5 rfl rfl) rfl ?_) | (refine M1 ?_; first | refine J0 ?_ | refine J1 ?_ | refine J2 mixed rfl (by kernel_rfl) ?_ | refine J3 mixed rfl rfl (by kernel_rfl) ?_ | refine J4 ?_ | refine J5 ?_ | refine J6 ?_ | refine J7 ?_ | refine J8 rfl ?_ | refine J9 rfl ?_) | (refine M2 ?_; first | refine I0 ?_ | refine I1 ?_ | refine I2 ?_ | refine I3 ?_ | refine I4 ?_ | refine I5 ?_ | refine I6 rfl ?_ | refine I7 ?_ | refine I8 ?_ | refine z4 ?_) | (refine M3 ?_; first | refine O6 ?_ | refine z2 tok rfl ?_ | refine O8 rfl ?_ | refine O7 rfl ?_ rfl | refine O9 rfl ?_ rfl | refine U1 _ (U4 rfl rfl) rfl ?_ | refine U1 _ (U5 rfl rfl) rfl ?_ | refine U1 _ (U2 rfl) rfl ?_ | refine U1 _ (U3 tok rfl rfl rfl rfl rfl) rfl ?_) | (refine M4 ?_; first | refine M6 ?_ | refine U6 rfl (by kernel_rfl) ?_ | refine U7 (by kernel_rfl) ?_) | (refine M5 ?_; first | exact M7 | refine U8 rfl ?_ | refine U9 rfl rfl ?_ ?_))
      refine XE.roundW (s := (k, W, v)) (fun w6 S6 => ⟨(k + 1, w6, u1), ⟨hkn, ?_, hB1.trans S6.toBelow, S6.keyLt g1 (by simp)⟩, by simp only; omega, (by repeat (first | exact Sub.nil | refine Sub.cons rfl ?_)), S6.rebase (by repeat (first | exact List.Sublist.refl _ | exact List.nil_sublist _ | refine List.Sublist.cons _ ?_))⟩)
      simp only [take_map_succ Dev.slu hkn, ← hx]
      exact Fam.add (Fam.sys hF1 S6 (by intro e he; repeat (first | (cases he; done) | (rcases List.mem_cons.1 he with rfl | he; · first | (right; assumption) | (left; simp <;> fail))))) (by intro k hk; repeat (first | (cases hk; done) | (rcases List.mem_cons.1 hk with rfl | hk; · first | (right; assumption) | (left; simp <;> fail))))
    · have hkn : k = t.slu.length := by have : ¬ (k < t.slu.length) := by simpa using h1
                                        omega
      subst hkn
      rw [List.take_length] at hF
      repeat (first | (refine M0 ?_; first | refine O0 ?_ | refine z1 tok rfl ?_ | refine O1 rfl ?_ rfl | refine O2 rfl ?_ | refine O3 rfl ?_ rfl | refine O4 rfl rfl rfl (fun _ _ => ?_) | refine O5 tok rfl rfl rfl (fun _ _ => ?_) | refine U0 _ (U2 rfl) rfl ?_ | refine U0 _ (U3 tok rfl rfl rfl rfl rfl) rfl ?_ | refine z3 tok rfl ?_ | refine U0 _ (U4 rfl rfl) rfl ?_ | refine U0 _ (U5 rfl rfl) rfl ?_) | (refine M1 ?_; first | refine J0 ?_ | refine J1 ?_ | refine J2 mixed rfl (by kernel_rfl) ?_ | refine J3 mixed rfl rfl (by kernel_rfl) ?_ | refine J4 ?_ | refine J5 ?_ | refine J6 ?_ | refine J7 ?_ | refine J8 rfl ?_ | refine J9 rfl ?_) | (refine M2 ?_; first | refine I0 ?_ | refine I1 ?_ | refine I2 ?_ | refine I3 ?_ | refine I4 ?_ | refine I5 ?_ | refine I6 rfl ?_ | refine I7 ?_ | refine I8 ?_ | refine z4 ?_) | (refine M3 ?_; first | refine O6 ?_ | refine z2 tok rfl ?_ | refine O8 rfl ?_ | refine O7 rfl ?_ rfl | refine O9 rfl ?_ rfl | refine U1 _ (U4 rfl rfl) rfl ?_ | refine U1 _ (U5 rfl rfl) rfl ?_ | refine U1 _ (U2 rfl) rfl ?_ | refine U1 _ (U3 tok rfl rfl rfl rfl rfl) rfl ?_) | (refine M4 ?_; first | refine M6 ?_ | refine U6 rfl (by kernel_rfl) ?_ | refine U7 (by kernel_rfl) ?_) | (refine M5 ?_; first | exact M7 | refine U8 rfl ?_ | refine U9 rfl rfl ?_ ?_))
      refine XC.rebase (List.Sublist.refl _) (fun W2 S2 => ?_)
      refine XC.loopk [21, 22] rfl (fun s : Nat × World × Value => [(23, .int .i64 (s.1 : Nat)), (2, s.2.2)]) (fun s => [(g1, _)]) (fun s => s.2.1)
        (fun s => s.1 ≤ t.pmp.length ∧ Fam s.2.1 w.heap.size [g1] [⟨Dev, devK, s.2.2, t.slu.map Dev.slu ++ (t.pmp.take s.1).map Dev.pmp⟩] [] ∧ Below w.heap.size w s.2.1 ∧ g1 < s.2.1.heap.size)
        (fun s => t.pmp.length - s.1) (0, W2, v) ⟨Nat.zero_le _, by simpa using hF.sys S2 (by intro e he; repeat (first | (cases he; done) | (rcases List.mem_cons.1 he with rfl | he; · first | (right; assumption) | (left; simp <;> fail)))), hBW.trans S2.toBelow, S2.keyLt g1 (by simp)⟩ (by repeat (first | exact Sub.nil | refine Sub.cons rfl ?_)) (fun _ h => h) ?_
      rintro ⟨k, W, v⟩ ⟨hk, hF, hBW, hgW⟩
      simp only at hk hF hBW hgW
      dsimp only [List.cons_append, List.nil_append]
      repeat (first | (refine M0 ?_; first | refine O0 ?_ | refine z1 tok rfl ?_ | refine O1 rfl ?_ rfl | refine O2 rfl ?_ | refine O3 rfl ?_ rfl | refine O4 rfl rfl rfl (fun _ _ => ?_) | refine O5 tok rfl rfl rfl (fun _ _ => ?_) | refine U0 _ (U2 rfl) rfl ?_ | refine U0 _ (U3 tok rfl rfl rfl rfl rfl) rfl ?_ | refine z3 tok rfl ?_ | refine U0 _ (U4 rfl rfl) rfl ?_ | refine U0 _ (U5 rfl rfl) rfl ?_) | (refine M1 ?_; first | refine J0 ?_ | refine J1 ?_ | refine J2 mixed rfl (by kernel_rfl) ?_ | refine J3 mixed rfl rfl (by kernel_rfl) ?_ | refine J4 ?_ | refine J5 ?_ | refine J6 ?_ | refine J7 ?_ | refine J8 rfl ?_ | refine J9 rfl ?_) | (refine M2 ?_; first | refine I0 ?_ | refine I1 ?_ | refine I2 ?_ | refine I3 ?_ | refine I4 ?_ | refine I5 ?_ | refine I6 rfl ?_ | refine I7 ?_ | refine I8 ?_ | refine z4 ?_) | (refine M3 ?_; first | refine O6 ?_ | refine z2 tok rfl ?_ | refine O8 rfl ?_ | refine O7 rfl ?_ rfl | refine O9 rfl ?_ rfl | refine U1 _ (U4 rfl rfl) rfl ?_ | refine U1 _ (U5 rfl rfl) rfl ?_ | refine U1 _ (U2 rfl) rfl ?_ | refine U1 _ (U3 tok rfl rfl rfl rfl rfl) rfl ?_) | (refine M4 ?_; first | refine M6 ?_ | refine U6 rfl (by kernel_rfl) ?_ | refine U7 (by kernel_rfl) ?_) | (refine M5 ?_; first | exact M7 | refine U8 rfl ?_ | refine U9 rfl rfl ?_ ?_))
      refine XC.cond _ rfl (fun h1 => ?_) (fun h1 => ?_)
      · have hkn : k < t.pmp.length := by simpa using h1
        obtain ⟨ad, rfl, hlt⟩ := hpl.addr (by decide) (by omega)
        obtain ⟨x, hx⟩ : ∃ x, x = t.pmp[k] := ⟨_, rfl⟩
        have hcell : ∀ j u, (pmpC x)[j]? = some u → W.cell? ((ad.add (k * 5)).add j) = some u := by rw [hx]; exact (hpl.below hBW).elem (List.getElem?_eq_getElem hkn)
        have hks : ∀ j, j ∈ [g1] → j < W.heap.size := fun j hj => by rw [List.mem_singleton.1 hj]; exact hgW
        simp only [pmpC] at hcell
        repeat (first | (refine M0 ?_; first | refine O0 ?_ | refine z1 tok rfl ?_ | refine O1 rfl ?_ rfl | refine O2 rfl ?_ | refine O3 rfl ?_ rfl | refine U0 _ (Ev.load_old_agg tok _ rfl rfl rfl (add_lt hlt) hcell) rfl ?_ | refine U0 _ (Ev.makeI pmp_con rfl) rfl ?_ | refine O4 rfl rfl rfl (fun _ _ => ?_) | refine O5 tok rfl rfl rfl (fun _ _ => ?_) | refine U0 _ (U2 rfl) rfl ?_ | refine U0 _ (U3 tok rfl rfl rfl rfl rfl) rfl ?_ | refine z3 tok rfl ?_ | refine U0 _ (U4 rfl rfl) rfl ?_ | refine U0 _ (U5 rfl rfl) rfl ?_ | refine XL.buildSlice tok rfl rfl rfl rfl rfl rfl rfl rfl rfl (fun _ _ => ?_)) | (refine M1 ?_; first | refine J0 ?_ | refine J1 ?_ | refine J2 mixed rfl (by kernel_rfl) ?_ | refine J3 mixed rfl rfl (by kernel_rfl) ?_ | refine J4 ?_ | refine J5 ?_ | refine J6 ?_ | refine J7 ?_ | refine J8 rfl ?_ | refine J9 rfl ?_) | (refine M2 ?_; first | refine I0 ?_ | refine I1 ?_ | refine I2 ?_ | refine I3 ?_ | refine I4 ?_ | refine I5 ?_ | refine I6 rfl ?_ | refine I7 ?_ | refine I8 ?_ | refine z4 ?_) | (refine M3 ?_; first | refine O6 ?_ | refine z2 tok rfl ?_ | refine O8 rfl ?_ | refine O7 rfl ?_ rfl | refine O9 rfl ?_ rfl | refine U1 _ (Ev.load_old_agg tok _ rfl rfl rfl (add_lt hlt) hcell) rfl ?_ | refine U1 _ (Ev.makeI pmp_con rfl) rfl ?_ | refine U1 _ (U4 rfl rfl) rfl ?_ | refine U1 _ (U5 rfl rfl) rfl ?_ | refine U1 _ (U2 rfl) rfl ?_ | refine U1 _ (U3 tok rfl rfl rfl rfl rfl) rfl ?_) | (refine M4 ?_; first | refine M6 ?_ | refine U6 rfl (by kernel_rfl) ?_ | refine U7 (by kernel_rfl) ?_) | (refine M5 ?_; first | exact M7 | refine U8 rfl ?_ | refine U9 rfl rfl ?_ ?_))
        refine XL.push (K := devK) (a := Dev.pmp x) (wE := w) 0 dev_el (by decide) rfl rfl rfl hF rfl hks hBW (Nat.le_refl _) rfl (hl1 _ (by rw [List.length_append, List.length_map, List.length_map, List.length_take]; omega)) (by decide) (ha1 _) (fun W1 u1 hF1 hB1 hk1 => ?_)
        repeat (first | (refine M0 ?_; first | refine O0 ?_ | refine z1 tok rfl ?_ | refine O1 rfl ?_ rfl | refine O2 rfl ?_ | refine O3 rfl ?_ rfl | refine O4 rfl rfl rfl (fun _ _ => ?_) | refine O5 tok rfl rfl rfl (fun _ _ => ?_) | refine U0 _ (U2 rfl) rfl ?_ | refine U0 _ (U3 tok rfl rfl rfl rfl rfl) rfl ?_ | refine z3 tok rfl ?_ | refine U0 _ (U4 rfl rfl) rfl ?_ | refine U0 _ (U5 rfl rfl) rfl ?_) | (refine M1 ?_; first | refine J0 ?_ | refine J1 ?_ | refine J2 mixed rfl (by kernel_rfl) ?_ | refine J3 mixed rfl rfl (by kernel_rfl) ?_ | refine J4 ?_ | refine J5 ?_ | refine J6 ?_ | refine J7 ?_ | refine J8 rfl ?_ | refine J9 rfl ?_) | (refine M2 ?_; first | refine I0 ?_ | refine I1 ?_ | refine I2 ?_ | refine I3 ?_ | refine I4 ?_ | refine I5 ?_ | refine I6 rfl ?_ | refine I7 ?_ | refine I8 ?_ | refine z4 ?_) | (refine M3 ?_; first | refine O6 ?_ | refine z2 tok rfl ?_ | refine O8 rfl ?_ | refine O7 rfl ?_ rfl | refine O9 rfl ?_ rfl | refine U1 _ (U4 rfl rfl) rfl ?_ | refine U1 _ (U5 rfl rfl) rfl ?_ | refine U1 _ (U2 rfl) rfl ?_ | refine U1 _ (U3 tok rfl rfl rfl rfl rfl) rfl ?_) | (refine M4 ?_; first | refine M6 ?_ | refine U6 rfl (by kernel_rfl) ?_ | refine U7 (by kernel_rfl) ?_) | (refine M5 ?_; first | exact M7 | refine U8 rfl ?_ | refine U9 rfl rfl ?_ ?_))
        refine XE.roundW (s := (k, W, v)) (fun w6 S6 => ⟨(k + 1, w6, u1), ⟨hkn, ?_, hB1.trans S6.toBelow, S6.keyLt g1 (by simp)⟩, by simp only; omega, (by repeat (first | exact Sub.nil | refine Sub.cons rfl ?_)), S6.rebase (by repeat (first | exact List.Sublist.refl _ | exact List.nil_sublist _ | refine List.Sublist.cons _ ?_))⟩)
        simp only [take_map_succ Dev.pmp hkn, ← hx, ← List.append_assoc]
        exact Fam.add (Fam.sys hF1 S6 (by intro e he; repeat (first | (cases he; done) | (rcases List.mem_cons.1 he with rfl | he; · first | (right; assumption) | (left; simp <;> fail))))) (by intro k hk; repeat (first | (cases hk; done) | (rcases List.mem_cons.1 hk with rfl | hk; · first | (right; assumption) | (left; simp <;> fail))))
      · have hkn : k = t.pmp.length := by have : ¬ (k < t.pmp.length) := by simpa using h1
                                          omega
        subst hkn
        rw [List.take_length] at hF
        repeat (first | (refine M0 ?_; first | refine O0 ?_ | refine z1 tok rfl ?_ | refine O1 rfl ?_ rfl | refine O2 rfl ?_ | refine O3 rfl ?_ rfl | refine O4 rfl rfl rfl (fun _ _ => ?_) | refine O5 tok rfl rfl rfl (fun _ _ => ?_) | refine U0 _ (U2 rfl) rfl ?_ | refine U0 _ (U3 tok rfl rfl rfl rfl rfl) rfl ?_ | refine z3 tok rfl ?_ | refine U0 _ (U4 rfl rfl) rfl ?_ | refine U0 _ (U5 rfl rfl) rfl ?_) | (refine M1 ?_; first | refine J0 ?_ | refine J1 ?_ | refine J2 mixed rfl (by kernel_rfl) ?_ | refine J3 mixed rfl rfl (by kernel_rfl) ?_ | refine J4 ?_ | refine J5 ?_ | refine J6 ?_ | refine J7 ?_ | refine J8 rfl ?_ | refine J9 rfl ?_) | (refine M2 ?_; first | refine I0 ?_ | refine I1 ?_ | refine I2 ?_ | refine I3 ?_ | refine I4 ?_ | refine I5 ?_ | refine I6 rfl ?_ | refine I7 ?_ | refine I8 ?_ | refine z4 ?_) | (refine M3 ?_; first | refine O6 ?_ | refine z2 tok rfl ?_ | refine O8 rfl ?_ | refine O7 rfl ?_ rfl | refine O9 rfl ?_ rfl | refine U1 _ (U4 rfl rfl) rfl ?_ | refine U1 _ (U5 rfl rfl) rfl ?_ | refine U1 _ (U2 rfl) rfl ?_ | refine U1 _ (U3 tok rfl rfl rfl rfl rfl) rfl ?_) | (refine M4 ?_; first | refine M6 ?_ | refine U6 rfl (by kernel_rfl) ?_ | refine U7 (by kernel_rfl) ?_) | (refine M5 ?_; first | exact M7 | refine U8 rfl ?_ | refine U9 rfl rfl ?_ ?_))
        refine XE.retg tok Try.results47 rfl (by simp only [and_self, and_true]) (fun w' S => ?_)
        have hF6 := hF.sys S (by intro e he; repeat (first | (cases he; done) | (rcases List.mem_cons.1 he with rfl | he; · first | (right; assumption) | (left; simp <;> fail))))
        obtain ⟨r1, rfl, h5⟩ := hF6.list (.head _)
        exact ⟨_, _, rfl, ⟨r1, rfl, rfl, fun h0 => hF6.cap (r := r1) (.head _) h0⟩, fun x hx => by rw [List.mem_singleton.1 hx]; exact h5, hBW.trans S.toBelow⟩
/-! ### kinds -/
def isS : Dev → Bool
  | .slu _ => true
  | .pmp _ => false
def isP (d : Dev) : Bool := !isS d
theorem countP_succ (f : Dev → Bool) {l : List Dev} {k : Nat} (h : k < l.length) : (l.take (k + 1)).countP f = (l.take k).countP f + (if f l[k] = true then 1 else 0) := by
  rw [List.take_add_one, List.getElem?_eq_getElem h, List.countP_append]
  congr 1
  simp [List.countP_cons]
theorem count_devs (t : RTk) : t.devs.countP isS = t.slu.length ∧ t.devs.countP isP = t.pmp.length := by
  unfold RTk.devs
  rw [List.countP_append, List.countP_append, List.countP_map, List.countP_map, List.countP_map, List.countP_map]
  have e1 : t.slu.countP (isS ∘ Dev.slu) = t.slu.length := List.countP_eq_length.2 fun _ _ => rfl
  have e2 : t.pmp.countP (isS ∘ Dev.pmp) = 0 := List.countP_eq_zero.2 fun _ _ => by simp [isS]
  have e3 : t.slu.countP (isP ∘ Dev.slu) = 0 := List.countP_eq_zero.2 fun _ _ => by simp [isP, isS]
  have e4 : t.pmp.countP (isP ∘ Dev.pmp) = t.pmp.length := List.countP_eq_length.2 fun _ _ => rfl
  omega
set_option maxHeartbeats 4000000 in
theorem kinds_any {r : SV} {ds : List Dev} {w : World} (hr : ListAt devK w (Lt w.heap.size) r ds) (hn : ds.length ≤ 10000000) :
    Calls Try.prog 48 #[svV r] w fun e w' => e = .returned (.tuple ⟨[.int .i64 (ds.countP isS : Nat), .int .i64 (ds.countP isP : Nat)]⟩) ∧ Below w.heap.size w w' := by
  obtain ⟨A, n, c⟩ := r
  have hln := hr.len (by decide)
  simp only at hln
  subst hln
  simp only [svV]
  refine enter Try.func48 rfl Try.ntmps48 rfl ?_; simp only [frame, Nat.zero_add, Nat.reduceAdd]
  repeat (first | (refine M0 ?_; first | refine O0 ?_ | refine z1 tok rfl ?_ | refine O1 rfl ?_ rfl | refine O2 rfl ?_ | refine O3 rfl ?_ rfl | refine O4 rfl rfl rfl (fun _ _ => ?_) | refine O5 tok rfl rfl rfl (fun _ _ => ?_) | refine U0 _ (U2 rfl) rfl ?_ | refine U0 _ (U3 tok rfl rfl rfl rfl rfl) rfl ?_ | refine z3 tok rfl ?_ | refine U0 _ (U4 rfl rfl) rfl ?_ | refine U0 _ (U5 rfl rfl) rfl ?_) | (refine M1 ?_; first | refine J0 ?_ | refine J1 ?_ | refine J2 mixed rfl (by kernel_rfl) ?_ | refine J3 mixed rfl rfl (by kernel_rfl) ?_ | refine J4 ?_ | refine J5 ?_ | refine J6 ?_ | refine J7 ?_ | refine J8 rfl ?_ | refine J9 rfl ?_) | (refine M2 ?_; first | refine I0 ?_ | refine I1 ?_ | refine I2 ?_ | refine I3 ?_ | refine I4 ?_ | refine I5 ?_ | refine I6 rfl ?_ | refine I7 ?_ | refine I8 ?_ | refine z4 ?_) | (refine M3 ?_; first | refine O6 ?_ | refine z2 tok rfl ?_ | refine O8 rfl ?_ | refine O7 rfl ?_ rfl | refine O9 rfl ?_ rfl | refine U1 _ (U4 rfl rfl) rfl ?_ | refine U1 _ (U5 rfl rfl) rfl ?_ | refine U1 _ (U2 rfl) rfl ?_ | refine U1 _ (U3 tok rfl rfl rfl rfl rfl) rfl ?_) | (refine M4 ?_; first | refine M6 ?_ | refine U6 rfl (by kernel_rfl) ?_ | refine U7 (by kernel_rfl) ?_) | (refine M5 ?_; first | exact M7 | refine U8 rfl ?_ | refine U9 rfl rfl ?_ ?_))
  refine XC.loopk [6, 7] rfl (fun k : Nat => [(2, .int .i64 ((ds.take k).countP isS : Nat)), (3, .int .i64 ((ds.take k).countP isP : Nat)), (8, .int .i64 (k : Nat))]) (fun _ => []) (fun _ => w) (fun k => k ≤ ds.length) (fun k => ds.length - k) 0 (Nat.zero_le _) (by repeat (first | exact Sub.nil | refine Sub.cons rfl ?_)) (fun _ h => h) ?_
  intro k hk
  dsimp only [List.cons_append, List.nil_append]
  repeat (first | (refine M0 ?_; first | refine O0 ?_ | refine z1 tok rfl ?_ | refine O1 rfl ?_ rfl | refine O2 rfl ?_ | refine O3 rfl ?_ rfl | refine O4 rfl rfl rfl (fun _ _ => ?_) | refine O5 tok rfl rfl rfl (fun _ _ => ?_) | refine U0 _ (U2 rfl) rfl ?_ | refine U0 _ (U3 tok rfl rfl rfl rfl rfl) rfl ?_ | refine z3 tok rfl ?_ | refine U0 _ (U4 rfl rfl) rfl ?_ | refine U0 _ (U5 rfl rfl) rfl ?_) | (refine M1 ?_; first | refine J0 ?_ | refine J1 ?_ | refine J2 mixed rfl (by kernel_rfl) ?_ | refine J3 mixed rfl rfl (by kernel_rfl) ?_ | refine J4 ?_ | refine J5 ?_ | refine J6 ?_ | refine J7 ?_ | refine J8 rfl ?_ | refine J9 rfl ?_) | (refine M2 ?_; first | refine I0 ?_ | refine I1 ?_ | refine I2 ?_ | refine I3 ?_ | refine I4 ?_ | refine I5 ?_ | refine I6 rfl ?_ | refine I7 ?_ | refine I8 ?_ | refine z4 ?_) | (refine M3 ?_; first | refine O6 ?_ | refine z2 tok rfl ?_ | refine O8 rfl ?_ | refine O7 rfl ?_ rfl | refine O9 rfl ?_ rfl | refine U1 _ (U4 rfl rfl) rfl ?_ | refine U1 _ (U5 rfl rfl) rfl ?_ | refine U1 _ (U2 rfl) rfl ?_ | refine U1 _ (U3 tok rfl rfl rfl rfl rfl) rfl ?_) | (refine M4 ?_; first | refine M6 ?_ | refine U6 rfl (by kernel_rfl) ?_ | refine U7 (by kernel_rfl) ?_) | (refine M5 ?_; first | exact M7 | refine U8 rfl ?_ | refine U9 rfl rfl ?_ ?_))
  refine XC.cond _ rfl (fun h1 => ?_) (fun h1 => ?_)
  · have hkn : k < ds.length := by simpa using h1
    obtain ⟨ad, rfl, hlt⟩ := hr.addr (by decide) (by omega)
    have h9 := hr.elem (List.getElem?_eq_getElem hkn) 0 (devV ds[k]) rfl
    rw [add_add, Nat.add_zero] at h9
    have h9' : w.cell? (ad.add (k * 1)) = some (devV ds[k]) := h9
    have b1 := List.countP_le_length (p := isS) (l := ds.take k)
    have b2 := List.countP_le_length (p := isP) (l := ds.take k)
    have b3 : (ds.take k).length ≤ ds.length := by rw [List.length_take]; omega
    have c1 := countP_succ isS hkn
    have c2 := countP_succ isP hkn
    cases hd : ds[k] with
    | slu x =>
      rw [hd] at h9' c1 c2
      simp only [isS, isP, if_true, Bool.not_true, Bool.false_eq_true, if_false, Nat.add_zero] at c1 c2
      repeat (first | (refine M0 ?_; first | refine O0 ?_ | refine z1 tok rfl ?_ | refine O1 rfl ?_ rfl | refine O2 rfl ?_ | refine O3 rfl ?_ rfl | refine U0 _ (Ev.load_old tok rfl rfl (add_lt hlt) h9') rfl ?_ | refine U0 _ (Ev.assertOk (s := 153) (v := .agg ⟨sluC x⟩) rfl slu_con tok rfl (.tuple ⟨[.agg ⟨sluC x⟩, .bool true]⟩) (if_pos rfl).symm) rfl ?_ | refine O4 rfl rfl rfl (fun _ _ => ?_) | refine O5 tok rfl rfl rfl (fun _ _ => ?_) | refine U0 _ (U2 rfl) rfl ?_ | refine U0 _ (U3 tok rfl rfl rfl rfl rfl) rfl ?_ | refine z3 tok rfl ?_ | refine U0 _ (U4 rfl rfl) rfl ?_ | refine U0 _ (U5 rfl rfl) rfl ?_) | (refine M1 ?_; first | refine J0 ?_ | refine J1 ?_ | refine J2 mixed rfl (by kernel_rfl) ?_ | refine J3 mixed rfl rfl (by kernel_rfl) ?_ | refine J4 ?_ | refine J5 ?_ | refine J6 ?_ | refine J7 ?_ | refine J8 rfl ?_ | refine J9 rfl ?_) | (refine M2 ?_; first | refine I0 ?_ | refine I1 ?_ | refine I2 ?_ | refine I3 ?_ | refine I4 ?_ | refine I5 ?_ | refine I6 rfl ?_ | refine I7 ?_ | refine I8 ?_ | refine z4 ?_) | (refine M3 ?_; first | refine O6 ?_ | refine z2 tok rfl ?_ | refine O8 rfl ?_ | refine O7 rfl ?_ rfl | refine O9 rfl ?_ rfl | refine U1 _ (Ev.load_old tok rfl rfl (add_lt hlt) h9') rfl ?_ | refine U1 _ (Ev.assertOk (s := 153) (v := .agg ⟨sluC x⟩) rfl slu_con tok rfl (.tuple ⟨[.agg ⟨sluC x⟩, .bool true]⟩) (if_pos rfl).symm) rfl ?_ | refine U1 _ (U4 rfl rfl) rfl ?_ | refine U1 _ (U5 rfl rfl) rfl ?_ | refine U1 _ (U2 rfl) rfl ?_ | refine U1 _ (U3 tok rfl rfl rfl rfl rfl) rfl ?_) | (refine M4 ?_; first | refine M6 ?_ | refine U6 rfl (by kernel_rfl) ?_ | refine U7 (by kernel_rfl) ?_) | (refine M5 ?_; first | exact M7 | refine U8 rfl ?_ | refine U9 rfl rfl ?_ ?_))
      exact XE.round (k + 1) hkn (by omega) (by rw [c1, c2]; repeat (first | exact Sub.nil | refine Sub.cons rfl ?_)) (fun _ h => h)
    | pmp x =>
      rw [hd] at h9' c1 c2
      simp only [isS, isP, if_true, Bool.not_false, Bool.false_eq_true, if_false, Nat.add_zero] at c1 c2
      repeat (first | (refine M0 ?_; first | refine O0 ?_ | refine z1 tok rfl ?_ | refine O1 rfl ?_ rfl | refine O2 rfl ?_ | refine O3 rfl ?_ rfl | refine U0 _ (Ev.load_old tok rfl rfl (add_lt hlt) h9') rfl ?_ | refine U0 _ (Ev.assertOk (u := 153) (s := 154) (v := .agg ⟨pmpC x⟩) rfl slu_con tok rfl (.tuple ⟨[_, .bool false]⟩) (if_neg (by decide)).symm) rfl ?_ | refine U0 _ (Ev.assertOk (u := 154) (s := 154) (v := .agg ⟨pmpC x⟩) rfl pmp_con tok rfl (.tuple ⟨[.agg ⟨pmpC x⟩, .bool true]⟩) (if_pos rfl).symm) rfl ?_ | refine O4 rfl rfl rfl (fun _ _ => ?_) | refine O5 tok rfl rfl rfl (fun _ _ => ?_) | refine U0 _ (U2 rfl) rfl ?_ | refine U0 _ (U3 tok rfl rfl rfl rfl rfl) rfl ?_ | refine z3 tok rfl ?_ | refine U0 _ (U4 rfl rfl) rfl ?_ | refine U0 _ (U5 rfl rfl) rfl ?_) | (refine M1 ?_; first | refine J0 ?_ | refine J1 ?_ | refine J2 mixed rfl (by kernel_rfl) ?_ | refine J3 mixed rfl rfl (by kernel_rfl) ?_ | refine J4 ?_ | refine J5 ?_ | refine J6 ?_ | refine J7 ?_ | refine J8 rfl ?_ | refine J9 rfl ?_) | (refine M2 ?_; first | refine I0 ?_ | refine I1 ?_ | refine I2 ?_ | refine I3 ?_ | refine I4 ?_ | refine I5 ?_ | refine I6 rfl ?_ | refine I7 ?_ | refine I8 ?_ | refine z4 ?_) | (refine M3 ?_; first | refine O6 ?_ | refine z2 tok rfl ?_ | refine O8 rfl ?_ | refine O7 rfl ?_ rfl | refine O9 rfl ?_ rfl | refine U1 _ (Ev.load_old tok rfl rfl (add_lt hlt) h9') rfl ?_ | refine U1 _ (Ev.assertOk (u := 153) (s := 154) (v := .agg ⟨pmpC x⟩) rfl slu_con tok rfl (.tuple ⟨[_, .bool false]⟩) (if_neg (by decide)).symm) rfl ?_ | refine U1 _ (Ev.assertOk (u := 154) (s := 154) (v := .agg ⟨pmpC x⟩) rfl pmp_con tok rfl (.tuple ⟨[.agg ⟨pmpC x⟩, .bool true]⟩) (if_pos rfl).symm) rfl ?_ | refine U1 _ (U4 rfl rfl) rfl ?_ | refine U1 _ (U5 rfl rfl) rfl ?_ | refine U1 _ (U2 rfl) rfl ?_ | refine U1 _ (U3 tok rfl rfl rfl rfl rfl) rfl ?_) | (refine M4 ?_; first | refine M6 ?_ | refine U6 rfl (by kernel_rfl) ?_ | refine U7 (by kernel_rfl) ?_) | (refine M5 ?_; first | exact M7 | refine U8 rfl ?_ | refine U9 rfl rfl ?_ ?_))
      exact XE.round (k + 1) hkn (by omega) (by rw [c1, c2]; repeat (first | exact Sub.nil | refine Sub.cons rfl ?_)) (fun _ h => h)
  · have hkn : k = ds.length := by have : ¬ (k < ds.length) := by simpa using h1
                                   omega
    subst hkn
    rw [List.take_length]
    repeat (first | (refine M0 ?_; first | refine O0 ?_ | refine z1 tok rfl ?_ | refine O1 rfl ?_ rfl | refine O2 rfl ?_ | refine O3 rfl ?_ rfl | refine O4 rfl rfl rfl (fun _ _ => ?_) | refine O5 tok rfl rfl rfl (fun _ _ => ?_) | refine U0 _ (U2 rfl) rfl ?_ | refine U0 _ (U3 tok rfl rfl rfl rfl rfl) rfl ?_ | refine z3 tok rfl ?_ | refine U0 _ (U4 rfl rfl) rfl ?_ | refine U0 _ (U5 rfl rfl) rfl ?_) | (refine M1 ?_; first | refine J0 ?_ | refine J1 ?_ | refine J2 mixed rfl (by kernel_rfl) ?_ | refine J3 mixed rfl rfl (by kernel_rfl) ?_ | refine J4 ?_ | refine J5 ?_ | refine J6 ?_ | refine J7 ?_ | refine J8 rfl ?_ | refine J9 rfl ?_) | (refine M2 ?_; first | refine I0 ?_ | refine I1 ?_ | refine I2 ?_ | refine I3 ?_ | refine I4 ?_ | refine I5 ?_ | refine I6 rfl ?_ | refine I7 ?_ | refine I8 ?_ | refine z4 ?_) | (refine M3 ?_; first | refine O6 ?_ | refine z2 tok rfl ?_ | refine O8 rfl ?_ | refine O7 rfl ?_ rfl | refine O9 rfl ?_ rfl | refine U1 _ (U4 rfl rfl) rfl ?_ | refine U1 _ (U5 rfl rfl) rfl ?_ | refine U1 _ (U2 rfl) rfl ?_ | refine U1 _ (U3 tok rfl rfl rfl rfl rfl) rfl ?_) | (refine M4 ?_; first | refine M6 ?_ | refine U6 rfl (by kernel_rfl) ?_ | refine U7 (by kernel_rfl) ?_) | (refine M5 ?_; first | exact M7 | refine U8 rfl ?_ | refine U9 rfl rfl ?_ ?_))
    refine XE.retg tok Try.results48 rfl (by simp only [and_self, and_true]) (fun w' S => ?_)
    exact ⟨rfl, S.toBelow⟩
/-! ### is it there already -/
set_option maxHeartbeats 4000000 in
theorem rncheck1_any {g : Nat} {c d : Dev} {w : World} (h : w.heap[g]? = some (cel 100 [devV d])) :
    Calls Try.prog 51 #[devV c, .pointer (some ⟨g, 0, none⟩)] w fun e w' => e = .returned (.bool (decide (c.name = d.name))) ∧ Below w.heap.size w w' := by
  have hl := (Array.getElem?_eq_some_iff.1 h).1
  have d0 : w.cell? ⟨g, 0, none⟩ = some (devV d) := by simp [World.cell?, h]
  obtain ⟨f1, m1, k1, c1⟩ := dev_name c
  obtain ⟨f2, m2, k2, c2⟩ := dev_name d
  refine enter Try.func51 rfl Try.ntmps51 rfl ?_; simp only [frame, Nat.zero_add, Nat.reduceAdd]
  repeat (first | (refine M0 ?_; first | refine O0 ?_ | refine z1 tok rfl ?_ | refine O1 rfl ?_ rfl | refine O2 rfl ?_ | refine O3 rfl ?_ rfl | refine U0 _ (Ev.load_old tok rfl rfl hl d0) rfl ?_ | refine U0 _ (Ev.invoke (t := c.ty) (v := .agg ⟨c.c⟩) m1 k1 rfl rfl (fun w S => c1 w)) rfl ?_ | refine U0 _ (Ev.invoke (t := d.ty) (v := .agg ⟨d.c⟩) m2 k2 rfl rfl (fun w S => c2 w)) rfl ?_ | refine U0 _ (Ev.eql_str rfl rfl) rfl ?_ | refine O4 rfl rfl rfl (fun _ _ => ?_) | refine O5 tok rfl rfl rfl (fun _ _ => ?_) | refine U0 _ (U2 rfl) rfl ?_ | refine U0 _ (U3 tok rfl rfl rfl rfl rfl) rfl ?_ | refine z3 tok rfl ?_ | refine U0 _ (U4 rfl rfl) rfl ?_ | refine U0 _ (U5 rfl rfl) rfl ?_) | (refine M1 ?_; first | refine J0 ?_ | refine J1 ?_ | refine J2 mixed rfl (by kernel_rfl) ?_ | refine J3 mixed rfl rfl (by kernel_rfl) ?_ | refine J4 ?_ | refine J5 ?_ | refine J6 ?_ | refine J7 ?_ | refine J8 rfl ?_ | refine J9 rfl ?_) | (refine M2 ?_; first | refine I0 ?_ | refine I1 ?_ | refine I2 ?_ | refine I3 ?_ | refine I4 ?_ | refine I5 ?_ | refine I6 rfl ?_ | refine I7 ?_ | refine I8 ?_ | refine z4 ?_) | (refine M3 ?_; first | refine O6 ?_ | refine z2 tok rfl ?_ | refine O8 rfl ?_ | refine O7 rfl ?_ rfl | refine O9 rfl ?_ rfl | refine U1 _ (Ev.load_old tok rfl rfl hl d0) rfl ?_ | refine U1 _ (Ev.invoke (t := c.ty) (v := .agg ⟨c.c⟩) m1 k1 rfl rfl (fun w S => c1 w)) rfl ?_ | refine U1 _ (Ev.invoke (t := d.ty) (v := .agg ⟨d.c⟩) m2 k2 rfl rfl (fun w S => c2 w)) rfl ?_ | refine U1 _ (Ev.eql_str rfl rfl) rfl ?_ | refine U1 _ (U4 rfl rfl) rfl ?_ | refine U1 _ (U5 rfl rfl) rfl ?_ | refine U1 _ (U2 rfl) rfl ?_ | refine U1 _ (U3 tok rfl rfl rfl rfl rfl) rfl ?_) | (refine M4 ?_; first | refine M6 ?_ | refine U6 rfl (by kernel_rfl) ?_ | refine U7 (by kernel_rfl) ?_) | (refine M5 ?_; first | exact M7 | refine U8 rfl ?_ | refine U9 rfl rfl ?_ ?_))
  refine XE.retg tok Try.results51 rfl (by simp only [and_self, and_true]) (fun w' S => ?_)
  exact ⟨rfl, S.toBelow⟩
theorem idxDev {f : FuncId} {cap : List Value} {P : Dev → Bool} {r : SV} {ms : List Dev} {w : World} (hck : callOk Try.prog f = true) (hr : ListAt devK w (Lt w.heap.size) r ms) (hn : ms.length ≤ 1000)
    (hc : ∀ m, m ∈ ms → ∀ w', Below w.heap.size w w' → Calls Try.prog f ([] ++ [devV m] ++ cap).toArray w' fun e w'' => e = .returned (.bool (P m)) ∧ Below w'.heap.size w' w'') :
    Calls Try.prog 81 #[svV r, .func (.func f) #[] cap.toArray] w fun e w' => e = .returned (.int .i64 (idxL ms P)) ∧ Below w.heap.size w w' := by
  obtain ⟨A, n, c⟩ := r
  have hln := hr.len (by decide)
  simp only at hln
  subst hln
  simp only [svV]
  refine enter Try.func81 rfl Try.ntmps81 rfl ?_; simp only [frame, Nat.zero_add, Nat.reduceAdd]
  repeat (first | (refine M0 ?_; first | refine O0 ?_ | refine z1 tok rfl ?_ | refine O1 rfl ?_ rfl | refine O2 rfl ?_ | refine O3 rfl ?_ rfl | refine O4 rfl rfl rfl (fun _ _ => ?_) | refine O5 tok rfl rfl rfl (fun _ _ => ?_) | refine U0 _ (U2 rfl) rfl ?_ | refine U0 _ (U3 tok rfl rfl rfl rfl rfl) rfl ?_ | refine z3 tok rfl ?_ | refine U0 _ (U4 rfl rfl) rfl ?_ | refine U0 _ (U5 rfl rfl) rfl ?_) | (refine M1 ?_; first | refine J0 ?_ | refine J1 ?_ | refine J2 mixed rfl (by kernel_rfl) ?_ | refine J3 mixed rfl rfl (by kernel_rfl) ?_ | refine J4 ?_ | refine J5 ?_ | refine J6 ?_ | refine J7 ?_ | refine J8 rfl ?_ | refine J9 rfl ?_) | (refine M2 ?_; first | refine I0 ?_ | refine I1 ?_ | refine I2 ?_ | refine I3 ?_ | refine I4 ?_ | refine I5 ?_ | refine I6 rfl ?_ | refine I7 ?_ | refine I8 ?_ | refine z4 ?_) | (refine M3 ?_; first | refine O6 ?_ | refine z2 tok rfl ?_ | refine O8 rfl ?_ | refine O7 rfl ?_ rfl | refine O9 rfl ?_ rfl | refine U1 _ (U4 rfl rfl) rfl ?_ | refine U1 _ (U5 rfl rfl) rfl ?_ | refine U1 _ (U2 rfl) rfl ?_ | refine U1 _ (U3 tok rfl rfl rfl rfl rfl) rfl ?_) | (refine M4 ?_; first | refine M6 ?_ | refine U6 rfl (by kernel_rfl) ?_ | refine U7 (by kernel_rfl) ?_) | (refine M5 ?_; first | exact M7 | refine U8 rfl ?_ | refine U9 rfl rfl ?_ ?_))
  refine XC.loopk [0, 1, 7] rfl (fun k : Nat => [(8, .int .i64 (k : Nat))]) (fun _ => []) (fun _ => w) (fun k => k ≤ ms.length ∧ ∀ j m, j < k → ms[j]? = some m → P m = false) (fun k => ms.length - k) 0 ⟨Nat.zero_le _, fun j m h => absurd h (by omega)⟩ (by repeat (first | exact Sub.nil | refine Sub.cons rfl ?_)) (fun _ h => h) ?_
  rintro k ⟨hk, h0⟩
  dsimp only [List.cons_append, List.nil_append]
  repeat (first | (refine M0 ?_; first | refine O0 ?_ | refine z1 tok rfl ?_ | refine O1 rfl ?_ rfl | refine O2 rfl ?_ | refine O3 rfl ?_ rfl | refine O4 rfl rfl rfl (fun _ _ => ?_) | refine O5 tok rfl rfl rfl (fun _ _ => ?_) | refine U0 _ (U2 rfl) rfl ?_ | refine U0 _ (U3 tok rfl rfl rfl rfl rfl) rfl ?_ | refine z3 tok rfl ?_ | refine U0 _ (U4 rfl rfl) rfl ?_ | refine U0 _ (U5 rfl rfl) rfl ?_) | (refine M1 ?_; first | refine J0 ?_ | refine J1 ?_ | refine J2 mixed rfl (by kernel_rfl) ?_ | refine J3 mixed rfl rfl (by kernel_rfl) ?_ | refine J4 ?_ | refine J5 ?_ | refine J6 ?_ | refine J7 ?_ | refine J8 rfl ?_ | refine J9 rfl ?_) | (refine M2 ?_; first | refine I0 ?_ | refine I1 ?_ | refine I2 ?_ | refine I3 ?_ | refine I4 ?_ | refine I5 ?_ | refine I6 rfl ?_ | refine I7 ?_ | refine I8 ?_ | refine z4 ?_) | (refine M3 ?_; first | refine O6 ?_ | refine z2 tok rfl ?_ | refine O8 rfl ?_ | refine O7 rfl ?_ rfl | refine O9 rfl ?_ rfl | refine U1 _ (U4 rfl rfl) rfl ?_ | refine U1 _ (U5 rfl rfl) rfl ?_ | refine U1 _ (U2 rfl) rfl ?_ | refine U1 _ (U3 tok rfl rfl rfl rfl rfl) rfl ?_) | (refine M4 ?_; first | refine M6 ?_ | refine U6 rfl (by kernel_rfl) ?_ | refine U7 (by kernel_rfl) ?_) | (refine M5 ?_; first | exact M7 | refine U8 rfl ?_ | refine U9 rfl rfl ?_ ?_))
  refine XC.cond _ rfl (fun h3 => ?_) (fun h3 => ?_)
  · have hkn : k < ms.length := by simpa using h3
    obtain ⟨ad, rfl, hlt⟩ := hr.addr (by decide) (by omega)
    have hmk : ms[k]? = some ms[k] := List.getElem?_eq_getElem hkn
    have h9 := hr.elem hmk 0 (devV ms[k]) rfl
    rw [add_add, Nat.add_zero] at h9
    have hcell : w.cell? (ad.add (k * 1)) = some (devV ms[k]) := h9
    repeat (first | (refine M0 ?_; first | refine O0 ?_ | refine z1 tok rfl ?_ | refine O1 rfl ?_ rfl | refine O2 rfl ?_ | refine O3 rfl ?_ rfl | refine U0 _ (Ev.load_old tok rfl rfl (add_lt hlt) hcell) rfl ?_ | refine U0 _ (Ev.callv (f := f) (fst := []) (cap := cap) hck rfl rfl (fun w S => hc _ (List.getElem_mem hkn) w S.toBelow)) rfl ?_ | refine O4 rfl rfl rfl (fun _ _ => ?_) | refine O5 tok rfl rfl rfl (fun _ _ => ?_) | refine U0 _ (U2 rfl) rfl ?_ | refine U0 _ (U3 tok rfl rfl rfl rfl rfl) rfl ?_ | refine z3 tok rfl ?_ | refine U0 _ (U4 rfl rfl) rfl ?_ | refine U0 _ (U5 rfl rfl) rfl ?_) | (refine M1 ?_; first | refine J0 ?_ | refine J1 ?_ | refine J2 mixed rfl (by kernel_rfl) ?_ | refine J3 mixed rfl rfl (by kernel_rfl) ?_ | refine J4 ?_ | refine J5 ?_ | refine J6 ?_ | refine J7 ?_ | refine J8 rfl ?_ | refine J9 rfl ?_) | (refine M2 ?_; first | refine I0 ?_ | refine I1 ?_ | refine I2 ?_ | refine I3 ?_ | refine I4 ?_ | refine I5 ?_ | refine I6 rfl ?_ | refine I7 ?_ | refine I8 ?_ | refine z4 ?_) | (refine M3 ?_; first | refine O6 ?_ | refine z2 tok rfl ?_ | refine O8 rfl ?_ | refine O7 rfl ?_ rfl | refine O9 rfl ?_ rfl | refine U1 _ (Ev.load_old tok rfl rfl (add_lt hlt) hcell) rfl ?_ | refine U1 _ (Ev.callv (f := f) (fst := []) (cap := cap) hck rfl rfl (fun w S => hc _ (List.getElem_mem hkn) w S.toBelow)) rfl ?_ | refine U1 _ (U4 rfl rfl) rfl ?_ | refine U1 _ (U5 rfl rfl) rfl ?_ | refine U1 _ (U2 rfl) rfl ?_ | refine U1 _ (U3 tok rfl rfl rfl rfl rfl) rfl ?_) | (refine M4 ?_; first | refine M6 ?_ | refine U6 rfl (by kernel_rfl) ?_ | refine U7 (by kernel_rfl) ?_) | (refine M5 ?_; first | exact M7 | refine U8 rfl ?_ | refine U9 rfl rfl ?_ ?_))
    refine XC.cond _ rfl (fun h4 => ?_) (fun h4 => ?_)
    · repeat (first | (refine M0 ?_; first | refine O0 ?_ | refine z1 tok rfl ?_ | refine O1 rfl ?_ rfl | refine O2 rfl ?_ | refine O3 rfl ?_ rfl | refine O4 rfl rfl rfl (fun _ _ => ?_) | refine O5 tok rfl rfl rfl (fun _ _ => ?_) | refine U0 _ (U2 rfl) rfl ?_ | refine U0 _ (U3 tok rfl rfl rfl rfl rfl) rfl ?_ | refine z3 tok rfl ?_ | refine U0 _ (U4 rfl rfl) rfl ?_ | refine U0 _ (U5 rfl rfl) rfl ?_) | (refine M1 ?_; first | refine J0 ?_ | refine J1 ?_ | refine J2 mixed rfl (by kernel_rfl) ?_ | refine J3 mixed rfl rfl (by kernel_rfl) ?_ | refine J4 ?_ | refine J5 ?_ | refine J6 ?_ | refine J7 ?_ | refine J8 rfl ?_ | refine J9 rfl ?_) | (refine M2 ?_; first | refine I0 ?_ | refine I1 ?_ | refine I2 ?_ | refine I3 ?_ | refine I4 ?_ | refine I5 ?_ | refine I6 rfl ?_ | refine I7 ?_ | refine I8 ?_ | refine z4 ?_) | (refine M3 ?_; first | refine O6 ?_ | refine z2 tok rfl ?_ | refine O8 rfl ?_ | refine O7 rfl ?_ rfl | refine O9 rfl ?_ rfl | refine U1 _ (U4 rfl rfl) rfl ?_ | refine U1 _ (U5 rfl rfl) rfl ?_ | refine U1 _ (U2 rfl) rfl ?_ | refine U1 _ (U3 tok rfl rfl rfl rfl rfl) rfl ?_) | (refine M4 ?_; first | refine M6 ?_ | refine U6 rfl (by kernel_rfl) ?_ | refine U7 (by kernel_rfl) ?_) | (refine M5 ?_; first | exact M7 | refine U8 rfl ?_ | refine U9 rfl rfl ?_ ?_))
      refine XE.retg tok Try.results81 rfl (by simp only [and_self, and_true]) (fun w' S => ?_)
      have : ms.findIdx? P = some k := by
        rw [List.findIdx?_eq_some_iff_getElem]
        exact ⟨hkn, h4, fun j hj => by simpa using h0 j _ hj (List.getElem?_eq_getElem (by omega))⟩
      unfold idxL
      rw [this]
      exact ⟨rfl, S.toBelow⟩
    · repeat (first | (refine M0 ?_; first | refine O0 ?_ | refine z1 tok rfl ?_ | refine O1 rfl ?_ rfl | refine O2 rfl ?_ | refine O3 rfl ?_ rfl | refine O4 rfl rfl rfl (fun _ _ => ?_) | refine O5 tok rfl rfl rfl (fun _ _ => ?_) | refine U0 _ (U2 rfl) rfl ?_ | refine U0 _ (U3 tok rfl rfl rfl rfl rfl) rfl ?_ | refine z3 tok rfl ?_ | refine U0 _ (U4 rfl rfl) rfl ?_ | refine U0 _ (U5 rfl rfl) rfl ?_) | (refine M1 ?_; first | refine J0 ?_ | refine J1 ?_ | refine J2 mixed rfl (by kernel_rfl) ?_ | refine J3 mixed rfl rfl (by kernel_rfl) ?_ | refine J4 ?_ | refine J5 ?_ | refine J6 ?_ | refine J7 ?_ | refine J8 rfl ?_ | refine J9 rfl ?_) | (refine M2 ?_; first | refine I0 ?_ | refine I1 ?_ | refine I2 ?_ | refine I3 ?_ | refine I4 ?_ | refine I5 ?_ | refine I6 rfl ?_ | refine I7 ?_ | refine I8 ?_ | refine z4 ?_) | (refine M3 ?_; first | refine O6 ?_ | refine z2 tok rfl ?_ | refine O8 rfl ?_ | refine O7 rfl ?_ rfl | refine O9 rfl ?_ rfl | refine U1 _ (U4 rfl rfl) rfl ?_ | refine U1 _ (U5 rfl rfl) rfl ?_ | refine U1 _ (U2 rfl) rfl ?_ | refine U1 _ (U3 tok rfl rfl rfl rfl rfl) rfl ?_) | (refine M4 ?_; first | refine M6 ?_ | refine U6 rfl (by kernel_rfl) ?_ | refine U7 (by kernel_rfl) ?_) | (refine M5 ?_; first | exact M7 | refine U8 rfl ?_ | refine U9 rfl rfl ?_ ?_))
      refine XE.round (k + 1) ⟨hkn, fun j m hj hm => ?_⟩ (by omega) (by repeat (first | exact Sub.nil | refine Sub.cons rfl ?_)) (fun _ h => h)
      rcases Nat.lt_or_ge j k with h5 | h5
      · exact h0 j m h5 hm
      · have : j = k := by omega
        subst this
        rw [hmk] at hm
        cases hm
        exact h4
  · have hkn : ¬ k < ms.length := by simpa using h3
    repeat (first | (refine M0 ?_; first | refine O0 ?_ | refine z1 tok rfl ?_ | refine O1 rfl ?_ rfl | refine O2 rfl ?_ | refine O3 rfl ?_ rfl | refine O4 rfl rfl rfl (fun _ _ => ?_) | refine O5 tok rfl rfl rfl (fun _ _ => ?_) | refine U0 _ (U2 rfl) rfl ?_ | refine U0 _ (U3 tok rfl rfl rfl rfl rfl) rfl ?_ | refine z3 tok rfl ?_ | refine U0 _ (U4 rfl rfl) rfl ?_ | refine U0 _ (U5 rfl rfl) rfl ?_) | (refine M1 ?_; first | refine J0 ?_ | refine J1 ?_ | refine J2 mixed rfl (by kernel_rfl) ?_ | refine J3 mixed rfl rfl (by kernel_rfl) ?_ | refine J4 ?_ | refine J5 ?_ | refine J6 ?_ | refine J7 ?_ | refine J8 rfl ?_ | refine J9 rfl ?_) | (refine M2 ?_; first | refine I0 ?_ | refine I1 ?_ | refine I2 ?_ | refine I3 ?_ | refine I4 ?_ | refine I5 ?_ | refine I6 rfl ?_ | refine I7 ?_ | refine I8 ?_ | refine z4 ?_) | (refine M3 ?_; first | refine O6 ?_ | refine z2 tok rfl ?_ | refine O8 rfl ?_ | refine O7 rfl ?_ rfl | refine O9 rfl ?_ rfl | refine U1 _ (U4 rfl rfl) rfl ?_ | refine U1 _ (U5 rfl rfl) rfl ?_ | refine U1 _ (U2 rfl) rfl ?_ | refine U1 _ (U3 tok rfl rfl rfl rfl rfl) rfl ?_) | (refine M4 ?_; first | refine M6 ?_ | refine U6 rfl (by kernel_rfl) ?_ | refine U7 (by kernel_rfl) ?_) | (refine M5 ?_; first | exact M7 | refine U8 rfl ?_ | refine U9 rfl rfl ?_ ?_))
    refine XE.retg tok Try.results81 rfl (by simp only [and_self, and_true]) (fun w' S => ?_)
    have : ms.findIdx? P = none := by
      rw [List.findIdx?_eq_none_iff]
      intro m hm
      obtain ⟨j, hj, e⟩ := List.mem_iff_getElem.1 hm
      exact h0 j m (by omega) (by rw [List.getElem?_eq_getElem hj, e])
    unfold idxL
    rw [this]
    exact ⟨rfl, S.toBelow⟩
theorem contDev {f : FuncId} {cap : List Value} {P : Dev → Bool} {r : SV} {ms : List Dev} {w : World} (hck : callOk Try.prog f = true) (hr : ListAt devK w (Lt w.heap.size) r ms) (hn : ms.length ≤ 1000)
    (hc : ∀ m, m ∈ ms → ∀ w', Below w.heap.size w w' → Calls Try.prog f ([] ++ [devV m] ++ cap).toArray w' fun e w'' => e = .returned (.bool (P m)) ∧ Below w'.heap.size w' w'') :
    Calls Try.prog 50 #[svV r, .func (.func f) #[] cap.toArray] w fun e w' => e = .returned (.bool (ms.any P)) ∧ Below w.heap.size w w' := by
  obtain ⟨A, n, c⟩ := r
  simp only [svV]
  refine enter Try.func50 rfl Try.ntmps50 rfl ?_; simp only [frame, Nat.zero_add, Nat.reduceAdd]
  repeat (first | (refine M0 ?_; first | refine O0 ?_ | refine z1 tok rfl ?_ | refine O1 rfl ?_ rfl | refine O2 rfl ?_ | refine O3 rfl ?_ rfl | refine U0 _ (Ev.call (f := 81) (ck rfl) rfl (fun w5 S5 => (idxDev (f := f) (cap := cap) (P := P) (r := ⟨A, n, c⟩) (ms := ms) hck (hr.arg S5) hn (fun m hm w' hb => hc m hm w' (S5.toBelow.trans (hb.mono S5.size))) :))) rfl ?_ | refine O4 rfl rfl rfl (fun _ _ => ?_) | refine O5 tok rfl rfl rfl (fun _ _ => ?_) | refine U0 _ (U2 rfl) rfl ?_ | refine U0 _ (U3 tok rfl rfl rfl rfl rfl) rfl ?_ | refine z3 tok rfl ?_ | refine U0 _ (U4 rfl rfl) rfl ?_ | refine U0 _ (U5 rfl rfl) rfl ?_) | (refine M1 ?_; first | refine J0 ?_ | refine J1 ?_ | refine J2 mixed rfl (by kernel_rfl) ?_ | refine J3 mixed rfl rfl (by kernel_rfl) ?_ | refine J4 ?_ | refine J5 ?_ | refine J6 ?_ | refine J7 ?_ | refine J8 rfl ?_ | refine J9 rfl ?_) | (refine M2 ?_; first | refine I0 ?_ | refine I1 ?_ | refine I2 ?_ | refine I3 ?_ | refine I4 ?_ | refine I5 ?_ | refine I6 rfl ?_ | refine I7 ?_ | refine I8 ?_ | refine z4 ?_) | (refine M3 ?_; first | refine O6 ?_ | refine z2 tok rfl ?_ | refine O8 rfl ?_ | refine O7 rfl ?_ rfl | refine O9 rfl ?_ rfl | refine U1 _ (Ev.call (f := 81) (ck rfl) rfl (fun w5 S5 => (idxDev (f := f) (cap := cap) (P := P) (r := ⟨A, n, c⟩) (ms := ms) hck (hr.arg S5) hn (fun m hm w' hb => hc m hm w' (S5.toBelow.trans (hb.mono S5.size))) :))) rfl ?_ | refine U1 _ (U4 rfl rfl) rfl ?_ | refine U1 _ (U5 rfl rfl) rfl ?_ | refine U1 _ (U2 rfl) rfl ?_ | refine U1 _ (U3 tok rfl rfl rfl rfl rfl) rfl ?_) | (refine M4 ?_; first | refine M6 ?_ | refine U6 rfl (by kernel_rfl) ?_ | refine U7 (by kernel_rfl) ?_) | (refine M5 ?_; first | exact M7 | refine U8 rfl ?_ | refine U9 rfl rfl ?_ ?_))
  refine XE.retg tok Try.results50 rfl (by simp only [and_self, and_true]) (fun w' S => ?_)
  exact ⟨by rw [idxL_any]; rfl, S.toBelow⟩
end Go.Proofs.Ytmodjcegmgjhoaa.X
/-
  The walk of Check (runoff).
-/
namespace Go.Proofs.Ytmodjcegmgjhoaa.Bs
open Go.Proofs.Ytmodjcegmgjhoaa.X
structure Pre4 (t : RTk) : Prop where
  c : chkE t.b = 0
  s : staErr t.b t.s = 0
  n : ¬ 6 < t.outer.length
  e : ¬ (t.river.length ≠ t.outer.length ∨ t.prices.length ≠ t.outer.length)
section
variable {t : RTk}
theorem chkT_1 (h : chkE t.b ≠ 0) : chkT t = (1, 0, chkE t.b) := by unfold chkT; rw [if_pos h]
theorem chkT_2 (h : chkE t.b = 0) (h2 : staErr t.b t.s ≠ 0) : chkT t = (1, 1, staErr t.b t.s) := by unfold chkT; rw [if_neg (by simp [h]), if_pos h2]
theorem chkT_3 (h : chkE t.b = 0) (h2 : staErr t.b t.s = 0) (h3 : 6 < t.outer.length) : chkT t = (2, 0, 3) := by unfold chkT; rw [if_neg (by simp [h]), if_neg (by simp [h2]), if_pos h3]
theorem chkT_4 (h : chkE t.b = 0) (h2 : staErr t.b t.s = 0) (h3 : ¬ 6 < t.outer.length) (h4 : t.river.length ≠ t.outer.length ∨ t.prices.length ≠ t.outer.length) : chkT t = (2, 0, 2) := by unfold chkT; rw [if_neg (by simp [h]), if_neg (by simp [h2]), if_neg h3, if_pos h4]
variable (p : Pre4 t)
include p
theorem chkT_5 {i : Nat} (hi : i < t.outer.length) (h0 : ∀ j, j < i → tickErr t j = 0) (h : tickErr t i ≠ 0) : chkT t = (2, ((i : Nat) : Int), 7) := by
  unfold chkT
  rw [if_neg (by simp [p.c]), if_neg (by simp [p.s]), if_neg p.n, if_neg p.e, firstN_some hi h0 h]
theorem chkT_6 (h0 : ∀ j, j < t.outer.length → tickErr t j = 0) (h : (outB t.high (-20000) 20000 || outB t.low (t.b.row 0).level t.high) = true) : chkT t = (3, 0, 7) := by
  unfold chkT
  rw [if_neg (by simp [p.c]), if_neg (by simp [p.s]), if_neg p.n, if_neg p.e, firstN_none h0]
  simp only
  rw [if_pos h]
variable (h0 : ∀ j, j < t.outer.length → tickErr t j = 0) (h : (outB t.high (-20000) 20000 || outB t.low (t.b.row 0).level t.high) = false)
include h0 h
theorem chkT_7 (h1 : 2 < t.slu.length ∨ 2 < t.pmp.length) : chkT t = (4, 0, 3) := by
  unfold chkT
  rw [if_neg (by simp [p.c]), if_neg (by simp [p.s]), if_neg p.n, if_neg p.e, firstN_none h0]
  simp only
  rw [if_neg (by simp [h]), if_pos h1]
variable (h1 : ¬ (2 < t.slu.length ∨ 2 < t.pmp.length))
include h1
theorem chkT_8 {i : Nat} (hi : i < t.devs.length) (h2 : ∀ j, j < i → devErr t.devs j = 0) {e : Int} (he : devErr t.devs i = e) (hne : e ≠ 0) : chkT t = (4, ((i : Nat) : Int), e) := by
  subst he
  unfold chkT
  rw [if_neg (by simp [p.c]), if_neg (by simp [p.s]), if_neg p.n, if_neg p.e, firstN_none h0]
  simp only
  rw [if_neg (by simp [h]), if_neg h1, firstN_some hi h2 hne]
variable (h2 : ∀ j, j < t.devs.length → devErr t.devs j = 0)
include h2
theorem chkT_9 (h3 : t.on.length ≠ t.devs.length) : chkT t = (5, 0, 2) := by
  unfold chkT
  rw [if_neg (by simp [p.c]), if_neg (by simp [p.s]), if_neg p.n, if_neg p.e, firstN_none h0]
  simp only
  rw [if_neg (by simp [h]), if_neg h1, firstN_none h2]
  simp only
  rw [if_pos h3]
theorem chkT_0 (h3 : t.on.length = t.devs.length) : chkT t = (0, 0, 0) := by
  unfold chkT
  rw [if_neg (by simp [p.c]), if_neg (by simp [p.s]), if_neg p.n, if_neg p.e, firstN_none h0]
  simp only
  rw [if_neg (by simp [h]), if_neg h1, firstN_none h2]
  simp only
  rw [if_neg (by simp [h3])]
end
theorem devErr_6 {l : List Dev} {i : Nat} (h : nameB (l[i]?.getD d0).name = false) : devErr l i = 6 := by unfold devErr; rw [if_pos h]
theorem devErr_5 {l : List Dev} {i : Nat} (h : nameB (l[i]?.getD d0).name = true) (k : Nat) (hk : k < i) (h2 : (l[k]?.getD d0).name = (l[i]?.getD d0).name) : devErr l i = 5 := by unfold devErr; rw [if_neg (by simp [h]), if_pos ⟨k, hk, h2⟩]
theorem devErr_7 {l : List Dev} {i : Nat} (h : nameB (l[i]?.getD d0).name = true) (h2 : ∀ k, k < i → (l[k]?.getD d0).name ≠ (l[i]?.getD d0).name) (h3 : (l[i]?.getD d0).wild = true) : devErr l i = 7 := by unfold devErr; rw [if_neg (by simp [h]), if_neg (fun ⟨k, a, b⟩ => h2 k a b), if_pos h3]
theorem devErr_0 {l : List Dev} {i : Nat} (h : nameB (l[i]?.getD d0).name = true) (h2 : ∀ k, k < i → (l[k]?.getD d0).name ≠ (l[i]?.getD d0).name) (h3 : (l[i]?.getD d0).wild = false) : devErr l i = 0 := by unfold devErr; rw [if_neg (by simp [h]), if_neg (fun ⟨k, a, b⟩ => h2 k a b), if_neg (by simp [h3])]
end Go.Proofs.Ytmodjcegmgjhoaa.Bs
namespace Go.Proofs.Ytmodjcegmgjhoaa.X
open Go Go.RowKit Go.Proofs.Ytmodjcegmgjhoaa.Bs
set_option linter.unusedVariables false
noncomputable def chkTV (t : RTk) : Value := .tuple ⟨[.int .i64 (chkT t).1, .int .i64 (chkT t).2.1, .int .i64 (chkT t).2.2]⟩
theorem chkTV_of {t : RTk} {x y z : Int} (h : chkT t = (x, y, z)) : Ending.returned (.tuple #[.int .i64 x, .int .i64 y, .int .i64 z]) = .returned (chkTV t) := by unfold chkTV; rw [h]
theorem take_any {l : List Dev} {i : Nat} (hi : i < l.length) : ((l.take i).any fun c => decide (c.name = l[i].name)) = true ↔ ∃ k, k < i ∧ (l[k]?.getD d0).name = (l[i]?.getD d0).name := by
  rw [List.any_eq_true, List.getElem?_eq_getElem hi]
  constructor
  · rintro ⟨x, hx, h⟩
    obtain ⟨k, hk, rfl⟩ := List.mem_iff_getElem.1 hx
    rw [List.length_take] at hk
    refine ⟨k, by omega, ?_⟩
    rw [List.getElem?_eq_getElem (by omega)]
    rw [List.getElem_take] at h
    simpa using h
  · rintro ⟨k, hk, h⟩
    rw [List.getElem?_eq_getElem (by omega : k < l.length)] at h
    refine ⟨l[k], ?_, by simpa using h⟩
    rw [List.mem_iff_getElem]
    exact ⟨k, by rw [List.length_take]; omega, by rw [List.getElem_take]⟩
theorem rows_len {b : Bas} (h : chkE b = 0) : 2 ≤ b.rows.length := (ok_of h).n2
set_option maxHeartbeats 16000000 in
theorem rnCheck_any {v : RTV} {t : RTk} {w : World} (ht : TskAt w w.heap.size v t) (hn : t.slu.length + t.pmp.length ≤ 5000000) :
    Calls Try.prog 17 #[tskV v t] w fun e w' => e = .returned (chkTV t) ∧ Below w.heap.size w w' := by
  obtain ⟨⟨Ab, nb, cb, Ab2, nb2, cb2⟩, q, ⟨Ao, no, co⟩, ⟨Ar, nr, cr⟩, ⟨Ac, nc, cc⟩, su, pu, ⟨An, nn, cn⟩⟩ := v
  have ht0 := ht
  obtain ⟨hbas, hfil, hout, hriv, hpri, hslu, hpmp, hon, hnam⟩ := ht
  have lo := hout.len
  have lr := hriv.len
  have lc := hpri.len
  have ln := hon.len (by decide)
  have lb := hbas.n_eq
  simp only at lo lr lc ln lb hout hriv hpri hslu hpmp hon hbas
  subst lo lr lc ln lb
  simp only [tskV, tskC]
  refine enter Try.func17 rfl Try.ntmps17 rfl ?_; simp only [frame, Nat.zero_add, Nat.reduceAdd]
  repeat (first | (refine M0 ?_; first | refine O0 ?_ | refine z1 tok rfl ?_ | refine O1 rfl ?_ rfl | refine O2 rfl ?_ | refine O3 rfl ?_ rfl | refine U0 _ (Ev.call (f := 45) (ck rfl) rfl (fun w S => (check_any ⟨Ab, t.b.rows.length, cb, Ab2, nb2, cb2⟩ t.b w (hbas.sys S) :))) rfl ?_ | refine O4 rfl rfl rfl (fun _ _ => ?_) | refine O5 tok rfl rfl rfl (fun _ _ => ?_) | refine U0 _ (U2 rfl) rfl ?_ | refine U0 _ (U3 tok rfl rfl rfl rfl rfl) rfl ?_ | refine z3 tok rfl ?_ | refine U0 _ (U4 rfl rfl) rfl ?_ | refine U0 _ (U5 rfl rfl) rfl ?_) | (refine M1 ?_; first | refine J0 ?_ | refine J1 ?_ | refine J2 mixed rfl (by kernel_rfl) ?_ | refine J3 mixed rfl rfl (by kernel_rfl) ?_ | refine J4 ?_ | refine J5 ?_ | refine J6 ?_ | refine J7 ?_ | refine J8 rfl ?_ | refine J9 rfl ?_) | (refine M2 ?_; first | refine I0 ?_ | refine I1 ?_ | refine I2 ?_ | refine I3 ?_ | refine I4 ?_ | refine I5 ?_ | refine I6 rfl ?_ | refine I7 ?_ | refine I8 ?_ | refine z4 ?_) | (refine M3 ?_; first | refine O6 ?_ | refine z2 tok rfl ?_ | refine O8 rfl ?_ | refine O7 rfl ?_ rfl | refine O9 rfl ?_ rfl | refine U1 _ (Ev.call (f := 45) (ck rfl) rfl (fun w S => (check_any ⟨Ab, t.b.rows.length, cb, Ab2, nb2, cb2⟩ t.b w (hbas.sys S) :))) rfl ?_ | refine U1 _ (U4 rfl rfl) rfl ?_ | refine U1 _ (U5 rfl rfl) rfl ?_ | refine U1 _ (U2 rfl) rfl ?_ | refine U1 _ (U3 tok rfl rfl rfl rfl rfl) rfl ?_) | (refine M4 ?_; first | refine M6 ?_ | refine U6 rfl (by kernel_rfl) ?_ | refine U7 (by kernel_rfl) ?_) | (refine M5 ?_; first | exact M7 | refine U8 rfl ?_ | refine U9 rfl rfl ?_ ?_))
  rename_i g1 hg1
  refine XC.cond _ rfl (fun h0 => ?_) (fun h0 => ?_)
  · repeat (first | (refine M0 ?_; first | refine O0 ?_ | refine z1 tok rfl ?_ | refine O1 rfl ?_ rfl | refine O2 rfl ?_ | refine O3 rfl ?_ rfl | refine O4 rfl rfl rfl (fun _ _ => ?_) | refine O5 tok rfl rfl rfl (fun _ _ => ?_) | refine U0 _ (U2 rfl) rfl ?_ | refine U0 _ (U3 tok rfl rfl rfl rfl rfl) rfl ?_ | refine z3 tok rfl ?_ | refine U0 _ (U4 rfl rfl) rfl ?_ | refine U0 _ (U5 rfl rfl) rfl ?_) | (refine M1 ?_; first | refine J0 ?_ | refine J1 ?_ | refine J2 mixed rfl (by kernel_rfl) ?_ | refine J3 mixed rfl rfl (by kernel_rfl) ?_ | refine J4 ?_ | refine J5 ?_ | refine J6 ?_ | refine J7 ?_ | refine J8 rfl ?_ | refine J9 rfl ?_) | (refine M2 ?_; first | refine I0 ?_ | refine I1 ?_ | refine I2 ?_ | refine I3 ?_ | refine I4 ?_ | refine I5 ?_ | refine I6 rfl ?_ | refine I7 ?_ | refine I8 ?_ | refine z4 ?_) | (refine M3 ?_; first | refine O6 ?_ | refine z2 tok rfl ?_ | refine O8 rfl ?_ | refine O7 rfl ?_ rfl | refine O9 rfl ?_ rfl | refine U1 _ (U4 rfl rfl) rfl ?_ | refine U1 _ (U5 rfl rfl) rfl ?_ | refine U1 _ (U2 rfl) rfl ?_ | refine U1 _ (U3 tok rfl rfl rfl rfl rfl) rfl ?_) | (refine M4 ?_; first | refine M6 ?_ | refine U6 rfl (by kernel_rfl) ?_ | refine U7 (by kernel_rfl) ?_) | (refine M5 ?_; first | exact M7 | refine U8 rfl ?_ | refine U9 rfl rfl ?_ ?_))
    refine XE.retg tok Try.results17 rfl (by simp only [and_self, and_true]) (fun w' S => ?_)
    exact ⟨chkTV_of (chkT_1 (by simpa [chkE] using h0)), S.toBelow⟩
  have hE : chkE t.b = 0 := by simpa [chkE] using h0
  repeat (first | (refine M0 ?_; first | refine O0 ?_ | refine z1 tok rfl ?_ | refine O1 rfl ?_ rfl | refine O2 rfl ?_ | refine O3 rfl ?_ rfl | refine U0 _ (Ev.call (f := 35) (ck rfl) rfl (fun w S => (checkState_any (p := ⟨Ab, t.b.rows.length, cb, Ab2, nb2, cb2⟩) (q := q) (hbas.sys S) (hfil.arg S) :))) rfl ?_ | refine O4 rfl rfl rfl (fun _ _ => ?_) | refine O5 tok rfl rfl rfl (fun _ _ => ?_) | refine U0 _ (U2 rfl) rfl ?_ | refine U0 _ (U3 tok rfl rfl rfl rfl rfl) rfl ?_ | refine z3 tok rfl ?_ | refine U0 _ (U4 rfl rfl) rfl ?_ | refine U0 _ (U5 rfl rfl) rfl ?_) | (refine M1 ?_; first | refine J0 ?_ | refine J1 ?_ | refine J2 mixed rfl (by kernel_rfl) ?_ | refine J3 mixed rfl rfl (by kernel_rfl) ?_ | refine J4 ?_ | refine J5 ?_ | refine J6 ?_ | refine J7 ?_ | refine J8 rfl ?_ | refine J9 rfl ?_) | (refine M2 ?_; first | refine I0 ?_ | refine I1 ?_ | refine I2 ?_ | refine I3 ?_ | refine I4 ?_ | refine I5 ?_ | refine I6 rfl ?_ | refine I7 ?_ | refine I8 ?_ | refine z4 ?_) | (refine M3 ?_; first | refine O6 ?_ | refine z2 tok rfl ?_ | refine O8 rfl ?_ | refine O7 rfl ?_ rfl | refine O9 rfl ?_ rfl | refine U1 _ (Ev.call (f := 35) (ck rfl) rfl (fun w S => (checkState_any (p := ⟨Ab, t.b.rows.length, cb, Ab2, nb2, cb2⟩) (q := q) (hbas.sys S) (hfil.arg S) :))) rfl ?_ | refine U1 _ (U4 rfl rfl) rfl ?_ | refine U1 _ (U5 rfl rfl) rfl ?_ | refine U1 _ (U2 rfl) rfl ?_ | refine U1 _ (U3 tok rfl rfl rfl rfl rfl) rfl ?_) | (refine M4 ?_; first | refine M6 ?_ | refine U6 rfl (by kernel_rfl) ?_ | refine U7 (by kernel_rfl) ?_) | (refine M5 ?_; first | exact M7 | refine U8 rfl ?_ | refine U9 rfl rfl ?_ ?_))
  refine XC.cond _ rfl (fun h1 => ?_) (fun h1 => ?_)
  · repeat (first | (refine M0 ?_; first | refine O0 ?_ | refine z1 tok rfl ?_ | refine O1 rfl ?_ rfl | refine O2 rfl ?_ | refine O3 rfl ?_ rfl | refine O4 rfl rfl rfl (fun _ _ => ?_) | refine O5 tok rfl rfl rfl (fun _ _ => ?_) | refine U0 _ (U2 rfl) rfl ?_ | refine U0 _ (U3 tok rfl rfl rfl rfl rfl) rfl ?_ | refine z3 tok rfl ?_ | refine U0 _ (U4 rfl rfl) rfl ?_ | refine U0 _ (U5 rfl rfl) rfl ?_) | (refine M1 ?_; first | refine J0 ?_ | refine J1 ?_ | refine J2 mixed rfl (by kernel_rfl) ?_ | refine J3 mixed rfl rfl (by kernel_rfl) ?_ | refine J4 ?_ | refine J5 ?_ | refine J6 ?_ | refine J7 ?_ | refine J8 rfl ?_ | refine J9 rfl ?_) | (refine M2 ?_; first | refine I0 ?_ | refine I1 ?_ | refine I2 ?_ | refine I3 ?_ | refine I4 ?_ | refine I5 ?_ | refine I6 rfl ?_ | refine I7 ?_ | refine I8 ?_ | refine z4 ?_) | (refine M3 ?_; first | refine O6 ?_ | refine z2 tok rfl ?_ | refine O8 rfl ?_ | refine O7 rfl ?_ rfl | refine O9 rfl ?_ rfl | refine U1 _ (U4 rfl rfl) rfl ?_ | refine U1 _ (U5 rfl rfl) rfl ?_ | refine U1 _ (U2 rfl) rfl ?_ | refine U1 _ (U3 tok rfl rfl rfl rfl rfl) rfl ?_) | (refine M4 ?_; first | refine M6 ?_ | refine U6 rfl (by kernel_rfl) ?_ | refine U7 (by kernel_rfl) ?_) | (refine M5 ?_; first | exact M7 | refine U8 rfl ?_ | refine U9 rfl rfl ?_ ?_))
    refine XE.retg tok Try.results17 rfl (by simp only [and_self, and_true]) (fun w' S => ?_)
    exact ⟨chkTV_of (chkT_2 hE (by simpa using h1)), S.toBelow⟩
  have hS : staErr t.b t.s = 0 := by simpa using h1
  repeat (first | (refine M0 ?_; first | refine O0 ?_ | refine z1 tok rfl ?_ | refine O1 rfl ?_ rfl | refine O2 rfl ?_ | refine O3 rfl ?_ rfl | refine O4 rfl rfl rfl (fun _ _ => ?_) | refine O5 tok rfl rfl rfl (fun _ _ => ?_) | refine U0 _ (U2 rfl) rfl ?_ | refine U0 _ (U3 tok rfl rfl rfl rfl rfl) rfl ?_ | refine z3 tok rfl ?_ | refine U0 _ (U4 rfl rfl) rfl ?_ | refine U0 _ (U5 rfl rfl) rfl ?_) | (refine M1 ?_; first | refine J0 ?_ | refine J1 ?_ | refine J2 mixed rfl (by kernel_rfl) ?_ | refine J3 mixed rfl rfl (by kernel_rfl) ?_ | refine J4 ?_ | refine J5 ?_ | refine J6 ?_ | refine J7 ?_ | refine J8 rfl ?_ | refine J9 rfl ?_) | (refine M2 ?_; first | refine I0 ?_ | refine I1 ?_ | refine I2 ?_ | refine I3 ?_ | refine I4 ?_ | refine I5 ?_ | refine I6 rfl ?_ | refine I7 ?_ | refine I8 ?_ | refine z4 ?_) | (refine M3 ?_; first | refine O6 ?_ | refine z2 tok rfl ?_ | refine O8 rfl ?_ | refine O7 rfl ?_ rfl | refine O9 rfl ?_ rfl | refine U1 _ (U4 rfl rfl) rfl ?_ | refine U1 _ (U5 rfl rfl) rfl ?_ | refine U1 _ (U2 rfl) rfl ?_ | refine U1 _ (U3 tok rfl rfl rfl rfl rfl) rfl ?_) | (refine M4 ?_; first | refine M6 ?_ | refine U6 rfl (by kernel_rfl) ?_ | refine U7 (by kernel_rfl) ?_) | (refine M5 ?_; first | exact M7 | refine U8 rfl ?_ | refine U9 rfl rfl ?_ ?_))
  refine XC.cond _ rfl (fun h2 => ?_) (fun h2 => ?_)
  · repeat (first | (refine M0 ?_; first | refine O0 ?_ | refine z1 tok rfl ?_ | refine O1 rfl ?_ rfl | refine O2 rfl ?_ | refine O3 rfl ?_ rfl | refine O4 rfl rfl rfl (fun _ _ => ?_) | refine O5 tok rfl rfl rfl (fun _ _ => ?_) | refine U0 _ (U2 rfl) rfl ?_ | refine U0 _ (U3 tok rfl rfl rfl rfl rfl) rfl ?_ | refine z3 tok rfl ?_ | refine U0 _ (U4 rfl rfl) rfl ?_ | refine U0 _ (U5 rfl rfl) rfl ?_) | (refine M1 ?_; first | refine J0 ?_ | refine J1 ?_ | refine J2 mixed rfl (by kernel_rfl) ?_ | refine J3 mixed rfl rfl (by kernel_rfl) ?_ | refine J4 ?_ | refine J5 ?_ | refine J6 ?_ | refine J7 ?_ | refine J8 rfl ?_ | refine J9 rfl ?_) | (refine M2 ?_; first | refine I0 ?_ | refine I1 ?_ | refine I2 ?_ | refine I3 ?_ | refine I4 ?_ | refine I5 ?_ | refine I6 rfl ?_ | refine I7 ?_ | refine I8 ?_ | refine z4 ?_) | (refine M3 ?_; first | refine O6 ?_ | refine z2 tok rfl ?_ | refine O8 rfl ?_ | refine O7 rfl ?_ rfl | refine O9 rfl ?_ rfl | refine U1 _ (U4 rfl rfl) rfl ?_ | refine U1 _ (U5 rfl rfl) rfl ?_ | refine U1 _ (U2 rfl) rfl ?_ | refine U1 _ (U3 tok rfl rfl rfl rfl rfl) rfl ?_) | (refine M4 ?_; first | refine M6 ?_ | refine U6 rfl (by kernel_rfl) ?_ | refine U7 (by kernel_rfl) ?_) | (refine M5 ?_; first | exact M7 | refine U8 rfl ?_ | refine U9 rfl rfl ?_ ?_))
    refine XE.retg tok Try.results17 rfl (by simp only [and_self, and_true]) (fun w' S => ?_)
    exact ⟨chkTV_of (chkT_3 hE hS (by have := of_decide_eq_true h2; omega)), S.toBelow⟩
  have h6 : ¬ 6 < t.outer.length := by have := of_decide_eq_false h2; omega
  cases e4 : decide ((t.river.length : Int) ≠ (t.outer.length : Int)) with
  | true =>
    have e4' := of_decide_eq_true e4
    repeat (first | (refine M0 ?_; first | refine O0 ?_ | refine z1 tok rfl ?_ | refine O1 rfl ?_ rfl | refine O2 rfl ?_ | refine O3 rfl ?_ rfl | refine O4 rfl rfl rfl (fun _ _ => ?_) | refine O5 tok rfl rfl rfl (fun _ _ => ?_) | refine U0 _ (U2 rfl) rfl ?_ | refine U0 _ (U3 tok rfl rfl rfl rfl rfl) rfl ?_ | refine z3 tok rfl ?_ | refine U0 _ (U4 rfl rfl) rfl ?_ | refine U0 _ (U5 rfl rfl) rfl ?_) | (refine M1 ?_; first | refine J0 ?_ | refine J1 ?_ | refine J2 mixed rfl (by kernel_rfl) ?_ | refine J3 mixed rfl rfl (by kernel_rfl) ?_ | refine J4 ?_ | refine J5 ?_ | refine J6 ?_ | refine J7 ?_ | refine J8 rfl ?_ | refine J9 rfl ?_) | (refine M2 ?_; first | refine I0 ?_ | refine I1 ?_ | refine I2 ?_ | refine I3 ?_ | refine I4 ?_ | refine I5 ?_ | refine I6 rfl ?_ | refine I7 ?_ | refine I8 ?_ | refine z4 ?_) | (refine M3 ?_; first | refine O6 ?_ | refine z2 tok rfl ?_ | refine O8 rfl ?_ | refine O7 rfl ?_ rfl | refine O9 rfl ?_ rfl | refine U1 _ (U4 rfl rfl) rfl ?_ | refine U1 _ (U5 rfl rfl) rfl ?_ | refine U1 _ (U2 rfl) rfl ?_ | refine U1 _ (U3 tok rfl rfl rfl rfl rfl) rfl ?_) | (refine M4 ?_; first | refine M6 ?_ | refine U6 rfl (by kernel_rfl) ?_ | refine U7 (by kernel_rfl) ?_) | (refine M5 ?_; first | exact M7 | refine U8 rfl ?_ | refine U9 rfl rfl ?_ ?_))
    rw [e4]
    repeat (first | (refine M0 ?_; first | refine O0 ?_ | refine z1 tok rfl ?_ | refine O1 rfl ?_ rfl | refine O2 rfl ?_ | refine O3 rfl ?_ rfl | refine O4 rfl rfl rfl (fun _ _ => ?_) | refine O5 tok rfl rfl rfl (fun _ _ => ?_) | refine U0 _ (U2 rfl) rfl ?_ | refine U0 _ (U3 tok rfl rfl rfl rfl rfl) rfl ?_ | refine z3 tok rfl ?_ | refine U0 _ (U4 rfl rfl) rfl ?_ | refine U0 _ (U5 rfl rfl) rfl ?_) | (refine M1 ?_; first | refine J0 ?_ | refine J1 ?_ | refine J2 mixed rfl (by kernel_rfl) ?_ | refine J3 mixed rfl rfl (by kernel_rfl) ?_ | refine J4 ?_ | refine J5 ?_ | refine J6 ?_ | refine J7 ?_ | refine J8 rfl ?_ | refine J9 rfl ?_) | (refine M2 ?_; first | refine I0 ?_ | refine I1 ?_ | refine I2 ?_ | refine I3 ?_ | refine I4 ?_ | refine I5 ?_ | refine I6 rfl ?_ | refine I7 ?_ | refine I8 ?_ | refine z4 ?_) | (refine M3 ?_; first | refine O6 ?_ | refine z2 tok rfl ?_ | refine O8 rfl ?_ | refine O7 rfl ?_ rfl | refine O9 rfl ?_ rfl | refine U1 _ (U4 rfl rfl) rfl ?_ | refine U1 _ (U5 rfl rfl) rfl ?_ | refine U1 _ (U2 rfl) rfl ?_ | refine U1 _ (U3 tok rfl rfl rfl rfl rfl) rfl ?_) | (refine M4 ?_; first | refine M6 ?_ | refine U6 rfl (by kernel_rfl) ?_ | refine U7 (by kernel_rfl) ?_) | (refine M5 ?_; first | exact M7 | refine U8 rfl ?_ | refine U9 rfl rfl ?_ ?_))
    refine XE.retg tok Try.results17 rfl (by simp only [and_self, and_true]) (fun w' S => ?_)
    exact ⟨chkTV_of (chkT_4 hE hS h6 (.inl (by omega))), S.toBelow⟩
  | false =>
  have e4' := of_decide_eq_false e4
  repeat (first | (refine M0 ?_; first | refine O0 ?_ | refine z1 tok rfl ?_ | refine O1 rfl ?_ rfl | refine O2 rfl ?_ | refine O3 rfl ?_ rfl | refine O4 rfl rfl rfl (fun _ _ => ?_) | refine O5 tok rfl rfl rfl (fun _ _ => ?_) | refine U0 _ (U2 rfl) rfl ?_ | refine U0 _ (U3 tok rfl rfl rfl rfl rfl) rfl ?_ | refine z3 tok rfl ?_ | refine U0 _ (U4 rfl rfl) rfl ?_ | refine U0 _ (U5 rfl rfl) rfl ?_) | (refine M1 ?_; first | refine J0 ?_ | refine J1 ?_ | refine J2 mixed rfl (by kernel_rfl) ?_ | refine J3 mixed rfl rfl (by kernel_rfl) ?_ | refine J4 ?_ | refine J5 ?_ | refine J6 ?_ | refine J7 ?_ | refine J8 rfl ?_ | refine J9 rfl ?_) | (refine M2 ?_; first | refine I0 ?_ | refine I1 ?_ | refine I2 ?_ | refine I3 ?_ | refine I4 ?_ | refine I5 ?_ | refine I6 rfl ?_ | refine I7 ?_ | refine I8 ?_ | refine z4 ?_) | (refine M3 ?_; first | refine O6 ?_ | refine z2 tok rfl ?_ | refine O8 rfl ?_ | refine O7 rfl ?_ rfl | refine O9 rfl ?_ rfl | refine U1 _ (U4 rfl rfl) rfl ?_ | refine U1 _ (U5 rfl rfl) rfl ?_ | refine U1 _ (U2 rfl) rfl ?_ | refine U1 _ (U3 tok rfl rfl rfl rfl rfl) rfl ?_) | (refine M4 ?_; first | refine M6 ?_ | refine U6 rfl (by kernel_rfl) ?_ | refine U7 (by kernel_rfl) ?_) | (refine M5 ?_; first | exact M7 | refine U8 rfl ?_ | refine U9 rfl rfl ?_ ?_))
  rw [e4]
  repeat (first | (refine M0 ?_; first | refine O0 ?_ | refine z1 tok rfl ?_ | refine O1 rfl ?_ rfl | refine O2 rfl ?_ | refine O3 rfl ?_ rfl | refine O4 rfl rfl rfl (fun _ _ => ?_) | refine O5 tok rfl rfl rfl (fun _ _ => ?_) | refine U0 _ (U2 rfl) rfl ?_ | refine U0 _ (U3 tok rfl rfl rfl rfl rfl) rfl ?_ | refine z3 tok rfl ?_ | refine U0 _ (U4 rfl rfl) rfl ?_ | refine U0 _ (U5 rfl rfl) rfl ?_) | (refine M1 ?_; first | refine J0 ?_ | refine J1 ?_ | refine J2 mixed rfl (by kernel_rfl) ?_ | refine J3 mixed rfl rfl (by kernel_rfl) ?_ | refine J4 ?_ | refine J5 ?_ | refine J6 ?_ | refine J7 ?_ | refine J8 rfl ?_ | refine J9 rfl ?_) | (refine M2 ?_; first | refine I0 ?_ | refine I1 ?_ | refine I2 ?_ | refine I3 ?_ | refine I4 ?_ | refine I5 ?_ | refine I6 rfl ?_ | refine I7 ?_ | refine I8 ?_ | refine z4 ?_) | (refine M3 ?_; first | refine O6 ?_ | refine z2 tok rfl ?_ | refine O8 rfl ?_ | refine O7 rfl ?_ rfl | refine O9 rfl ?_ rfl | refine U1 _ (U4 rfl rfl) rfl ?_ | refine U1 _ (U5 rfl rfl) rfl ?_ | refine U1 _ (U2 rfl) rfl ?_ | refine U1 _ (U3 tok rfl rfl rfl rfl rfl) rfl ?_) | (refine M4 ?_; first | refine M6 ?_ | refine U6 rfl (by kernel_rfl) ?_ | refine U7 (by kernel_rfl) ?_) | (refine M5 ?_; first | exact M7 | refine U8 rfl ?_ | refine U9 rfl rfl ?_ ?_))
  refine XC.cond _ rfl (fun h3 => ?_) (fun h3 => ?_)
  · repeat (first | (refine M0 ?_; first | refine O0 ?_ | refine z1 tok rfl ?_ | refine O1 rfl ?_ rfl | refine O2 rfl ?_ | refine O3 rfl ?_ rfl | refine O4 rfl rfl rfl (fun _ _ => ?_) | refine O5 tok rfl rfl rfl (fun _ _ => ?_) | refine U0 _ (U2 rfl) rfl ?_ | refine U0 _ (U3 tok rfl rfl rfl rfl rfl) rfl ?_ | refine z3 tok rfl ?_ | refine U0 _ (U4 rfl rfl) rfl ?_ | refine U0 _ (U5 rfl rfl) rfl ?_) | (refine M1 ?_; first | refine J0 ?_ | refine J1 ?_ | refine J2 mixed rfl (by kernel_rfl) ?_ | refine J3 mixed rfl rfl (by kernel_rfl) ?_ | refine J4 ?_ | refine J5 ?_ | refine J6 ?_ | refine J7 ?_ | refine J8 rfl ?_ | refine J9 rfl ?_) | (refine M2 ?_; first | refine I0 ?_ | refine I1 ?_ | refine I2 ?_ | refine I3 ?_ | refine I4 ?_ | refine I5 ?_ | refine I6 rfl ?_ | refine I7 ?_ | refine I8 ?_ | refine z4 ?_) | (refine M3 ?_; first | refine O6 ?_ | refine z2 tok rfl ?_ | refine O8 rfl ?_ | refine O7 rfl ?_ rfl | refine O9 rfl ?_ rfl | refine U1 _ (U4 rfl rfl) rfl ?_ | refine U1 _ (U5 rfl rfl) rfl ?_ | refine U1 _ (U2 rfl) rfl ?_ | refine U1 _ (U3 tok rfl rfl rfl rfl rfl) rfl ?_) | (refine M4 ?_; first | refine M6 ?_ | refine U6 rfl (by kernel_rfl) ?_ | refine U7 (by kernel_rfl) ?_) | (refine M5 ?_; first | exact M7 | refine U8 rfl ?_ | refine U9 rfl rfl ?_ ?_))
    refine XE.retg tok Try.results17 rfl (by simp only [and_self, and_true]) (fun w' S => ?_)
    exact ⟨chkTV_of (chkT_4 hE hS h6 (.inr (by have := of_decide_eq_true h3; omega))), S.toBelow⟩
  have hp4 : Pre4 t := ⟨hE, hS, h6, fun h => h.elim (fun h => h (by omega)) (fun h => h (by have := of_decide_eq_false h3; omega))⟩
  have e5' : t.prices.length = t.outer.length := by have := of_decide_eq_false h3; omega
  repeat (first | (refine M0 ?_; first | refine O0 ?_ | refine z1 tok rfl ?_ | refine O1 rfl ?_ rfl | refine O2 rfl ?_ | refine O3 rfl ?_ rfl | refine O4 rfl rfl rfl (fun _ _ => ?_) | refine O5 tok rfl rfl rfl (fun _ _ => ?_) | refine U0 _ (U2 rfl) rfl ?_ | refine U0 _ (U3 tok rfl rfl rfl rfl rfl) rfl ?_ | refine z3 tok rfl ?_ | refine U0 _ (U4 rfl rfl) rfl ?_ | refine U0 _ (U5 rfl rfl) rfl ?_) | (refine M1 ?_; first | refine J0 ?_ | refine J1 ?_ | refine J2 mixed rfl (by kernel_rfl) ?_ | refine J3 mixed rfl rfl (by kernel_rfl) ?_ | refine J4 ?_ | refine J5 ?_ | refine J6 ?_ | refine J7 ?_ | refine J8 rfl ?_ | refine J9 rfl ?_) | (refine M2 ?_; first | refine I0 ?_ | refine I1 ?_ | refine I2 ?_ | refine I3 ?_ | refine I4 ?_ | refine I5 ?_ | refine I6 rfl ?_ | refine I7 ?_ | refine I8 ?_ | refine z4 ?_) | (refine M3 ?_; first | refine O6 ?_ | refine z2 tok rfl ?_ | refine O8 rfl ?_ | refine O7 rfl ?_ rfl | refine O9 rfl ?_ rfl | refine U1 _ (U4 rfl rfl) rfl ?_ | refine U1 _ (U5 rfl rfl) rfl ?_ | refine U1 _ (U2 rfl) rfl ?_ | refine U1 _ (U3 tok rfl rfl rfl rfl rfl) rfl ?_) | (refine M4 ?_; first | refine M6 ?_ | refine U6 rfl (by kernel_rfl) ?_ | refine U7 (by kernel_rfl) ?_) | (refine M5 ?_; first | exact M7 | refine U8 rfl ?_ | refine U9 rfl rfl ?_ ?_))
  refine XC.loopk [1, 51, 52] rfl (fun k : Nat => [(53, .int .i64 (k : Nat))]) (fun _ => [(g1, _)]) (fun _ => w) (fun k => k ≤ t.outer.length ∧ ∀ j, j < k → tickErr t j = 0) (fun k => t.outer.length - k) 0 ⟨Nat.zero_le _, fun j h => absurd h (by omega)⟩ (by repeat (first | exact Sub.nil | refine Sub.cons rfl ?_)) (fun _ h => h) ?_
  rintro k ⟨hk, h0⟩
  dsimp only [List.cons_append, List.nil_append]
  repeat (first | (refine M0 ?_; first | refine O0 ?_ | refine z1 tok rfl ?_ | refine O1 rfl ?_ rfl | refine O2 rfl ?_ | refine O3 rfl ?_ rfl | refine O4 rfl rfl rfl (fun _ _ => ?_) | refine O5 tok rfl rfl rfl (fun _ _ => ?_) | refine U0 _ (U2 rfl) rfl ?_ | refine U0 _ (U3 tok rfl rfl rfl rfl rfl) rfl ?_ | refine z3 tok rfl ?_ | refine U0 _ (U4 rfl rfl) rfl ?_ | refine U0 _ (U5 rfl rfl) rfl ?_) | (refine M1 ?_; first | refine J0 ?_ | refine J1 ?_ | refine J2 mixed rfl (by kernel_rfl) ?_ | refine J3 mixed rfl rfl (by kernel_rfl) ?_ | refine J4 ?_ | refine J5 ?_ | refine J6 ?_ | refine J7 ?_ | refine J8 rfl ?_ | refine J9 rfl ?_) | (refine M2 ?_; first | refine I0 ?_ | refine I1 ?_ | refine I2 ?_ | refine I3 ?_ | refine I4 ?_ | refine I5 ?_ | refine I6 rfl ?_ | refine I7 ?_ | refine I8 ?_ | refine z4 ?_) | (refine M3 ?_; first | refine O6 ?_ | refine z2 tok rfl ?_ | refine O8 rfl ?_ | refine O7 rfl ?_ rfl | refine O9 rfl ?_ rfl | refine U1 _ (U4 rfl rfl) rfl ?_ | refine U1 _ (U5 rfl rfl) rfl ?_ | refine U1 _ (U2 rfl) rfl ?_ | refine U1 _ (U3 tok rfl rfl rfl rfl rfl) rfl ?_) | (refine M4 ?_; first | refine M6 ?_ | refine U6 rfl (by kernel_rfl) ?_ | refine U7 (by kernel_rfl) ?_) | (refine M5 ?_; first | exact M7 | refine U8 rfl ?_ | refine U9 rfl rfl ?_ ?_))
  refine XC.cond _ rfl (fun h7 => ?_) (fun h7 => ?_)
  · have hkn : k < t.outer.length := by simpa using h7
    obtain ⟨a1, rfl, hl1, hc1⟩ := hout.at_ (by omega)
    obtain ⟨a2, rfl, hl2, hc2⟩ := hriv.at_ (by omega)
    obtain ⟨a3, rfl, hl3, hc3⟩ := hpri.at_ (by omega)
    have d1 := hc1 k hkn
    have d2 := hc2 k (by omega)
    have d3 := hc3 k (by omega)
    repeat (first | (refine M0 ?_; first | refine O0 ?_ | refine z1 tok rfl ?_ | refine O1 rfl ?_ rfl | refine O2 rfl ?_ | refine O3 rfl ?_ rfl | refine U0 _ (Ev.load_old tok rfl rfl (add_lt hl1) d1) rfl ?_ | refine O4 rfl rfl rfl (fun _ _ => ?_) | refine O5 tok rfl rfl rfl (fun _ _ => ?_) | refine U0 _ (U2 rfl) rfl ?_ | refine U0 _ (U3 tok rfl rfl rfl rfl rfl) rfl ?_ | refine z3 tok rfl ?_ | refine U0 _ (U4 rfl rfl) rfl ?_ | refine U0 _ (U5 rfl rfl) rfl ?_) | (refine M1 ?_; first | refine J0 ?_ | refine J1 ?_ | refine J2 mixed rfl (by kernel_rfl) ?_ | refine J3 mixed rfl rfl (by kernel_rfl) ?_ | refine J4 ?_ | refine J5 ?_ | refine J6 ?_ | refine J7 ?_ | refine J8 rfl ?_ | refine J9 rfl ?_) | (refine M2 ?_; first | refine I0 ?_ | refine I1 ?_ | refine I2 ?_ | refine I3 ?_ | refine I4 ?_ | refine I5 ?_ | refine I6 rfl ?_ | refine I7 ?_ | refine I8 ?_ | refine z4 ?_) | (refine M3 ?_; first | refine O6 ?_ | refine z2 tok rfl ?_ | refine O8 rfl ?_ | refine O7 rfl ?_ rfl | refine O9 rfl ?_ rfl | refine U1 _ (Ev.load_old tok rfl rfl (add_lt hl1) d1) rfl ?_ | refine U1 _ (U4 rfl rfl) rfl ?_ | refine U1 _ (U5 rfl rfl) rfl ?_ | refine U1 _ (U2 rfl) rfl ?_ | refine U1 _ (U3 tok rfl rfl rfl rfl rfl) rfl ?_) | (refine M4 ?_; first | refine M6 ?_ | refine U6 rfl (by kernel_rfl) ?_ | refine U7 (by kernel_rfl) ?_) | (refine M5 ?_; first | exact M7 | refine U8 rfl ?_ | refine U9 rfl rfl ?_ ?_))
    cases e0 : outB (at0 t.outer k) (-20000) 20000 with
    | true =>
      repeat (first | (refine M0 ?_; first | refine O0 ?_ | refine z1 tok rfl ?_ | refine O1 rfl ?_ rfl | refine O2 rfl ?_ | refine O3 rfl ?_ rfl | refine U0 _ (Ev.call (f := 46) (vs := [.int .i64 (at0 t.outer k), .int .i64 (-20000), .int .i64 20000]) (ck rfl) rfl (fun w S => outP e0 w)) rfl ?_ | refine O4 rfl rfl rfl (fun _ _ => ?_) | refine O5 tok rfl rfl rfl (fun _ _ => ?_) | refine U0 _ (U2 rfl) rfl ?_ | refine U0 _ (U3 tok rfl rfl rfl rfl rfl) rfl ?_ | refine z3 tok rfl ?_ | refine U0 _ (U4 rfl rfl) rfl ?_ | refine U0 _ (U5 rfl rfl) rfl ?_) | (refine M1 ?_; first | refine J0 ?_ | refine J1 ?_ | refine J2 mixed rfl (by kernel_rfl) ?_ | refine J3 mixed rfl rfl (by kernel_rfl) ?_ | refine J4 ?_ | refine J5 ?_ | refine J6 ?_ | refine J7 ?_ | refine J8 rfl ?_ | refine J9 rfl ?_) | (refine M2 ?_; first | refine I0 ?_ | refine I1 ?_ | refine I2 ?_ | refine I3 ?_ | refine I4 ?_ | refine I5 ?_ | refine I6 rfl ?_ | refine I7 ?_ | refine I8 ?_ | refine z4 ?_) | (refine M3 ?_; first | refine O6 ?_ | refine z2 tok rfl ?_ | refine O8 rfl ?_ | refine O7 rfl ?_ rfl | refine O9 rfl ?_ rfl | refine U1 _ (Ev.call (f := 46) (vs := [.int .i64 (at0 t.outer k), .int .i64 (-20000), .int .i64 20000]) (ck rfl) rfl (fun w S => outP e0 w)) rfl ?_ | refine U1 _ (U4 rfl rfl) rfl ?_ | refine U1 _ (U5 rfl rfl) rfl ?_ | refine U1 _ (U2 rfl) rfl ?_ | refine U1 _ (U3 tok rfl rfl rfl rfl rfl) rfl ?_) | (refine M4 ?_; first | refine M6 ?_ | refine U6 rfl (by kernel_rfl) ?_ | refine U7 (by kernel_rfl) ?_) | (refine M5 ?_; first | exact M7 | refine U8 rfl ?_ | refine U9 rfl rfl ?_ ?_))
      refine XE.retg tok Try.results17 rfl (by simp only [and_self, and_true]) (fun w' S => ?_)
      exact ⟨chkTV_of (chkT_5 hp4 hkn h0 (by simp [tickErr, e0])), S.toBelow⟩
    | false =>
    repeat (first | (refine M0 ?_; first | refine O0 ?_ | refine z1 tok rfl ?_ | refine O1 rfl ?_ rfl | refine O2 rfl ?_ | refine O3 rfl ?_ rfl | refine U0 _ (Ev.call (f := 46) (vs := [.int .i64 (at0 t.outer k), .int .i64 (-20000), .int .i64 20000]) (ck rfl) rfl (fun w S => outP e0 w)) rfl ?_ | refine U0 _ (Ev.load_old tok rfl rfl (add_lt hl2) d2) rfl ?_ | refine O4 rfl rfl rfl (fun _ _ => ?_) | refine O5 tok rfl rfl rfl (fun _ _ => ?_) | refine U0 _ (U2 rfl) rfl ?_ | refine U0 _ (U3 tok rfl rfl rfl rfl rfl) rfl ?_ | refine z3 tok rfl ?_ | refine U0 _ (U4 rfl rfl) rfl ?_ | refine U0 _ (U5 rfl rfl) rfl ?_) | (refine M1 ?_; first | refine J0 ?_ | refine J1 ?_ | refine J2 mixed rfl (by kernel_rfl) ?_ | refine J3 mixed rfl rfl (by kernel_rfl) ?_ | refine J4 ?_ | refine J5 ?_ | refine J6 ?_ | refine J7 ?_ | refine J8 rfl ?_ | refine J9 rfl ?_) | (refine M2 ?_; first | refine I0 ?_ | refine I1 ?_ | refine I2 ?_ | refine I3 ?_ | refine I4 ?_ | refine I5 ?_ | refine I6 rfl ?_ | refine I7 ?_ | refine I8 ?_ | refine z4 ?_) | (refine M3 ?_; first | refine O6 ?_ | refine z2 tok rfl ?_ | refine O8 rfl ?_ | refine O7 rfl ?_ rfl | refine O9 rfl ?_ rfl | refine U1 _ (Ev.call (f := 46) (vs := [.int .i64 (at0 t.outer k), .int .i64 (-20000), .int .i64 20000]) (ck rfl) rfl (fun w S => outP e0 w)) rfl ?_ | refine U1 _ (Ev.load_old tok rfl rfl (add_lt hl2) d2) rfl ?_ | refine U1 _ (U4 rfl rfl) rfl ?_ | refine U1 _ (U5 rfl rfl) rfl ?_ | refine U1 _ (U2 rfl) rfl ?_ | refine U1 _ (U3 tok rfl rfl rfl rfl rfl) rfl ?_) | (refine M4 ?_; first | refine M6 ?_ | refine U6 rfl (by kernel_rfl) ?_ | refine U7 (by kernel_rfl) ?_) | (refine M5 ?_; first | exact M7 | refine U8 rfl ?_ | refine U9 rfl rfl ?_ ?_))
    cases e1 : outB (at0 t.river k) 0 10000000 with
    | true =>
      repeat (first | (refine M0 ?_; first | refine O0 ?_ | refine z1 tok rfl ?_ | refine O1 rfl ?_ rfl | refine O2 rfl ?_ | refine O3 rfl ?_ rfl | refine U0 _ (Ev.call (f := 46) (vs := [.int .i64 (at0 t.river k), .int .i64 0, .int .i64 10000000]) (ck rfl) rfl (fun w S => outP e1 w)) rfl ?_ | refine O4 rfl rfl rfl (fun _ _ => ?_) | refine O5 tok rfl rfl rfl (fun _ _ => ?_) | refine U0 _ (U2 rfl) rfl ?_ | refine U0 _ (U3 tok rfl rfl rfl rfl rfl) rfl ?_ | refine z3 tok rfl ?_ | refine U0 _ (U4 rfl rfl) rfl ?_ | refine U0 _ (U5 rfl rfl) rfl ?_) | (refine M1 ?_; first | refine J0 ?_ | refine J1 ?_ | refine J2 mixed rfl (by kernel_rfl) ?_ | refine J3 mixed rfl rfl (by kernel_rfl) ?_ | refine J4 ?_ | refine J5 ?_ | refine J6 ?_ | refine J7 ?_ | refine J8 rfl ?_ | refine J9 rfl ?_) | (refine M2 ?_; first | refine I0 ?_ | refine I1 ?_ | refine I2 ?_ | refine I3 ?_ | refine I4 ?_ | refine I5 ?_ | refine I6 rfl ?_ | refine I7 ?_ | refine I8 ?_ | refine z4 ?_) | (refine M3 ?_; first | refine O6 ?_ | refine z2 tok rfl ?_ | refine O8 rfl ?_ | refine O7 rfl ?_ rfl | refine O9 rfl ?_ rfl | refine U1 _ (Ev.call (f := 46) (vs := [.int .i64 (at0 t.river k), .int .i64 0, .int .i64 10000000]) (ck rfl) rfl (fun w S => outP e1 w)) rfl ?_ | refine U1 _ (U4 rfl rfl) rfl ?_ | refine U1 _ (U5 rfl rfl) rfl ?_ | refine U1 _ (U2 rfl) rfl ?_ | refine U1 _ (U3 tok rfl rfl rfl rfl rfl) rfl ?_) | (refine M4 ?_; first | refine M6 ?_ | refine U6 rfl (by kernel_rfl) ?_ | refine U7 (by kernel_rfl) ?_) | (refine M5 ?_; first | exact M7 | refine U8 rfl ?_ | refine U9 rfl rfl ?_ ?_))
      refine XE.retg tok Try.results17 rfl (by simp only [and_self, and_true]) (fun w' S => ?_)
      exact ⟨chkTV_of (chkT_5 hp4 hkn h0 (by simp [tickErr, e1])), S.toBelow⟩
    | false =>
    repeat (first | (refine M0 ?_; first | refine O0 ?_ | refine z1 tok rfl ?_ | refine O1 rfl ?_ rfl | refine O2 rfl ?_ | refine O3 rfl ?_ rfl | refine U0 _ (Ev.call (f := 46) (vs := [.int .i64 (at0 t.river k), .int .i64 0, .int .i64 10000000]) (ck rfl) rfl (fun w S => outP e1 w)) rfl ?_ | refine U0 _ (Ev.load_old tok rfl rfl (add_lt hl3) d3) rfl ?_ | refine O4 rfl rfl rfl (fun _ _ => ?_) | refine O5 tok rfl rfl rfl (fun _ _ => ?_) | refine U0 _ (U2 rfl) rfl ?_ | refine U0 _ (U3 tok rfl rfl rfl rfl rfl) rfl ?_ | refine z3 tok rfl ?_ | refine U0 _ (U4 rfl rfl) rfl ?_ | refine U0 _ (U5 rfl rfl) rfl ?_) | (refine M1 ?_; first | refine J0 ?_ | refine J1 ?_ | refine J2 mixed rfl (by kernel_rfl) ?_ | refine J3 mixed rfl rfl (by kernel_rfl) ?_ | refine J4 ?_ | refine J5 ?_ | refine J6 ?_ | refine J7 ?_ | refine J8 rfl ?_ | refine J9 rfl ?_) | (refine M2 ?_; first | refine I0 ?_ | refine I1 ?_ | refine I2 ?_ | refine I3 ?_ | refine I4 ?_ | refine I5 ?_ | refine I6 rfl ?_ | refine I7 ?_ | refine I8 ?_ | refine z4 ?_) | (refine M3 ?_; first | refine O6 ?_ | refine z2 tok rfl ?_ | refine O8 rfl ?_ | refine O7 rfl ?_ rfl | refine O9 rfl ?_ rfl | refine U1 _ (Ev.call (f := 46) (vs := [.int .i64 (at0 t.river k), .int .i64 0, .int .i64 10000000]) (ck rfl) rfl (fun w S => outP e1 w)) rfl ?_ | refine U1 _ (Ev.load_old tok rfl rfl (add_lt hl3) d3) rfl ?_ | refine U1 _ (U4 rfl rfl) rfl ?_ | refine U1 _ (U5 rfl rfl) rfl ?_ | refine U1 _ (U2 rfl) rfl ?_ | refine U1 _ (U3 tok rfl rfl rfl rfl rfl) rfl ?_) | (refine M4 ?_; first | refine M6 ?_ | refine U6 rfl (by kernel_rfl) ?_ | refine U7 (by kernel_rfl) ?_) | (refine M5 ?_; first | exact M7 | refine U8 rfl ?_ | refine U9 rfl rfl ?_ ?_))
    cases e2 : outB (at0 t.prices k) 0 10000 with
    | true =>
      repeat (first | (refine M0 ?_; first | refine O0 ?_ | refine z1 tok rfl ?_ | refine O1 rfl ?_ rfl | refine O2 rfl ?_ | refine O3 rfl ?_ rfl | refine U0 _ (Ev.call (f := 46) (vs := [.int .i64 (at0 t.prices k), .int .i64 0, .int .i64 10000]) (ck rfl) rfl (fun w S => outP e2 w)) rfl ?_ | refine O4 rfl rfl rfl (fun _ _ => ?_) | refine O5 tok rfl rfl rfl (fun _ _ => ?_) | refine U0 _ (U2 rfl) rfl ?_ | refine U0 _ (U3 tok rfl rfl rfl rfl rfl) rfl ?_ | refine z3 tok rfl ?_ | refine U0 _ (U4 rfl rfl) rfl ?_ | refine U0 _ (U5 rfl rfl) rfl ?_) | (refine M1 ?_; first | refine J0 ?_ | refine J1 ?_ | refine J2 mixed rfl (by kernel_rfl) ?_ | refine J3 mixed rfl rfl (by kernel_rfl) ?_ | refine J4 ?_ | refine J5 ?_ | refine J6 ?_ | refine J7 ?_ | refine J8 rfl ?_ | refine J9 rfl ?_) | (refine M2 ?_; first | refine I0 ?_ | refine I1 ?_ | refine I2 ?_ | refine I3 ?_ | refine I4 ?_ | refine I5 ?_ | refine I6 rfl ?_ | refine I7 ?_ | refine I8 ?_ | refine z4 ?_) | (refine M3 ?_; first | refine O6 ?_ | refine z2 tok rfl ?_ | refine O8 rfl ?_ | refine O7 rfl ?_ rfl | refine O9 rfl ?_ rfl | refine U1 _ (Ev.call (f := 46) (vs := [.int .i64 (at0 t.prices k), .int .i64 0, .int .i64 10000]) (ck rfl) rfl (fun w S => outP e2 w)) rfl ?_ | refine U1 _ (U4 rfl rfl) rfl ?_ | refine U1 _ (U5 rfl rfl) rfl ?_ | refine U1 _ (U2 rfl) rfl ?_ | refine U1 _ (U3 tok rfl rfl rfl rfl rfl) rfl ?_) | (refine M4 ?_; first | refine M6 ?_ | refine U6 rfl (by kernel_rfl) ?_ | refine U7 (by kernel_rfl) ?_) | (refine M5 ?_; first | exact M7 | refine U8 rfl ?_ | refine U9 rfl rfl ?_ ?_))
      refine XE.retg tok Try.results17 rfl (by simp only [and_self, and_true]) (fun w' S => ?_)
      exact ⟨chkTV_of (chkT_5 hp4 hkn h0 (by simp [tickErr, e2])), S.toBelow⟩
    | false =>
    repeat (first | (refine M0 ?_; first | refine O0 ?_ | refine z1 tok rfl ?_ | refine O1 rfl ?_ rfl | refine O2 rfl ?_ | refine O3 rfl ?_ rfl | refine U0 _ (Ev.call (f := 46) (vs := [.int .i64 (at0 t.prices k), .int .i64 0, .int .i64 10000]) (ck rfl) rfl (fun w S => outP e2 w)) rfl ?_ | refine O4 rfl rfl rfl (fun _ _ => ?_) | refine O5 tok rfl rfl rfl (fun _ _ => ?_) | refine U0 _ (U2 rfl) rfl ?_ | refine U0 _ (U3 tok rfl rfl rfl rfl rfl) rfl ?_ | refine z3 tok rfl ?_ | refine U0 _ (U4 rfl rfl) rfl ?_ | refine U0 _ (U5 rfl rfl) rfl ?_) | (refine M1 ?_; first | refine J0 ?_ | refine J1 ?_ | refine J2 mixed rfl (by kernel_rfl) ?_ | refine J3 mixed rfl rfl (by kernel_rfl) ?_ | refine J4 ?_ | refine J5 ?_ | refine J6 ?_ | refine J7 ?_ | refine J8 rfl ?_ | refine J9 rfl ?_) | (refine M2 ?_; first | refine I0 ?_ | refine I1 ?_ | refine I2 ?_ | refine I3 ?_ | refine I4 ?_ | refine I5 ?_ | refine I6 rfl ?_ | refine I7 ?_ | refine I8 ?_ | refine z4 ?_) | (refine M3 ?_; first | refine O6 ?_ | refine z2 tok rfl ?_ | refine O8 rfl ?_ | refine O7 rfl ?_ rfl | refine O9 rfl ?_ rfl | refine U1 _ (Ev.call (f := 46) (vs := [.int .i64 (at0 t.prices k), .int .i64 0, .int .i64 10000]) (ck rfl) rfl (fun w S => outP e2 w)) rfl ?_ | refine U1 _ (U4 rfl rfl) rfl ?_ | refine U1 _ (U5 rfl rfl) rfl ?_ | refine U1 _ (U2 rfl) rfl ?_ | refine U1 _ (U3 tok rfl rfl rfl rfl rfl) rfl ?_) | (refine M4 ?_; first | refine M6 ?_ | refine U6 rfl (by kernel_rfl) ?_ | refine U7 (by kernel_rfl) ?_) | (refine M5 ?_; first | exact M7 | refine U8 rfl ?_ | refine U9 rfl rfl ?_ ?_))
    refine XE.round (k + 1) ⟨hkn, fun j hj => ?_⟩ (by omega) (by repeat (first | exact Sub.nil | refine Sub.cons rfl ?_)) (fun _ h => h)
    by_cases e : j = k
    · subst e; simp [tickErr, e0, e1, e2]
    · exact h0 j (by omega)
  have hkn : k = t.outer.length := by have : ¬ (k < t.outer.length) := by simpa using h7
                                      omega
  subst hkn
  clear hk h7
  obtain ⟨ab, rfl, hlb⟩ := hbas.rows.addr (by have := rows_len hE; simp only; omega)
  have hr2 := rows_len hE
  have db := hbas.rowLevel (i := 0) (by omega)
  cases e6 : outB t.high (-20000) 20000 with
  | true =>
    repeat (first | (refine M0 ?_; first | refine O0 ?_ | refine z1 tok rfl ?_ | refine O1 rfl ?_ rfl | refine O2 rfl ?_ | refine O3 rfl ?_ rfl | refine U0 _ (Ev.call (f := 46) (vs := [.int .i64 t.high, .int .i64 (-20000), .int .i64 20000]) (ck rfl) rfl (fun w S => outP e6 w)) rfl ?_ | refine O4 rfl rfl rfl (fun _ _ => ?_) | refine O5 tok rfl rfl rfl (fun _ _ => ?_) | refine U0 _ (U2 rfl) rfl ?_ | refine U0 _ (U3 tok rfl rfl rfl rfl rfl) rfl ?_ | refine z3 tok rfl ?_ | refine U0 _ (U4 rfl rfl) rfl ?_ | refine U0 _ (U5 rfl rfl) rfl ?_) | (refine M1 ?_; first | refine J0 ?_ | refine J1 ?_ | refine J2 mixed rfl (by kernel_rfl) ?_ | refine J3 mixed rfl rfl (by kernel_rfl) ?_ | refine J4 ?_ | refine J5 ?_ | refine J6 ?_ | refine J7 ?_ | refine J8 rfl ?_ | refine J9 rfl ?_) | (refine M2 ?_; first | refine I0 ?_ | refine I1 ?_ | refine I2 ?_ | refine I3 ?_ | refine I4 ?_ | refine I5 ?_ | refine I6 rfl ?_ | refine I7 ?_ | refine I8 ?_ | refine z4 ?_) | (refine M3 ?_; first | refine O6 ?_ | refine z2 tok rfl ?_ | refine O8 rfl ?_ | refine O7 rfl ?_ rfl | refine O9 rfl ?_ rfl | refine U1 _ (Ev.call (f := 46) (vs := [.int .i64 t.high, .int .i64 (-20000), .int .i64 20000]) (ck rfl) rfl (fun w S => outP e6 w)) rfl ?_ | refine U1 _ (U4 rfl rfl) rfl ?_ | refine U1 _ (U5 rfl rfl) rfl ?_ | refine U1 _ (U2 rfl) rfl ?_ | refine U1 _ (U3 tok rfl rfl rfl rfl rfl) rfl ?_) | (refine M4 ?_; first | refine M6 ?_ | refine U6 rfl (by kernel_rfl) ?_ | refine U7 (by kernel_rfl) ?_) | (refine M5 ?_; first | exact M7 | refine U8 rfl ?_ | refine U9 rfl rfl ?_ ?_))
    refine XE.retg tok Try.results17 rfl (by simp only [and_self, and_true]) (fun w' S => ?_)
    exact ⟨chkTV_of (chkT_6 hp4 h0 (by simp [e6])), S.toBelow⟩
  | false =>
  repeat (first | (refine M0 ?_; first | refine O0 ?_ | refine z1 tok rfl ?_ | refine O1 rfl ?_ rfl | refine O2 rfl ?_ | refine O3 rfl ?_ rfl | refine U0 _ (Ev.call (f := 46) (vs := [.int .i64 t.high, .int .i64 (-20000), .int .i64 20000]) (ck rfl) rfl (fun w S => outP e6 w)) rfl ?_ | refine U0 _ (Ev.load_old tok rfl rfl (add_lt2 hlb) db) rfl ?_ | refine U0 _ (Ev.call (f := 46) (vs := [.int .i64 t.low, .int .i64 (t.b.row 0).level, .int .i64 t.high]) (ck rfl) rfl (fun w S => rnout_any _ _ _ w)) rfl ?_ | refine O4 rfl rfl rfl (fun _ _ => ?_) | refine O5 tok rfl rfl rfl (fun _ _ => ?_) | refine U0 _ (U2 rfl) rfl ?_ | refine U0 _ (U3 tok rfl rfl rfl rfl rfl) rfl ?_ | refine z3 tok rfl ?_ | refine U0 _ (U4 rfl rfl) rfl ?_ | refine U0 _ (U5 rfl rfl) rfl ?_) | (refine M1 ?_; first | refine J0 ?_ | refine J1 ?_ | refine J2 mixed rfl (by kernel_rfl) ?_ | refine J3 mixed rfl rfl (by kernel_rfl) ?_ | refine J4 ?_ | refine J5 ?_ | refine J6 ?_ | refine J7 ?_ | refine J8 rfl ?_ | refine J9 rfl ?_) | (refine M2 ?_; first | refine I0 ?_ | refine I1 ?_ | refine I2 ?_ | refine I3 ?_ | refine I4 ?_ | refine I5 ?_ | refine I6 rfl ?_ | refine I7 ?_ | refine I8 ?_ | refine z4 ?_) | (refine M3 ?_; first | refine O6 ?_ | refine z2 tok rfl ?_ | refine O8 rfl ?_ | refine O7 rfl ?_ rfl | refine O9 rfl ?_ rfl | refine U1 _ (Ev.call (f := 46) (vs := [.int .i64 t.high, .int .i64 (-20000), .int .i64 20000]) (ck rfl) rfl (fun w S => outP e6 w)) rfl ?_ | refine U1 _ (Ev.load_old tok rfl rfl (add_lt2 hlb) db) rfl ?_ | refine U1 _ (Ev.call (f := 46) (vs := [.int .i64 t.low, .int .i64 (t.b.row 0).level, .int .i64 t.high]) (ck rfl) rfl (fun w S => rnout_any _ _ _ w)) rfl ?_ | refine U1 _ (U4 rfl rfl) rfl ?_ | refine U1 _ (U5 rfl rfl) rfl ?_ | refine U1 _ (U2 rfl) rfl ?_ | refine U1 _ (U3 tok rfl rfl rfl rfl rfl) rfl ?_) | (refine M4 ?_; first | refine M6 ?_ | refine U6 rfl (by kernel_rfl) ?_ | refine U7 (by kernel_rfl) ?_) | (refine M5 ?_; first | exact M7 | refine U8 rfl ?_ | refine U9 rfl rfl ?_ ?_))
  refine XC.cond _ rfl (fun h8 => ?_) (fun h8 => ?_)
  · repeat (first | (refine M0 ?_; first | refine O0 ?_ | refine z1 tok rfl ?_ | refine O1 rfl ?_ rfl | refine O2 rfl ?_ | refine O3 rfl ?_ rfl | refine O4 rfl rfl rfl (fun _ _ => ?_) | refine O5 tok rfl rfl rfl (fun _ _ => ?_) | refine U0 _ (U2 rfl) rfl ?_ | refine U0 _ (U3 tok rfl rfl rfl rfl rfl) rfl ?_ | refine z3 tok rfl ?_ | refine U0 _ (U4 rfl rfl) rfl ?_ | refine U0 _ (U5 rfl rfl) rfl ?_) | (refine M1 ?_; first | refine J0 ?_ | refine J1 ?_ | refine J2 mixed rfl (by kernel_rfl) ?_ | refine J3 mixed rfl rfl (by kernel_rfl) ?_ | refine J4 ?_ | refine J5 ?_ | refine J6 ?_ | refine J7 ?_ | refine J8 rfl ?_ | refine J9 rfl ?_) | (refine M2 ?_; first | refine I0 ?_ | refine I1 ?_ | refine I2 ?_ | refine I3 ?_ | refine I4 ?_ | refine I5 ?_ | refine I6 rfl ?_ | refine I7 ?_ | refine I8 ?_ | refine z4 ?_) | (refine M3 ?_; first | refine O6 ?_ | refine z2 tok rfl ?_ | refine O8 rfl ?_ | refine O7 rfl ?_ rfl | refine O9 rfl ?_ rfl | refine U1 _ (U4 rfl rfl) rfl ?_ | refine U1 _ (U5 rfl rfl) rfl ?_ | refine U1 _ (U2 rfl) rfl ?_ | refine U1 _ (U3 tok rfl rfl rfl rfl rfl) rfl ?_) | (refine M4 ?_; first | refine M6 ?_ | refine U6 rfl (by kernel_rfl) ?_ | refine U7 (by kernel_rfl) ?_) | (refine M5 ?_; first | exact M7 | refine U8 rfl ?_ | refine U9 rfl rfl ?_ ?_))
    refine XE.retg tok Try.results17 rfl (by simp only [and_self, and_true]) (fun w' S => ?_)
    exact ⟨chkTV_of (chkT_6 hp4 h0 (by simp [h8])), S.toBelow⟩
  have h9 : (outB t.high (-20000) 20000 || outB t.low (t.b.row 0).level t.high) = false := by rw [e6, h8]; rfl
  repeat (first | (refine M0 ?_; first | refine O0 ?_ | refine z1 tok rfl ?_ | refine O1 rfl ?_ rfl | refine O2 rfl ?_ | refine O3 rfl ?_ rfl | refine O4 rfl rfl rfl (fun _ _ => ?_) | refine O5 tok rfl rfl rfl (fun _ _ => ?_) | refine U0 _ (U2 rfl) rfl ?_ | refine U0 _ (U3 tok rfl rfl rfl rfl rfl) rfl ?_ | refine z3 tok rfl ?_ | refine U0 _ (U4 rfl rfl) rfl ?_ | refine U0 _ (U5 rfl rfl) rfl ?_) | (refine M1 ?_; first | refine J0 ?_ | refine J1 ?_ | refine J2 mixed rfl (by kernel_rfl) ?_ | refine J3 mixed rfl rfl (by kernel_rfl) ?_ | refine J4 ?_ | refine J5 ?_ | refine J6 ?_ | refine J7 ?_ | refine J8 rfl ?_ | refine J9 rfl ?_) | (refine M2 ?_; first | refine I0 ?_ | refine I1 ?_ | refine I2 ?_ | refine I3 ?_ | refine I4 ?_ | refine I5 ?_ | refine I6 rfl ?_ | refine I7 ?_ | refine I8 ?_ | refine z4 ?_) | (refine M3 ?_; first | refine O6 ?_ | refine z2 tok rfl ?_ | refine O8 rfl ?_ | refine O7 rfl ?_ rfl | refine O9 rfl ?_ rfl | refine U1 _ (U4 rfl rfl) rfl ?_ | refine U1 _ (U5 rfl rfl) rfl ?_ | refine U1 _ (U2 rfl) rfl ?_ | refine U1 _ (U3 tok rfl rfl rfl rfl rfl) rfl ?_) | (refine M4 ?_; first | refine M6 ?_ | refine U6 rfl (by kernel_rfl) ?_ | refine U7 (by kernel_rfl) ?_) | (refine M5 ?_; first | exact M7 | refine U8 rfl ?_ | refine U9 rfl rfl ?_ ?_))
  refine XL.callF (DevsV t.devs) (vs := [.agg ⟨tskC ⟨⟨some ab, t.b.rows.length, cb, Ab2, nb2, cb2⟩, q, ⟨Ao, t.outer.length, co⟩, ⟨Ar, t.river.length, cr⟩, ⟨Ac, t.prices.length, cc⟩, su, pu, ⟨An, t.on.length, cn⟩⟩ t⟩]) (ck rfl) rfl rfl (Fam.start (ks := []) (Nat.le_refl w.heap.size)) (fun _ h => by cases h) (Below.refl w.heap.size w) (fun w1 S1 _ _ => devices_made (ht0.sys S1) hn) (fun w2 vd new hR hF2 hB2 hk2 => ?_)
  obtain ⟨⟨Ad, nd, cd⟩, rfl, rfl, hcap⟩ := hR
  have hF2 : Fam w2 w.heap.size [g1] [] [hList devK ⟨Ad, nd, cd⟩ t.devs] := hF2
  have hg1 : g1 < w2.heap.size := hk2 g1 (.head _)
  have hlsF : ListAt devK w2 (Free w2 w.heap.size [g1] []) ⟨Ad, nd, cd⟩ t.devs := hF2.held _ (.head _)
  have hnd := ListAt.len hlsF (by decide)
  simp only at hnd
  subst hnd
  have hls : ∀ (L : Lo) (w5 : World), Sys w.heap.size w2 L w5 → (∀ e, e ∈ L → e.1 ∈ [g1] ∨ w2.heap.size ≤ e.1) → ListAt devK w5 (Lt w5.heap.size) ⟨Ad, t.devs.length, cd⟩ t.devs := fun L w5 S5 hL => (Held.lt ((hF2.sys S5 hL).get (.head _)) : _)
  have hm := t.devs_len
  simp only [svV]
  repeat (first | (refine M0 ?_; first | refine O0 ?_ | refine z1 tok rfl ?_ | refine O1 rfl ?_ rfl | refine O2 rfl ?_ | refine O3 rfl ?_ rfl | refine U0 _ (Ev.call (f := 48) (ck rfl) rfl (fun w5 S5 => (kinds_any (hls _ w5 S5 (by intro e he; repeat (first | (cases he; done) | (rcases List.mem_cons.1 he with rfl | he; · first | (right; assumption) | (left; simp <;> fail))))) (by rw [hm]; unfold RTk.many; omega) :))) rfl ?_ | refine O4 rfl rfl rfl (fun _ _ => ?_) | refine O5 tok rfl rfl rfl (fun _ _ => ?_) | refine U0 _ (U2 rfl) rfl ?_ | refine U0 _ (U3 tok rfl rfl rfl rfl rfl) rfl ?_ | refine z3 tok rfl ?_ | refine U0 _ (U4 rfl rfl) rfl ?_ | refine U0 _ (U5 rfl rfl) rfl ?_) | (refine M1 ?_; first | refine J0 ?_ | refine J1 ?_ | refine J2 mixed rfl (by kernel_rfl) ?_ | refine J3 mixed rfl rfl (by kernel_rfl) ?_ | refine J4 ?_ | refine J5 ?_ | refine J6 ?_ | refine J7 ?_ | refine J8 rfl ?_ | refine J9 rfl ?_) | (refine M2 ?_; first | refine I0 ?_ | refine I1 ?_ | refine I2 ?_ | refine I3 ?_ | refine I4 ?_ | refine I5 ?_ | refine I6 rfl ?_ | refine I7 ?_ | refine I8 ?_ | refine z4 ?_) | (refine M3 ?_; first | refine O6 ?_ | refine z2 tok rfl ?_ | refine O8 rfl ?_ | refine O7 rfl ?_ rfl | refine O9 rfl ?_ rfl | refine U1 _ (Ev.call (f := 48) (ck rfl) rfl (fun w5 S5 => (kinds_any (hls _ w5 S5 (by intro e he; repeat (first | (cases he; done) | (rcases List.mem_cons.1 he with rfl | he; · first | (right; assumption) | (left; simp <;> fail))))) (by rw [hm]; unfold RTk.many; omega) :))) rfl ?_ | refine U1 _ (U4 rfl rfl) rfl ?_ | refine U1 _ (U5 rfl rfl) rfl ?_ | refine U1 _ (U2 rfl) rfl ?_ | refine U1 _ (U3 tok rfl rfl rfl rfl rfl) rfl ?_) | (refine M4 ?_; first | refine M6 ?_ | refine U6 rfl (by kernel_rfl) ?_ | refine U7 (by kernel_rfl) ?_) | (refine M5 ?_; first | exact M7 | refine U8 rfl ?_ | refine U9 rfl rfl ?_ ?_))
  rw [(count_devs t).1, (count_devs t).2]
  cases e7 : decide ((2 : Int) < (t.slu.length : Int)) with
  | true =>
    have e7' := of_decide_eq_true e7
    repeat (first | (refine M0 ?_; first | refine O0 ?_ | refine z1 tok rfl ?_ | refine O1 rfl ?_ rfl | refine O2 rfl ?_ | refine O3 rfl ?_ rfl | refine O4 rfl rfl rfl (fun _ _ => ?_) | refine O5 tok rfl rfl rfl (fun _ _ => ?_) | refine U0 _ (U2 rfl) rfl ?_ | refine U0 _ (U3 tok rfl rfl rfl rfl rfl) rfl ?_ | refine z3 tok rfl ?_ | refine U0 _ (U4 rfl rfl) rfl ?_ | refine U0 _ (U5 rfl rfl) rfl ?_) | (refine M1 ?_; first | refine J0 ?_ | refine J1 ?_ | refine J2 mixed rfl (by kernel_rfl) ?_ | refine J3 mixed rfl rfl (by kernel_rfl) ?_ | refine J4 ?_ | refine J5 ?_ | refine J6 ?_ | refine J7 ?_ | refine J8 rfl ?_ | refine J9 rfl ?_) | (refine M2 ?_; first | refine I0 ?_ | refine I1 ?_ | refine I2 ?_ | refine I3 ?_ | refine I4 ?_ | refine I5 ?_ | refine I6 rfl ?_ | refine I7 ?_ | refine I8 ?_ | refine z4 ?_) | (refine M3 ?_; first | refine O6 ?_ | refine z2 tok rfl ?_ | refine O8 rfl ?_ | refine O7 rfl ?_ rfl | refine O9 rfl ?_ rfl | refine U1 _ (U4 rfl rfl) rfl ?_ | refine U1 _ (U5 rfl rfl) rfl ?_ | refine U1 _ (U2 rfl) rfl ?_ | refine U1 _ (U3 tok rfl rfl rfl rfl rfl) rfl ?_) | (refine M4 ?_; first | refine M6 ?_ | refine U6 rfl (by kernel_rfl) ?_ | refine U7 (by kernel_rfl) ?_) | (refine M5 ?_; first | exact M7 | refine U8 rfl ?_ | refine U9 rfl rfl ?_ ?_))
    refine XE.retg tok Try.results17 rfl (by simp only [and_self, and_true]) (fun w' S => ?_)
    exact ⟨chkTV_of (chkT_7 hp4 h0 h9 (.inl (by omega))), hB2.trans S.toBelow⟩
  | false =>
  have e7' := of_decide_eq_false e7
  repeat (first | (refine M0 ?_; first | refine O0 ?_ | refine z1 tok rfl ?_ | refine O1 rfl ?_ rfl | refine O2 rfl ?_ | refine O3 rfl ?_ rfl | refine O4 rfl rfl rfl (fun _ _ => ?_) | refine O5 tok rfl rfl rfl (fun _ _ => ?_) | refine U0 _ (U2 rfl) rfl ?_ | refine U0 _ (U3 tok rfl rfl rfl rfl rfl) rfl ?_ | refine z3 tok rfl ?_ | refine U0 _ (U4 rfl rfl) rfl ?_ | refine U0 _ (U5 rfl rfl) rfl ?_) | (refine M1 ?_; first | refine J0 ?_ | refine J1 ?_ | refine J2 mixed rfl (by kernel_rfl) ?_ | refine J3 mixed rfl rfl (by kernel_rfl) ?_ | refine J4 ?_ | refine J5 ?_ | refine J6 ?_ | refine J7 ?_ | refine J8 rfl ?_ | refine J9 rfl ?_) | (refine M2 ?_; first | refine I0 ?_ | refine I1 ?_ | refine I2 ?_ | refine I3 ?_ | refine I4 ?_ | refine I5 ?_ | refine I6 rfl ?_ | refine I7 ?_ | refine I8 ?_ | refine z4 ?_) | (refine M3 ?_; first | refine O6 ?_ | refine z2 tok rfl ?_ | refine O8 rfl ?_ | refine O7 rfl ?_ rfl | refine O9 rfl ?_ rfl | refine U1 _ (U4 rfl rfl) rfl ?_ | refine U1 _ (U5 rfl rfl) rfl ?_ | refine U1 _ (U2 rfl) rfl ?_ | refine U1 _ (U3 tok rfl rfl rfl rfl rfl) rfl ?_) | (refine M4 ?_; first | refine M6 ?_ | refine U6 rfl (by kernel_rfl) ?_ | refine U7 (by kernel_rfl) ?_) | (refine M5 ?_; first | exact M7 | refine U8 rfl ?_ | refine U9 rfl rfl ?_ ?_))
  refine XC.cond _ rfl (fun h7 => ?_) (fun h7 => ?_)
  · repeat (first | (refine M0 ?_; first | refine O0 ?_ | refine z1 tok rfl ?_ | refine O1 rfl ?_ rfl | refine O2 rfl ?_ | refine O3 rfl ?_ rfl | refine O4 rfl rfl rfl (fun _ _ => ?_) | refine O5 tok rfl rfl rfl (fun _ _ => ?_) | refine U0 _ (U2 rfl) rfl ?_ | refine U0 _ (U3 tok rfl rfl rfl rfl rfl) rfl ?_ | refine z3 tok rfl ?_ | refine U0 _ (U4 rfl rfl) rfl ?_ | refine U0 _ (U5 rfl rfl) rfl ?_) | (refine M1 ?_; first | refine J0 ?_ | refine J1 ?_ | refine J2 mixed rfl (by kernel_rfl) ?_ | refine J3 mixed rfl rfl (by kernel_rfl) ?_ | refine J4 ?_ | refine J5 ?_ | refine J6 ?_ | refine J7 ?_ | refine J8 rfl ?_ | refine J9 rfl ?_) | (refine M2 ?_; first | refine I0 ?_ | refine I1 ?_ | refine I2 ?_ | refine I3 ?_ | refine I4 ?_ | refine I5 ?_ | refine I6 rfl ?_ | refine I7 ?_ | refine I8 ?_ | refine z4 ?_) | (refine M3 ?_; first | refine O6 ?_ | refine z2 tok rfl ?_ | refine O8 rfl ?_ | refine O7 rfl ?_ rfl | refine O9 rfl ?_ rfl | refine U1 _ (U4 rfl rfl) rfl ?_ | refine U1 _ (U5 rfl rfl) rfl ?_ | refine U1 _ (U2 rfl) rfl ?_ | refine U1 _ (U3 tok rfl rfl rfl rfl rfl) rfl ?_) | (refine M4 ?_; first | refine M6 ?_ | refine U6 rfl (by kernel_rfl) ?_ | refine U7 (by kernel_rfl) ?_) | (refine M5 ?_; first | exact M7 | refine U8 rfl ?_ | refine U9 rfl rfl ?_ ?_))
    refine XE.retg tok Try.results17 rfl (by simp only [and_self, and_true]) (fun w' S => ?_)
    exact ⟨chkTV_of (chkT_7 hp4 h0 h9 (.inr (by have := of_decide_eq_true h7; omega))), hB2.trans S.toBelow⟩
  have h22 : ¬ (2 < t.slu.length ∨ 2 < t.pmp.length) := by have := of_decide_eq_false h7; omega
  have hm4 : t.devs.length ≤ 4 := by rw [hm]; unfold RTk.many; omega
  repeat (first | (refine M0 ?_; first | refine O0 ?_ | refine z1 tok rfl ?_ | refine O1 rfl ?_ rfl | refine O2 rfl ?_ | refine O3 rfl ?_ rfl | refine O4 rfl rfl rfl (fun _ _ => ?_) | refine O5 tok rfl rfl rfl (fun _ _ => ?_) | refine U0 _ (U2 rfl) rfl ?_ | refine U0 _ (U3 tok rfl rfl rfl rfl rfl) rfl ?_ | refine z3 tok rfl ?_ | refine U0 _ (U4 rfl rfl) rfl ?_ | refine U0 _ (U5 rfl rfl) rfl ?_) | (refine M1 ?_; first | refine J0 ?_ | refine J1 ?_ | refine J2 mixed rfl (by kernel_rfl) ?_ | refine J3 mixed rfl rfl (by kernel_rfl) ?_ | refine J4 ?_ | refine J5 ?_ | refine J6 ?_ | refine J7 ?_ | refine J8 rfl ?_ | refine J9 rfl ?_) | (refine M2 ?_; first | refine I0 ?_ | refine I1 ?_ | refine I2 ?_ | refine I3 ?_ | refine I4 ?_ | refine I5 ?_ | refine I6 rfl ?_ | refine I7 ?_ | refine I8 ?_ | refine z4 ?_) | (refine M3 ?_; first | refine O6 ?_ | refine z2 tok rfl ?_ | refine O8 rfl ?_ | refine O7 rfl ?_ rfl | refine O9 rfl ?_ rfl | refine U1 _ (U4 rfl rfl) rfl ?_ | refine U1 _ (U5 rfl rfl) rfl ?_ | refine U1 _ (U2 rfl) rfl ?_ | refine U1 _ (U3 tok rfl rfl rfl rfl rfl) rfl ?_) | (refine M4 ?_; first | refine M6 ?_ | refine U6 rfl (by kernel_rfl) ?_ | refine U7 (by kernel_rfl) ?_) | (refine M5 ?_; first | exact M7 | refine U8 rfl ?_ | refine U9 rfl rfl ?_ ?_))
  refine XC.loopk [1, 8, 107, 108] rfl (fun k : Nat => [(109, .int .i64 (k : Nat))]) (fun _ => [(g1, _)]) (fun _ => w2) (fun k => k ≤ t.devs.length ∧ ∀ j, j < k → devErr t.devs j = 0) (fun k => t.devs.length - k) 0 ⟨Nat.zero_le _, fun j h => absurd h (by omega)⟩ (by repeat (first | exact Sub.nil | refine Sub.cons rfl ?_)) (fun _ h => h) ?_
  rintro k ⟨hk, hd0⟩
  dsimp only [List.cons_append, List.nil_append]
  repeat (first | (refine M0 ?_; first | refine O0 ?_ | refine z1 tok rfl ?_ | refine O1 rfl ?_ rfl | refine O2 rfl ?_ | refine O3 rfl ?_ rfl | refine O4 rfl rfl rfl (fun _ _ => ?_) | refine O5 tok rfl rfl rfl (fun _ _ => ?_) | refine U0 _ (U2 rfl) rfl ?_ | refine U0 _ (U3 tok rfl rfl rfl rfl rfl) rfl ?_ | refine z3 tok rfl ?_ | refine U0 _ (U4 rfl rfl) rfl ?_ | refine U0 _ (U5 rfl rfl) rfl ?_) | (refine M1 ?_; first | refine J0 ?_ | refine J1 ?_ | refine J2 mixed rfl (by kernel_rfl) ?_ | refine J3 mixed rfl rfl (by kernel_rfl) ?_ | refine J4 ?_ | refine J5 ?_ | refine J6 ?_ | refine J7 ?_ | refine J8 rfl ?_ | refine J9 rfl ?_) | (refine M2 ?_; first | refine I0 ?_ | refine I1 ?_ | refine I2 ?_ | refine I3 ?_ | refine I4 ?_ | refine I5 ?_ | refine I6 rfl ?_ | refine I7 ?_ | refine I8 ?_ | refine z4 ?_) | (refine M3 ?_; first | refine O6 ?_ | refine z2 tok rfl ?_ | refine O8 rfl ?_ | refine O7 rfl ?_ rfl | refine O9 rfl ?_ rfl | refine U1 _ (U4 rfl rfl) rfl ?_ | refine U1 _ (U5 rfl rfl) rfl ?_ | refine U1 _ (U2 rfl) rfl ?_ | refine U1 _ (U3 tok rfl rfl rfl rfl rfl) rfl ?_) | (refine M4 ?_; first | refine M6 ?_ | refine U6 rfl (by kernel_rfl) ?_ | refine U7 (by kernel_rfl) ?_) | (refine M5 ?_; first | exact M7 | refine U8 rfl ?_ | refine U9 rfl rfl ?_ ?_))
  refine XC.cond _ rfl (fun h10 => ?_) (fun h10 => ?_)
  · have hkn : k < t.devs.length := by simpa using h10
    obtain ⟨ad, rfl, hfl⟩ := ListAt.addr hlsF (by decide) (by omega)
    have hdk : t.devs[k]? = some t.devs[k] := List.getElem?_eq_getElem hkn
    have hc0 := ListAt.elem hlsF hdk 0 (devV t.devs[k]) rfl
    rw [add_add, Nat.add_zero] at hc0
    have hc : w2.cell? (ad.add (k * 1)) = some (devV t.devs[k]) := hc0
    have hnm := hnam t.devs[k] (List.getElem_mem hkn)
    have hta := take_any hkn
    have hgd : t.devs[k]?.getD d0 = t.devs[k] := by rw [hdk]; rfl
    have hcapk : k ≤ cd := by have := hcap (by omega); simp only at this; omega
    obtain ⟨d, hd⟩ : ∃ d, d = t.devs[k] := ⟨_, rfl⟩
    rw [← hd] at hc hnm hta hgd
    have hblk : ad.block < w2.heap.size := hfl.2.1
    have hne1 : ad.block ≠ g1 := fun e => hfl.2.2.1 (by rw [e]; exact .head _)
    obtain ⟨f1, m1, k1, c1⟩ := dev_name d
    obtain ⟨f2, m2, k2, c2⟩ := dev_wild d
    have e6 : nameB d.name = false → devErr t.devs k = 6 := fun h => devErr_6 (by rw [hgd]; exact h)
    repeat (first | (refine M0 ?_; first | refine O0 ?_ | refine z1 tok rfl ?_ | refine O1 rfl ?_ rfl | refine O2 rfl ?_ | refine O3 rfl ?_ rfl | refine U0 _ (Ev.load_far tok rfl rfl (add_lt hblk) (Free.far hfl (by intro e he; left; rw [List.mem_singleton.1 he]; exact .head _)) hc) rfl ?_ | refine O4 rfl rfl rfl (fun _ _ => ?_) | refine O5 tok rfl rfl rfl (fun _ _ => ?_) | refine U0 _ (U2 rfl) rfl ?_ | refine U0 _ (U3 tok rfl rfl rfl rfl rfl) rfl ?_ | refine z3 tok rfl ?_ | refine U0 _ (U4 rfl rfl) rfl ?_ | refine U0 _ (U5 rfl rfl) rfl ?_) | (refine M1 ?_; first | refine J0 ?_ | refine J1 ?_ | refine J2 mixed rfl (by kernel_rfl) ?_ | refine J3 mixed rfl rfl (by kernel_rfl) ?_ | refine J4 ?_ | refine J5 ?_ | refine J6 ?_ | refine J7 ?_ | refine J8 rfl ?_ | refine J9 rfl ?_) | (refine M2 ?_; first | refine I0 ?_ | refine I1 ?_ | refine I2 ?_ | refine I3 ?_ | refine I4 ?_ | refine I5 ?_ | refine I6 rfl ?_ | refine I7 ?_ | refine I8 ?_ | refine z4 ?_) | (refine M3 ?_; first | refine O6 ?_ | refine z2 tok rfl ?_ | refine O8 rfl ?_ | refine O7 rfl ?_ rfl | refine O9 rfl ?_ rfl | refine U1 _ (Ev.load_far tok rfl rfl (add_lt hblk) (Free.far hfl (by intro e he; left; rw [List.mem_singleton.1 he]; exact .head _)) hc) rfl ?_ | refine U1 _ (U4 rfl rfl) rfl ?_ | refine U1 _ (U5 rfl rfl) rfl ?_ | refine U1 _ (U2 rfl) rfl ?_ | refine U1 _ (U3 tok rfl rfl rfl rfl rfl) rfl ?_) | (refine M4 ?_; first | refine M6 ?_ | refine U6 rfl (by kernel_rfl) ?_ | refine U7 (by kernel_rfl) ?_) | (refine M5 ?_; first | exact M7 | refine U8 rfl ?_ | refine U9 rfl rfl ?_ ?_))
    rename_i g12 hg12
    have hL12 : ∀ (o o2 : Obj) (e : Nat × Obj), e ∈ [(g12, o), (g1, o2)] → e.1 ∈ [g1] ∨ w2.heap.size ≤ e.1 := fun o o2 e he => by
      rcases List.mem_cons.1 he with rfl | he
      · exact .inr hg12
      · rw [List.mem_singleton.1 he]; exact .inl (.head _)
    cases e8 : nameB d.name with
    | false =>
      have ncall := fun (w : World) => (name_any d.name hnm w)
      rw [e8] at ncall
      repeat (first | (refine M0 ?_; first | refine O0 ?_ | refine z1 tok rfl ?_ | refine O1 rfl ?_ rfl | refine O2 rfl ?_ | refine O3 rfl ?_ rfl | refine U0 _ (Ev.invoke (t := d.ty) (v := .agg ⟨d.c⟩) m1 k1 rfl rfl (fun w S => c1 w)) rfl ?_ | refine U0 _ (Ev.call (f := 49) (ck rfl) rfl (fun w _ => ncall w)) rfl ?_ | refine O4 rfl rfl rfl (fun _ _ => ?_) | refine O5 tok rfl rfl rfl (fun _ _ => ?_) | refine U0 _ (U2 rfl) rfl ?_ | refine U0 _ (U3 tok rfl rfl rfl rfl rfl) rfl ?_ | refine z3 tok rfl ?_ | refine U0 _ (U4 rfl rfl) rfl ?_ | refine U0 _ (U5 rfl rfl) rfl ?_) | (refine M1 ?_; first | refine J0 ?_ | refine J1 ?_ | refine J2 mixed rfl (by kernel_rfl) ?_ | refine J3 mixed rfl rfl (by kernel_rfl) ?_ | refine J4 ?_ | refine J5 ?_ | refine J6 ?_ | refine J7 ?_ | refine J8 rfl ?_ | refine J9 rfl ?_) | (refine M2 ?_; first | refine I0 ?_ | refine I1 ?_ | refine I2 ?_ | refine I3 ?_ | refine I4 ?_ | refine I5 ?_ | refine I6 rfl ?_ | refine I7 ?_ | refine I8 ?_ | refine z4 ?_) | (refine M3 ?_; first | refine O6 ?_ | refine z2 tok rfl ?_ | refine O8 rfl ?_ | refine O7 rfl ?_ rfl | refine O9 rfl ?_ rfl | refine U1 _ (Ev.invoke (t := d.ty) (v := .agg ⟨d.c⟩) m1 k1 rfl rfl (fun w S => c1 w)) rfl ?_ | refine U1 _ (Ev.call (f := 49) (ck rfl) rfl (fun w _ => ncall w)) rfl ?_ | refine U1 _ (U4 rfl rfl) rfl ?_ | refine U1 _ (U5 rfl rfl) rfl ?_ | refine U1 _ (U2 rfl) rfl ?_ | refine U1 _ (U3 tok rfl rfl rfl rfl rfl) rfl ?_) | (refine M4 ?_; first | refine M6 ?_ | refine U6 rfl (by kernel_rfl) ?_ | refine U7 (by kernel_rfl) ?_) | (refine M5 ?_; first | exact M7 | refine U8 rfl ?_ | refine U9 rfl rfl ?_ ?_))
      refine XE.retg tok Try.results17 rfl (by simp only [and_self, and_true]) (fun w' S => ?_)
      exact ⟨chkTV_of (chkT_8 hp4 h0 h9 h22 hkn hd0 (devErr_6 (by rw [hgd]; exact e8)) (by decide)), hB2.trans S.toBelow⟩
    | true =>
    have ncall := fun (w : World) => (name_any d.name hnm w)
    rw [e8] at ncall
    repeat (first | (refine M0 ?_; first | refine O0 ?_ | refine z1 tok rfl ?_ | refine O1 rfl ?_ rfl | refine O2 rfl ?_ | refine O3 rfl ?_ rfl | refine U0 _ (Ev.invoke (t := d.ty) (v := .agg ⟨d.c⟩) m1 k1 rfl rfl (fun w S => c1 w)) rfl ?_ | refine U0 _ (Ev.call (f := 49) (ck rfl) rfl (fun w _ => ncall w)) rfl ?_ | refine U0 _ (Ev.slice_hi tok k rfl rfl rfl rfl hcapk) rfl ?_ | refine U0 _ (Ev.makeFunc rfl rfl) rfl ?_ | refine O4 rfl rfl rfl (fun _ _ => ?_) | refine O5 tok rfl rfl rfl (fun _ _ => ?_) | refine U0 _ (U2 rfl) rfl ?_ | refine U0 _ (U3 tok rfl rfl rfl rfl rfl) rfl ?_ | refine z3 tok rfl ?_ | refine U0 _ (U4 rfl rfl) rfl ?_ | refine U0 _ (U5 rfl rfl) rfl ?_) | (refine M1 ?_; first | refine J0 ?_ | refine J1 ?_ | refine J2 mixed rfl (by kernel_rfl) ?_ | refine J3 mixed rfl rfl (by kernel_rfl) ?_ | refine J4 ?_ | refine J5 ?_ | refine J6 ?_ | refine J7 ?_ | refine J8 rfl ?_ | refine J9 rfl ?_) | (refine M2 ?_; first | refine I0 ?_ | refine I1 ?_ | refine I2 ?_ | refine I3 ?_ | refine I4 ?_ | refine I5 ?_ | refine I6 rfl ?_ | refine I7 ?_ | refine I8 ?_ | refine z4 ?_) | (refine M3 ?_; first | refine O6 ?_ | refine z2 tok rfl ?_ | refine O8 rfl ?_ | refine O7 rfl ?_ rfl | refine O9 rfl ?_ rfl | refine U1 _ (Ev.invoke (t := d.ty) (v := .agg ⟨d.c⟩) m1 k1 rfl rfl (fun w S => c1 w)) rfl ?_ | refine U1 _ (Ev.call (f := 49) (ck rfl) rfl (fun w _ => ncall w)) rfl ?_ | refine U1 _ (Ev.slice_hi tok k rfl rfl rfl rfl hcapk) rfl ?_ | refine U1 _ (Ev.makeFunc rfl rfl) rfl ?_ | refine U1 _ (U4 rfl rfl) rfl ?_ | refine U1 _ (U5 rfl rfl) rfl ?_ | refine U1 _ (U2 rfl) rfl ?_ | refine U1 _ (U3 tok rfl rfl rfl rfl rfl) rfl ?_) | (refine M4 ?_; first | refine M6 ?_ | refine U6 rfl (by kernel_rfl) ?_ | refine U7 (by kernel_rfl) ?_) | (refine M5 ?_; first | exact M7 | refine U8 rfl ?_ | refine U9 rfl rfl ?_ ?_))
    refine XL.step _ (Ev.call (f := 50) (ck rfl) rfl (fun w5 S5 => (contDev (f := 51) (cap := [.pointer (some ⟨g12, 0, none⟩)]) (P := fun c => decide (c.name = d.name)) (r := ⟨some ad, k, cd⟩) (ms := t.devs.take k) (ck rfl) ((hls _ w5 S5 (hL12 _ _)).take (by omega) (by decide)) (by rw [List.length_take]; omega) (fun m _ w' hb => rncheck1_any (g := g12) (c := m) (d := d) ((hb.block g12 (S5.lt (e := (g12, _)) (.head _))).trans (S5.own (g12, _) (.head _)).2)) :))) rfl ?_
    repeat (first | (refine M0 ?_; first | refine O0 ?_ | refine z1 tok rfl ?_ | refine O1 rfl ?_ rfl | refine O2 rfl ?_ | refine O3 rfl ?_ rfl | refine O4 rfl rfl rfl (fun _ _ => ?_) | refine O5 tok rfl rfl rfl (fun _ _ => ?_) | refine U0 _ (U2 rfl) rfl ?_ | refine U0 _ (U3 tok rfl rfl rfl rfl rfl) rfl ?_ | refine z3 tok rfl ?_ | refine U0 _ (U4 rfl rfl) rfl ?_ | refine U0 _ (U5 rfl rfl) rfl ?_) | (refine M1 ?_; first | refine J0 ?_ | refine J1 ?_ | refine J2 mixed rfl (by kernel_rfl) ?_ | refine J3 mixed rfl rfl (by kernel_rfl) ?_ | refine J4 ?_ | refine J5 ?_ | refine J6 ?_ | refine J7 ?_ | refine J8 rfl ?_ | refine J9 rfl ?_) | (refine M2 ?_; first | refine I0 ?_ | refine I1 ?_ | refine I2 ?_ | refine I3 ?_ | refine I4 ?_ | refine I5 ?_ | refine I6 rfl ?_ | refine I7 ?_ | refine I8 ?_ | refine z4 ?_) | (refine M3 ?_; first | refine O6 ?_ | refine z2 tok rfl ?_ | refine O8 rfl ?_ | refine O7 rfl ?_ rfl | refine O9 rfl ?_ rfl | refine U1 _ (U4 rfl rfl) rfl ?_ | refine U1 _ (U5 rfl rfl) rfl ?_ | refine U1 _ (U2 rfl) rfl ?_ | refine U1 _ (U3 tok rfl rfl rfl rfl rfl) rfl ?_) | (refine M4 ?_; first | refine M6 ?_ | refine U6 rfl (by kernel_rfl) ?_ | refine U7 (by kernel_rfl) ?_) | (refine M5 ?_; first | exact M7 | refine U8 rfl ?_ | refine U9 rfl rfl ?_ ?_))
    refine XC.cond _ rfl (fun h11 => ?_) (fun h11 => ?_)
    · obtain ⟨k3, hk3, hnn⟩ := hta.1 h11
      repeat (first | (refine M0 ?_; first | refine O0 ?_ | refine z1 tok rfl ?_ | refine O1 rfl ?_ rfl | refine O2 rfl ?_ | refine O3 rfl ?_ rfl | refine O4 rfl rfl rfl (fun _ _ => ?_) | refine O5 tok rfl rfl rfl (fun _ _ => ?_) | refine U0 _ (U2 rfl) rfl ?_ | refine U0 _ (U3 tok rfl rfl rfl rfl rfl) rfl ?_ | refine z3 tok rfl ?_ | refine U0 _ (U4 rfl rfl) rfl ?_ | refine U0 _ (U5 rfl rfl) rfl ?_) | (refine M1 ?_; first | refine J0 ?_ | refine J1 ?_ | refine J2 mixed rfl (by kernel_rfl) ?_ | refine J3 mixed rfl rfl (by kernel_rfl) ?_ | refine J4 ?_ | refine J5 ?_ | refine J6 ?_ | refine J7 ?_ | refine J8 rfl ?_ | refine J9 rfl ?_) | (refine M2 ?_; first | refine I0 ?_ | refine I1 ?_ | refine I2 ?_ | refine I3 ?_ | refine I4 ?_ | refine I5 ?_ | refine I6 rfl ?_ | refine I7 ?_ | refine I8 ?_ | refine z4 ?_) | (refine M3 ?_; first | refine O6 ?_ | refine z2 tok rfl ?_ | refine O8 rfl ?_ | refine O7 rfl ?_ rfl | refine O9 rfl ?_ rfl | refine U1 _ (U4 rfl rfl) rfl ?_ | refine U1 _ (U5 rfl rfl) rfl ?_ | refine U1 _ (U2 rfl) rfl ?_ | refine U1 _ (U3 tok rfl rfl rfl rfl rfl) rfl ?_) | (refine M4 ?_; first | refine M6 ?_ | refine U6 rfl (by kernel_rfl) ?_ | refine U7 (by kernel_rfl) ?_) | (refine M5 ?_; first | exact M7 | refine U8 rfl ?_ | refine U9 rfl rfl ?_ ?_))
      refine XE.retg tok Try.results17 rfl (by simp only [and_self, and_true]) (fun w' S => ?_)
      exact ⟨chkTV_of (chkT_8 hp4 h0 h9 h22 hkn hd0 (devErr_5 (by rw [hgd]; exact e8) k3 hk3 hnn) (by decide)), hB2.trans S.toBelow⟩
    have hno : ∀ k3, k3 < k → (t.devs[k3]?.getD d0).name ≠ (t.devs[k]?.getD d0).name := fun k3 hk3 hnn => by
      have := hta.2 ⟨k3, hk3, hnn⟩
      rw [this] at h11
      cases h11
    repeat (first | (refine M0 ?_; first | refine O0 ?_ | refine z1 tok rfl ?_ | refine O1 rfl ?_ rfl | refine O2 rfl ?_ | refine O3 rfl ?_ rfl | refine U0 _ (Ev.invoke (t := d.ty) (v := .agg ⟨d.c⟩) m2 k2 rfl rfl (fun w S => c2 w)) rfl ?_ | refine O4 rfl rfl rfl (fun _ _ => ?_) | refine O5 tok rfl rfl rfl (fun _ _ => ?_) | refine U0 _ (U2 rfl) rfl ?_ | refine U0 _ (U3 tok rfl rfl rfl rfl rfl) rfl ?_ | refine z3 tok rfl ?_ | refine U0 _ (U4 rfl rfl) rfl ?_ | refine U0 _ (U5 rfl rfl) rfl ?_) | (refine M1 ?_; first | refine J0 ?_ | refine J1 ?_ | refine J2 mixed rfl (by kernel_rfl) ?_ | refine J3 mixed rfl rfl (by kernel_rfl) ?_ | refine J4 ?_ | refine J5 ?_ | refine J6 ?_ | refine J7 ?_ | refine J8 rfl ?_ | refine J9 rfl ?_) | (refine M2 ?_; first | refine I0 ?_ | refine I1 ?_ | refine I2 ?_ | refine I3 ?_ | refine I4 ?_ | refine I5 ?_ | refine I6 rfl ?_ | refine I7 ?_ | refine I8 ?_ | refine z4 ?_) | (refine M3 ?_; first | refine O6 ?_ | refine z2 tok rfl ?_ | refine O8 rfl ?_ | refine O7 rfl ?_ rfl | refine O9 rfl ?_ rfl | refine U1 _ (Ev.invoke (t := d.ty) (v := .agg ⟨d.c⟩) m2 k2 rfl rfl (fun w S => c2 w)) rfl ?_ | refine U1 _ (U4 rfl rfl) rfl ?_ | refine U1 _ (U5 rfl rfl) rfl ?_ | refine U1 _ (U2 rfl) rfl ?_ | refine U1 _ (U3 tok rfl rfl rfl rfl rfl) rfl ?_) | (refine M4 ?_; first | refine M6 ?_ | refine U6 rfl (by kernel_rfl) ?_ | refine U7 (by kernel_rfl) ?_) | (refine M5 ?_; first | exact M7 | refine U8 rfl ?_ | refine U9 rfl rfl ?_ ?_))
    refine XC.cond _ rfl (fun h12 => ?_) (fun h12 => ?_)
    · repeat (first | (refine M0 ?_; first | refine O0 ?_ | refine z1 tok rfl ?_ | refine O1 rfl ?_ rfl | refine O2 rfl ?_ | refine O3 rfl ?_ rfl | refine O4 rfl rfl rfl (fun _ _ => ?_) | refine O5 tok rfl rfl rfl (fun _ _ => ?_) | refine U0 _ (U2 rfl) rfl ?_ | refine U0 _ (U3 tok rfl rfl rfl rfl rfl) rfl ?_ | refine z3 tok rfl ?_ | refine U0 _ (U4 rfl rfl) rfl ?_ | refine U0 _ (U5 rfl rfl) rfl ?_) | (refine M1 ?_; first | refine J0 ?_ | refine J1 ?_ | refine J2 mixed rfl (by kernel_rfl) ?_ | refine J3 mixed rfl rfl (by kernel_rfl) ?_ | refine J4 ?_ | refine J5 ?_ | refine J6 ?_ | refine J7 ?_ | refine J8 rfl ?_ | refine J9 rfl ?_) | (refine M2 ?_; first | refine I0 ?_ | refine I1 ?_ | refine I2 ?_ | refine I3 ?_ | refine I4 ?_ | refine I5 ?_ | refine I6 rfl ?_ | refine I7 ?_ | refine I8 ?_ | refine z4 ?_) | (refine M3 ?_; first | refine O6 ?_ | refine z2 tok rfl ?_ | refine O8 rfl ?_ | refine O7 rfl ?_ rfl | refine O9 rfl ?_ rfl | refine U1 _ (U4 rfl rfl) rfl ?_ | refine U1 _ (U5 rfl rfl) rfl ?_ | refine U1 _ (U2 rfl) rfl ?_ | refine U1 _ (U3 tok rfl rfl rfl rfl rfl) rfl ?_) | (refine M4 ?_; first | refine M6 ?_ | refine U6 rfl (by kernel_rfl) ?_ | refine U7 (by kernel_rfl) ?_) | (refine M5 ?_; first | exact M7 | refine U8 rfl ?_ | refine U9 rfl rfl ?_ ?_))
      refine XE.retg tok Try.results17 rfl (by simp only [and_self, and_true]) (fun w' S => ?_)
      exact ⟨chkTV_of (chkT_8 hp4 h0 h9 h22 hkn hd0 (devErr_7 (by rw [hgd]; exact e8) hno (by rw [hgd]; exact h12)) (by decide)), hB2.trans S.toBelow⟩
    repeat (first | (refine M0 ?_; first | refine O0 ?_ | refine z1 tok rfl ?_ | refine O1 rfl ?_ rfl | refine O2 rfl ?_ | refine O3 rfl ?_ rfl | refine O4 rfl rfl rfl (fun _ _ => ?_) | refine O5 tok rfl rfl rfl (fun _ _ => ?_) | refine U0 _ (U2 rfl) rfl ?_ | refine U0 _ (U3 tok rfl rfl rfl rfl rfl) rfl ?_ | refine z3 tok rfl ?_ | refine U0 _ (U4 rfl rfl) rfl ?_ | refine U0 _ (U5 rfl rfl) rfl ?_) | (refine M1 ?_; first | refine J0 ?_ | refine J1 ?_ | refine J2 mixed rfl (by kernel_rfl) ?_ | refine J3 mixed rfl rfl (by kernel_rfl) ?_ | refine J4 ?_ | refine J5 ?_ | refine J6 ?_ | refine J7 ?_ | refine J8 rfl ?_ | refine J9 rfl ?_) | (refine M2 ?_; first | refine I0 ?_ | refine I1 ?_ | refine I2 ?_ | refine I3 ?_ | refine I4 ?_ | refine I5 ?_ | refine I6 rfl ?_ | refine I7 ?_ | refine I8 ?_ | refine z4 ?_) | (refine M3 ?_; first | refine O6 ?_ | refine z2 tok rfl ?_ | refine O8 rfl ?_ | refine O7 rfl ?_ rfl | refine O9 rfl ?_ rfl | refine U1 _ (U4 rfl rfl) rfl ?_ | refine U1 _ (U5 rfl rfl) rfl ?_ | refine U1 _ (U2 rfl) rfl ?_ | refine U1 _ (U3 tok rfl rfl rfl rfl rfl) rfl ?_) | (refine M4 ?_; first | refine M6 ?_ | refine U6 rfl (by kernel_rfl) ?_ | refine U7 (by kernel_rfl) ?_) | (refine M5 ?_; first | exact M7 | refine U8 rfl ?_ | refine U9 rfl rfl ?_ ?_))
    refine XE.round (k + 1) ⟨hkn, fun j hj => ?_⟩ (by omega) (by repeat (first | exact Sub.nil | refine Sub.cons rfl ?_)) (fun _ h => h.pop hg12)
    by_cases e : j = k
    · subst e; exact devErr_0 (by rw [hgd]; exact e8) hno (by rw [hgd]; exact h12)
    · exact hd0 j (by omega)
  have hkn : k = t.devs.length := by have : ¬ (k < t.devs.length) := by simpa using h10
                                     omega
  subst hkn
  repeat (first | (refine M0 ?_; first | refine O0 ?_ | refine z1 tok rfl ?_ | refine O1 rfl ?_ rfl | refine O2 rfl ?_ | refine O3 rfl ?_ rfl | refine O4 rfl rfl rfl (fun _ _ => ?_) | refine O5 tok rfl rfl rfl (fun _ _ => ?_) | refine U0 _ (U2 rfl) rfl ?_ | refine U0 _ (U3 tok rfl rfl rfl rfl rfl) rfl ?_ | refine z3 tok rfl ?_ | refine U0 _ (U4 rfl rfl) rfl ?_ | refine U0 _ (U5 rfl rfl) rfl ?_) | (refine M1 ?_; first | refine J0 ?_ | refine J1 ?_ | refine J2 mixed rfl (by kernel_rfl) ?_ | refine J3 mixed rfl rfl (by kernel_rfl) ?_ | refine J4 ?_ | refine J5 ?_ | refine J6 ?_ | refine J7 ?_ | refine J8 rfl ?_ | refine J9 rfl ?_) | (refine M2 ?_; first | refine I0 ?_ | refine I1 ?_ | refine I2 ?_ | refine I3 ?_ | refine I4 ?_ | refine I5 ?_ | refine I6 rfl ?_ | refine I7 ?_ | refine I8 ?_ | refine z4 ?_) | (refine M3 ?_; first | refine O6 ?_ | refine z2 tok rfl ?_ | refine O8 rfl ?_ | refine O7 rfl ?_ rfl | refine O9 rfl ?_ rfl | refine U1 _ (U4 rfl rfl) rfl ?_ | refine U1 _ (U5 rfl rfl) rfl ?_ | refine U1 _ (U2 rfl) rfl ?_ | refine U1 _ (U3 tok rfl rfl rfl rfl rfl) rfl ?_) | (refine M4 ?_; first | refine M6 ?_ | refine U6 rfl (by kernel_rfl) ?_ | refine U7 (by kernel_rfl) ?_) | (refine M5 ?_; first | exact M7 | refine U8 rfl ?_ | refine U9 rfl rfl ?_ ?_))
  refine XC.cond _ rfl (fun h11 => ?_) (fun h11 => ?_)
  · repeat (first | (refine M0 ?_; first | refine O0 ?_ | refine z1 tok rfl ?_ | refine O1 rfl ?_ rfl | refine O2 rfl ?_ | refine O3 rfl ?_ rfl | refine O4 rfl rfl rfl (fun _ _ => ?_) | refine O5 tok rfl rfl rfl (fun _ _ => ?_) | refine U0 _ (U2 rfl) rfl ?_ | refine U0 _ (U3 tok rfl rfl rfl rfl rfl) rfl ?_ | refine z3 tok rfl ?_ | refine U0 _ (U4 rfl rfl) rfl ?_ | refine U0 _ (U5 rfl rfl) rfl ?_) | (refine M1 ?_; first | refine J0 ?_ | refine J1 ?_ | refine J2 mixed rfl (by kernel_rfl) ?_ | refine J3 mixed rfl rfl (by kernel_rfl) ?_ | refine J4 ?_ | refine J5 ?_ | refine J6 ?_ | refine J7 ?_ | refine J8 rfl ?_ | refine J9 rfl ?_) | (refine M2 ?_; first | refine I0 ?_ | refine I1 ?_ | refine I2 ?_ | refine I3 ?_ | refine I4 ?_ | refine I5 ?_ | refine I6 rfl ?_ | refine I7 ?_ | refine I8 ?_ | refine z4 ?_) | (refine M3 ?_; first | refine O6 ?_ | refine z2 tok rfl ?_ | refine O8 rfl ?_ | refine O7 rfl ?_ rfl | refine O9 rfl ?_ rfl | refine U1 _ (U4 rfl rfl) rfl ?_ | refine U1 _ (U5 rfl rfl) rfl ?_ | refine U1 _ (U2 rfl) rfl ?_ | refine U1 _ (U3 tok rfl rfl rfl rfl rfl) rfl ?_) | (refine M4 ?_; first | refine M6 ?_ | refine U6 rfl (by kernel_rfl) ?_ | refine U7 (by kernel_rfl) ?_) | (refine M5 ?_; first | exact M7 | refine U8 rfl ?_ | refine U9 rfl rfl ?_ ?_))
    refine XE.retg tok Try.results17 rfl (by simp only [and_self, and_true]) (fun w' S => ?_)
    exact ⟨chkTV_of (chkT_9 hp4 h0 h9 h22 hd0 (by have := of_decide_eq_true h11; omega)), hB2.trans S.toBelow⟩
  · repeat (first | (refine M0 ?_; first | refine O0 ?_ | refine z1 tok rfl ?_ | refine O1 rfl ?_ rfl | refine O2 rfl ?_ | refine O3 rfl ?_ rfl | refine O4 rfl rfl rfl (fun _ _ => ?_) | refine O5 tok rfl rfl rfl (fun _ _ => ?_) | refine U0 _ (U2 rfl) rfl ?_ | refine U0 _ (U3 tok rfl rfl rfl rfl rfl) rfl ?_ | refine z3 tok rfl ?_ | refine U0 _ (U4 rfl rfl) rfl ?_ | refine U0 _ (U5 rfl rfl) rfl ?_) | (refine M1 ?_; first | refine J0 ?_ | refine J1 ?_ | refine J2 mixed rfl (by kernel_rfl) ?_ | refine J3 mixed rfl rfl (by kernel_rfl) ?_ | refine J4 ?_ | refine J5 ?_ | refine J6 ?_ | refine J7 ?_ | refine J8 rfl ?_ | refine J9 rfl ?_) | (refine M2 ?_; first | refine I0 ?_ | refine I1 ?_ | refine I2 ?_ | refine I3 ?_ | refine I4 ?_ | refine I5 ?_ | refine I6 rfl ?_ | refine I7 ?_ | refine I8 ?_ | refine z4 ?_) | (refine M3 ?_; first | refine O6 ?_ | refine z2 tok rfl ?_ | refine O8 rfl ?_ | refine O7 rfl ?_ rfl | refine O9 rfl ?_ rfl | refine U1 _ (U4 rfl rfl) rfl ?_ | refine U1 _ (U5 rfl rfl) rfl ?_ | refine U1 _ (U2 rfl) rfl ?_ | refine U1 _ (U3 tok rfl rfl rfl rfl rfl) rfl ?_) | (refine M4 ?_; first | refine M6 ?_ | refine U6 rfl (by kernel_rfl) ?_ | refine U7 (by kernel_rfl) ?_) | (refine M5 ?_; first | exact M7 | refine U8 rfl ?_ | refine U9 rfl rfl ?_ ?_))
    refine XE.retg tok Try.results17 rfl (by simp only [and_self, and_true]) (fun w' S => ?_)
    exact ⟨chkTV_of (chkT_0 hp4 h0 h9 h22 hd0 (by have := of_decide_eq_false h11; omega)), hB2.trans S.toBelow⟩
end Go.Proofs.Ytmodjcegmgjhoaa.X
/-
  The walks of the planner: begin, head, use (runoff).
-/
namespace Go.Proofs.Ytmodjcegmgjhoaa.X
open Go Go.RowKit Go.Proofs.Ytmodjcegmgjhoaa.Bs
set_option linter.unusedVariables false
def plnC (v : RTV) (r : SV) (t : RTk) (gt gm : Nat) : List Value := tskC v t ++ [.slice r.A r.n r.c, .func (.func 89) #[] #[.pointer (some ⟨gt, 0, none⟩)], .map (some gm)]
/-- a planner in memory. -/
structure PlnAt (w : World) (ok : Nat → Prop) (g gt gm : Nat) (v : RTV) (r : SV) (t : RTk) : Prop where
  kg : ok g
  kt : ok gt
  hg : w.heap[g]? = some (cel 136 (plnC v r t gt gm))
  ht : w.heap[gt]? = some (cel 33 (tskC v t))
  all : ListAt devK w ok r t.devs
theorem PlnAt.keep {w w' : World} {ok : Nat → Prop} {g gt gm : Nat} {v : RTV} {r : SV} {t : RTk} (h : PlnAt w ok g gt gm v r t) (hk : ∀ k, ok k → w'.heap[k]? = w.heap[k]?) : PlnAt w' ok g gt gm v r t := ⟨h.kg, h.kt, (hk _ h.kg).trans h.hg, (hk _ h.kt).trans h.ht, h.all.keep hk⟩
theorem PlnAt.mono {w : World} {ok ok' : Nat → Prop} {g gt gm : Nat} {v : RTV} {r : SV} {t : RTk} (h : PlnAt w ok g gt gm v r t) (hk : ∀ k, ok k → ok' k) : PlnAt w ok' g gt gm v r t := ⟨hk _ h.kg, hk _ h.kt, h.hg, h.ht, h.all.mono hk⟩
def Ng (gm : Nat) (ok : Nat → Prop) : Nat → Prop := fun j => ok j ∧ j ≠ gm
/-- just begun. -/
structure Pln0 (w : World) (ok : Nat → Prop) (g gt gm : Nat) (v : RTV) (r : SV) (t : RTk) : Prop where
  p : PlnAt w (Ng gm ok) g gt gm v r t
  km : ok gm
  hm : w.heap[gm]? = some (mapO [])
def hPln (g gt gm : Nat) (v : RTV) (r : SV) (t : RTk) : Held := ⟨fun w ok => Pln0 w ok g gt gm v r t, fun h hk => ⟨h.p.keep fun k hj => hk k hj.1, h.km, (hk _ h.km).trans h.hm⟩, fun h hk => ⟨h.p.mono fun k hj => ⟨hk k hj.1, hj.2⟩, hk _ h.km, h.hm⟩⟩
def BegV (v : RTV) (t : RTk) (x : Value) (new : List Held) : Prop :=
  (rtE t ≠ 0 ∧ x = .tuple ⟨[.pointer none, .int .i64 (rtE t)]⟩ ∧ new = []) ∨
  (rtE t = 0 ∧ ∃ g gt gm r, x = .tuple ⟨[.pointer (some ⟨g, 0, none⟩), .int .i64 0]⟩ ∧ new = [hPln g gt gm v r t])
theorem begin_end {B b0 g gt gm : Nat} {w2 w' : World} {L : Lo} {ks : List Nat} {r : SV} {v : RTV} {t : RTk} (S : Sys B w2 L w') (hF : Fam w2 b0 ks [] [hList devK r t.devs]) (hg : (g, cel 136 (plnC v r t gt gm)) ∈ L) (hm : (gm, mapO []) ∈ L) (ht : (gt, cel 33 (tskC v t)) ∈ L)
    (hL : ∀ e, e ∈ L → e.1 ∈ ks ∨ w2.heap.size ≤ e.1) (hb : ∀ e, e ∈ L → b0 ≤ e.1) : Pln0 w' (Btw b0 w'.heap.size) g gt gm v r t := by
  have h1 := (S.own _ hg).2
  have h2 := (S.own _ hm).2
  have h3 := (S.own _ ht).2
  simp only at h1 h2 h3
  have hF2 : Fam w2 b0 (gm :: ks) [] [hList devK r t.devs] := hF.add fun k hk => by
    rcases List.mem_cons.1 hk with rfl | hk
    · exact hL _ hm
    · exact .inl hk
  have h4 : ListAt devK w' (Free w' b0 (gm :: ks) []) r t.devs := (hF2.sys S fun e he => (hL e he).elim (fun h => .inl (.tail _ h)) .inr).held _ (.head _)
  refine ⟨⟨⟨⟨hb _ hg, S.lt hg⟩, fun e => ?_⟩, ⟨⟨hb _ ht, S.lt ht⟩, fun e => ?_⟩, h1, h3, h4.mono fun j hj => ⟨⟨hj.1, hj.2.1⟩, fun e => hj.2.2.1 (by rw [e]; exact .head _)⟩⟩, ⟨hb _ hm, S.lt hm⟩, h2⟩
  · subst e; rw [h1] at h2; cases h2
  · subst e; rw [h3] at h2; cases h2
theorem begin_fin {g gt gm : Nat} {w w2 w' : World} {L : Lo} {ks : List Nat} {r : SV} {v : RTV} {t : RTk} (h0 : rtE t = 0) (S : Sys w.heap.size w2 L w') (hF : Fam w2 w.heap.size ks [] [hList devK r t.devs]) (hB : Below w.heap.size w w') (hg : (g, cel 136 (plnC v r t gt gm)) ∈ L) (hm : (gm, mapO []) ∈ L) (ht : (gt, cel 33 (tskC v t)) ∈ L)
    (hL : ∀ e, e ∈ L → e.1 ∈ ks ∨ w2.heap.size ≤ e.1) : Made w (BegV v t) (.returned (tupV [.pointer (some ⟨g, 0, none⟩), .int .i64 0])) w' :=
  ⟨_, [hPln g gt gm v r t], rfl, .inr ⟨h0, g, gt, gm, r, rfl, rfl⟩, fun x hx => by
    rw [List.mem_singleton.1 hx]
    exact begin_end S hF hg hm ht hL (fun e he => (S.own e he).1), hB⟩
set_option maxHeartbeats 8000000 in
theorem begin_made {v : RTV} {t : RTk} {w : World} (ht : TskAt w w.heap.size v t) (hn : t.slu.length + t.pmp.length ≤ 5000000) :
    Calls Try.prog 57 #[tskV v t] w (Made w (BegV v t)) := by
  have hc := fun {L : Lo} (w5 : World) (S5 : Sys w.heap.size w L w5) => rnCheck_any (ht.sys S5) hn
  have hd := fun {L : Lo} (w5 : World) (S5 : Sys w.heap.size w L w5) => devices_made (ht.sys S5) hn
  obtain ⟨p, q, o, r, c, su, pu, on⟩ := v
  simp only [tskV, tskC] at hc hd ⊢
  refine enter Try.func57 rfl Try.ntmps57 rfl ?_; simp only [frame, Nat.zero_add, Nat.reduceAdd]
  repeat (first | (refine M0 ?_; first | refine O0 ?_ | refine z1 tok rfl ?_ | refine O1 rfl ?_ rfl | refine O2 rfl ?_ | refine O3 rfl ?_ rfl | refine U0 _ (Ev.call (f := 17) (ck rfl) rfl (fun w5 S5 => hc w5 S5)) rfl ?_ | refine O4 rfl rfl rfl (fun _ _ => ?_) | refine O5 tok rfl rfl rfl (fun _ _ => ?_) | refine U0 _ (U2 rfl) rfl ?_ | refine U0 _ (U3 tok rfl rfl rfl rfl rfl) rfl ?_ | refine z3 tok rfl ?_ | refine U0 _ (U4 rfl rfl) rfl ?_ | refine U0 _ (U5 rfl rfl) rfl ?_) | (refine M1 ?_; first | refine J0 ?_ | refine J1 ?_ | refine J2 mixed rfl (by kernel_rfl) ?_ | refine J3 mixed rfl rfl (by kernel_rfl) ?_ | refine J4 ?_ | refine J5 ?_ | refine J6 ?_ | refine J7 ?_ | refine J8 rfl ?_ | refine J9 rfl ?_) | (refine M2 ?_; first | refine I0 ?_ | refine I1 ?_ | refine I2 ?_ | refine I3 ?_ | refine I4 ?_ | refine I5 ?_ | refine I6 rfl ?_ | refine I7 ?_ | refine I8 ?_ | refine z4 ?_) | (refine M3 ?_; first | refine O6 ?_ | refine z2 tok rfl ?_ | refine O8 rfl ?_ | refine O7 rfl ?_ rfl | refine O9 rfl ?_ rfl | refine U1 _ (Ev.call (f := 17) (ck rfl) rfl (fun w5 S5 => hc w5 S5)) rfl ?_ | refine U1 _ (U4 rfl rfl) rfl ?_ | refine U1 _ (U5 rfl rfl) rfl ?_ | refine U1 _ (U2 rfl) rfl ?_ | refine U1 _ (U3 tok rfl rfl rfl rfl rfl) rfl ?_) | (refine M4 ?_; first | refine M6 ?_ | refine U6 rfl (by kernel_rfl) ?_ | refine U7 (by kernel_rfl) ?_) | (refine M5 ?_; first | exact M7 | refine U8 rfl ?_ | refine U9 rfl rfl ?_ ?_))
  rename_i g1 hg1
  refine XC.cond _ rfl (fun h0 => ?_) (fun h0 => ?_)
  · repeat (first | (refine M0 ?_; first | refine O0 ?_ | refine z1 tok rfl ?_ | refine O1 rfl ?_ rfl | refine O2 rfl ?_ | refine O3 rfl ?_ rfl | refine O4 rfl rfl rfl (fun _ _ => ?_) | refine O5 tok rfl rfl rfl (fun _ _ => ?_) | refine U0 _ (U2 rfl) rfl ?_ | refine U0 _ (U3 tok rfl rfl rfl rfl rfl) rfl ?_ | refine z3 tok rfl ?_ | refine U0 _ (U4 rfl rfl) rfl ?_ | refine U0 _ (U5 rfl rfl) rfl ?_) | (refine M1 ?_; first | refine J0 ?_ | refine J1 ?_ | refine J2 mixed rfl (by kernel_rfl) ?_ | refine J3 mixed rfl rfl (by kernel_rfl) ?_ | refine J4 ?_ | refine J5 ?_ | refine J6 ?_ | refine J7 ?_ | refine J8 rfl ?_ | refine J9 rfl ?_) | (refine M2 ?_; first | refine I0 ?_ | refine I1 ?_ | refine I2 ?_ | refine I3 ?_ | refine I4 ?_ | refine I5 ?_ | refine I6 rfl ?_ | refine I7 ?_ | refine I8 ?_ | refine z4 ?_) | (refine M3 ?_; first | refine O6 ?_ | refine z2 tok rfl ?_ | refine O8 rfl ?_ | refine O7 rfl ?_ rfl | refine O9 rfl ?_ rfl | refine U1 _ (U4 rfl rfl) rfl ?_ | refine U1 _ (U5 rfl rfl) rfl ?_ | refine U1 _ (U2 rfl) rfl ?_ | refine U1 _ (U3 tok rfl rfl rfl rfl rfl) rfl ?_) | (refine M4 ?_; first | refine M6 ?_ | refine U6 rfl (by kernel_rfl) ?_ | refine U7 (by kernel_rfl) ?_) | (refine M5 ?_; first | exact M7 | refine U8 rfl ?_ | refine U9 rfl rfl ?_ ?_))
    refine XE.retg tok Try.results57 rfl (by simp only [and_self, and_true]) (fun w' S => ?_)
    exact ⟨_, [], rfl, .inl ⟨by unfold rtE; simpa using h0, rfl, rfl⟩, (fun x hx => by cases hx), S.toBelow⟩
  have h0' : rtE t = 0 := by unfold rtE; simpa using h0
  repeat (first | (refine M0 ?_; first | refine O0 ?_ | refine z1 tok rfl ?_ | refine O1 rfl ?_ rfl | refine O2 rfl ?_ | refine O3 rfl ?_ rfl | refine O4 rfl rfl rfl (fun _ _ => ?_) | refine O5 tok rfl rfl rfl (fun _ _ => ?_) | refine U0 _ (U2 rfl) rfl ?_ | refine U0 _ (U3 tok rfl rfl rfl rfl rfl) rfl ?_ | refine z3 tok rfl ?_ | refine U0 _ (U4 rfl rfl) rfl ?_ | refine U0 _ (U5 rfl rfl) rfl ?_) | (refine M1 ?_; first | refine J0 ?_ | refine J1 ?_ | refine J4 ?_ | refine J5 ?_ | refine J6 ?_ | refine J7 ?_ | refine J8 rfl ?_ | refine J9 rfl ?_) | (refine M2 ?_; first | refine I0 ?_ | refine I1 ?_ | refine I2 ?_ | refine I3 ?_ | refine I4 ?_ | refine I5 ?_ | refine I6 rfl ?_ | refine I7 ?_ | refine I8 ?_ | refine z4 ?_) | (refine M3 ?_; first | refine O6 ?_ | refine z2 tok rfl ?_ | refine O8 rfl ?_ | refine O7 rfl ?_ rfl | refine O9 rfl ?_ rfl | refine U1 _ (U4 rfl rfl) rfl ?_ | refine U1 _ (U5 rfl rfl) rfl ?_ | refine U1 _ (U2 rfl) rfl ?_ | refine U1 _ (U3 tok rfl rfl rfl rfl rfl) rfl ?_) | (refine M4 ?_; first | refine M6 ?_ | refine U6 rfl (by kernel_rfl) ?_ | refine U7 (by kernel_rfl) ?_) | (refine M5 ?_; first | exact M7 | refine U8 rfl ?_ | refine U9 rfl rfl ?_ ?_))
  refine XC.rebase (List.Sublist.refl _) (fun W0 S0 => ?_)
  have hB0 := S0.toBelow
  have hF0 : Fam W0 w.heap.size [g1] [] [] := Fam.start S0.size
  have hk0 : ∀ k, k ∈ [g1] → k < W0.heap.size := fun k hk => S0.keyLt k hk
  refine XC.drawRS _ [(g1, _)] [0, 1, 3] [2, 4, 5, 6, 7, 8] mixed (fun _ h => Sys.anchor2 (by assumption) h (by repeat (first | exact List.Sublist.refl _ | exact List.nil_sublist _ | refine List.Sublist.cons_cons _ ?_ | refine List.Sublist.cons _ ?_))) rfl (by kernel_rfl) ?_
  repeat (any_goals (first | (refine M0 ?_; first | refine O0 ?_ | refine z1 tok rfl ?_ | refine O1 rfl ?_ rfl | refine O2 rfl ?_ | refine O3 rfl ?_ rfl | refine U0 _ (Ev.makeFunc rfl rfl) rfl ?_ | refine O4 rfl rfl rfl (fun _ _ => ?_) | refine O5 tok rfl rfl rfl (fun _ _ => ?_) | refine U0 _ (U2 rfl) rfl ?_ | refine U0 _ (U3 tok rfl rfl rfl rfl rfl) rfl ?_ | refine z3 tok rfl ?_ | refine U0 _ (U4 rfl rfl) rfl ?_ | refine U0 _ (U5 rfl rfl) rfl ?_ | refine XL.makeMap rfl (fun _ _ => ?_) | (refine XL.at_call 47 ?_; refine XL.callF (DevsV t.devs) (ck rfl) rfl rfl (by assumption) (by assumption) (by assumption) (fun w1 S1 _ hB1 => (hd w1 (Sys.ofBelow hB1))) (fun w2 x new hR hF2 hB2 hk2 => ?_); obtain ⟨rd, rfl, rfl, _⟩ := hR; simp only [svV])) | (refine M1 ?_; first | refine J0 ?_ | refine J1 ?_ | refine J4 ?_ | refine J5 ?_ | refine J6 ?_ | refine J7 ?_ | refine J8 rfl ?_ | refine J9 rfl ?_) | (refine M2 ?_; first | refine I0 ?_ | refine I1 ?_ | refine I2 ?_ | refine I3 ?_ | refine I4 ?_ | refine I5 ?_ | refine I6 rfl ?_ | refine I7 ?_ | refine I8 ?_ | refine z4 ?_) | (refine M3 ?_; first | refine O6 ?_ | refine z2 tok rfl ?_ | refine O8 rfl ?_ | refine O7 rfl ?_ rfl | refine O9 rfl ?_ rfl | refine U1 _ (Ev.makeFunc rfl rfl) rfl ?_ | refine U1 _ (U4 rfl rfl) rfl ?_ | refine U1 _ (U5 rfl rfl) rfl ?_ | refine U1 _ (U2 rfl) rfl ?_ | refine U1 _ (U3 tok rfl rfl rfl rfl rfl) rfl ?_) | (refine M4 ?_; first | refine M6 ?_ | refine U6 rfl (by kernel_rfl) ?_ | refine U7 (by kernel_rfl) ?_) | (refine M5 ?_; first | exact M7 | refine U8 rfl ?_ | refine U9 rfl rfl ?_ ?_)))
  any_goals (repeat (first | exact AnyR.nil | refine AnyR.skip rfl ?_))
  all_goals
    refine XE.retg tok Try.results57 rfl (by simp only [and_self, and_true]) (fun w' S => ?_)
    exact begin_fin (v := ⟨p, q, o, r, c, su, pu, on⟩) h0' S (by assumption) (Below.trans (by assumption) S.toBelow) (by repeat (first | exact List.mem_cons_self | apply List.mem_cons_of_mem)) (by repeat (first | exact List.mem_cons_self | apply List.mem_cons_of_mem)) (by repeat (first | exact List.mem_cons_self | apply List.mem_cons_of_mem)) (by intro e he; repeat (first | (cases he; done) | (rcases List.mem_cons.1 he with rfl | he; · first | (right; assumption) | (left; simp <;> fail))))
/-! ### the price of a tick, and the levels in it -/
theorem begin1_any {gt : Nat} {v : RTV} {t : RTk} {i : Nat} {e : Int} {w : World} (hg : w.heap[gt]? = some (cel 33 (tskC v t))) (ht : IntsAt w (Lt w.heap.size) v.c t.prices) (hi : i < t.prices.length) (he : i64in (e * at0 t.prices i)) :
    Calls Try.prog 89 #[.int .i64 (i : Nat), .int .i64 e, .pointer (some ⟨gt, 0, none⟩)] w fun x w' => x = .returned (.int .i64 (e * at0 t.prices i)) ∧ Below w.heap.size w w' := by
  obtain ⟨p, q, o, r, ⟨Ac, nc, cc⟩, su, pu, on⟩ := v
  simp only at ht
  have hl := ht.len
  simp only at hl
  subst hl
  obtain ⟨ad, rfl, hlt, hc⟩ := ht.at_ (by omega)
  have d1 := hc i hi
  have hlg := (Array.getElem?_eq_some_iff.1 hg).1
  have d0 : w.cell? ⟨gt, 9, none⟩ = some (.slice (some ad) t.prices.length cc) := by simp [World.cell?, hg, tskC]
  refine enter Try.func89 rfl Try.ntmps89 rfl ?_; simp only [frame, Nat.zero_add, Nat.reduceAdd]
  repeat (first | (refine M0 ?_; first | refine O0 ?_ | refine z1 tok rfl ?_ | refine O1 rfl ?_ rfl | refine O2 rfl ?_ | refine O3 rfl ?_ rfl | refine U0 _ (Ev.load_old tok rfl rfl hlg d0) rfl ?_ | refine U0 _ (Ev.load_old tok rfl rfl (add_lt hlt) d1) rfl ?_ | refine O4 rfl rfl rfl (fun _ _ => ?_) | refine O5 tok rfl rfl rfl (fun _ _ => ?_) | refine U0 _ (U2 rfl) rfl ?_ | refine U0 _ (U3 tok rfl rfl rfl rfl rfl) rfl ?_ | refine z3 tok rfl ?_ | refine U0 _ (U4 rfl rfl) rfl ?_ | refine U0 _ (U5 rfl rfl) rfl ?_) | (refine M1 ?_; first | refine J0 ?_ | refine J1 ?_ | refine J2 mixed rfl (by kernel_rfl) ?_ | refine J3 mixed rfl rfl (by kernel_rfl) ?_ | refine J4 ?_ | refine J5 ?_ | refine J6 ?_ | refine J7 ?_ | refine J8 rfl ?_ | refine J9 rfl ?_) | (refine M2 ?_; first | refine I0 ?_ | refine I1 ?_ | refine I2 ?_ | refine I3 ?_ | refine I4 ?_ | refine I5 ?_ | refine I6 rfl ?_ | refine I7 ?_ | refine I8 ?_ | refine z4 ?_) | (refine M3 ?_; first | refine O6 ?_ | refine z2 tok rfl ?_ | refine O8 rfl ?_ | refine O7 rfl ?_ rfl | refine O9 rfl ?_ rfl | refine U1 _ (Ev.load_old tok rfl rfl hlg d0) rfl ?_ | refine U1 _ (Ev.load_old tok rfl rfl (add_lt hlt) d1) rfl ?_ | refine U1 _ (U4 rfl rfl) rfl ?_ | refine U1 _ (U5 rfl rfl) rfl ?_ | refine U1 _ (U2 rfl) rfl ?_ | refine U1 _ (U3 tok rfl rfl rfl rfl rfl) rfl ?_) | (refine M4 ?_; first | refine M6 ?_ | refine U6 rfl (by kernel_rfl) ?_ | refine U7 (by kernel_rfl) ?_) | (refine M5 ?_; first | exact M7 | refine U8 rfl ?_ | refine U9 rfl rfl ?_ ?_))
  refine XE.retg tok Try.results89 rfl (by simp only [and_self, and_true]) (fun w' S => ?_)
  exact ⟨rfl, S.toBelow⟩
theorem plnCell {w : World} {ok : Nat → Prop} {g gt gm : Nat} {v : RTV} {r : SV} {t : RTk} (h : PlnAt w ok g gt gm v r t) : g < w.heap.size ∧ ∀ j u, (plnC v r t gt gm)[j]? = some u → w.cell? ⟨g, j, none⟩ = some u :=
  ⟨(Array.getElem?_eq_some_iff.1 h.hg).1, fun j u hj => by simp [World.cell?, h.hg, hj]⟩
def outI (t : RTk) (i : Nat) : Int := if i < t.outer.length then at0 t.outer i else 0
set_option maxHeartbeats 8000000 in
theorem head_any {g gt gm : Nat} {v : RTV} {r : SV} {t : RTk} {x : Int} {i : Nat} {w : World} (hp : PlnAt w (Lt w.heap.size) g gt gm v r t) (ht : TskAt w w.heap.size v t) (ho : Ok t.b) (hx : (t.b.row 0).vol ≤ x ∧ x ≤ 1000000000) :
    Calls Try.prog 100 #[.pointer (some ⟨g, 0, none⟩), .int .i64 x, .int .i64 (i : Nat)] w fun e w' => e = .returned (.agg ⟨headC (num t.b x) (den t.b x) (outI t i)⟩) ∧ Below w.heap.size w w' := by
  obtain ⟨hlg, hc⟩ := plnCell hp
  have hbas := ht.bas
  have hout := ht.outer
  obtain ⟨⟨Ab, nb, cb, Ab2, nb2, cb2⟩, q, ⟨Ao, no, co⟩, rv, pv, su, pu, on⟩ := v
  have lb := hbas.n_eq
  have lo := hout.len
  simp only at lb lo hbas hout
  subst lb lo
  have h2 := ho.n2
  have h12 := ho.n12
  obtain ⟨ab, rfl, hlb⟩ := hbas.rows.addr (by simp only; omega)
  have c0 : w.cell? ⟨g, 0, none⟩ = some (.slice (some ab) t.b.rows.length cb) := hc 0 _ rfl
  have c7 : w.cell? ⟨g, 7, none⟩ = some (.slice Ao t.outer.length co) := hc 7 _ rfl
  have hR := ho.rowsOk
  have hsg := seg_lt hR x
  have hcl := fun (k : Nat) (h : k ≤ t.b.rows.length - 2) (h1 : k = 0 ∨ (t.b.row k).vol ≤ x) (h2 : ∀ j, k < j → j ≤ t.b.rows.length - 2 → x < (t.b.row j).vol) => (segTo_eq (b := t.b) (v := x) (s := k) h h1 h2 : seg t.b x = k)
  refine enter Try.func100 rfl Try.ntmps100 rfl ?_; simp only [frame, Nat.zero_add, Nat.reduceAdd]
  refine XC.seq (XC.region ?_)
  repeat (first | (refine M0 ?_; first | refine O0 ?_ | refine z1 tok rfl ?_ | refine O1 rfl ?_ rfl | refine O2 rfl ?_ | refine O3 rfl ?_ rfl | refine O4 rfl rfl rfl (fun _ _ => ?_) | refine O5 tok rfl rfl rfl (fun _ _ => ?_) | refine U0 _ (U2 rfl) rfl ?_ | refine U0 _ (U3 tok rfl rfl rfl rfl rfl) rfl ?_ | refine z3 tok rfl ?_ | refine U0 _ (U4 rfl rfl) rfl ?_ | refine U0 _ (U5 rfl rfl) rfl ?_) | (refine M2 ?_; first | refine I0 ?_ | refine I1 ?_ | refine I2 ?_ | refine I3 ?_ | refine I4 ?_ | refine I5 ?_ | refine I6 rfl ?_ | refine I7 ?_ | refine I8 ?_ | refine z4 ?_) | (refine M3 ?_; first | refine O6 ?_ | refine z2 tok rfl ?_ | refine O8 rfl ?_ | refine O7 rfl ?_ rfl | refine O9 rfl ?_ rfl | refine U1 _ (U4 rfl rfl) rfl ?_ | refine U1 _ (U5 rfl rfl) rfl ?_ | refine U1 _ (U2 rfl) rfl ?_ | refine U1 _ (U3 tok rfl rfl rfl rfl rfl) rfl ?_) | (refine M4 ?_; first | refine M6 ?_ | refine U6 rfl (by kernel_rfl) ?_ | refine U7 (by kernel_rfl) ?_) | (refine M5 ?_; first | exact M7 | refine U8 rfl ?_ | refine U9 rfl rfl ?_ ?_))
  refine XC.seq (XC.region ?_)
  repeat (first | (refine M0 ?_; first | refine O0 ?_ | refine z1 tok rfl ?_ | refine O1 rfl ?_ rfl | refine O2 rfl ?_ | refine O3 rfl ?_ rfl | refine U0 _ (Ev.load_old tok rfl rfl hlg c0) rfl ?_ | refine O4 rfl rfl rfl (fun _ _ => ?_) | refine O5 tok rfl rfl rfl (fun _ _ => ?_) | refine U0 _ (U2 rfl) rfl ?_ | refine U0 _ (U3 tok rfl rfl rfl rfl rfl) rfl ?_ | refine z3 tok rfl ?_ | refine U0 _ (U4 rfl rfl) rfl ?_ | refine U0 _ (U5 rfl rfl) rfl ?_) | (refine M2 ?_; first | refine I0 ?_ | refine I1 ?_ | refine I2 ?_ | refine I3 ?_ | refine I4 ?_ | refine I5 ?_ | refine I6 rfl ?_ | refine I7 ?_ | refine I8 ?_ | refine z4 ?_) | (refine M3 ?_; first | refine O6 ?_ | refine z2 tok rfl ?_ | refine O8 rfl ?_ | refine O7 rfl ?_ rfl | refine O9 rfl ?_ rfl | refine U1 _ (Ev.load_old tok rfl rfl hlg c0) rfl ?_ | refine U1 _ (U4 rfl rfl) rfl ?_ | refine U1 _ (U5 rfl rfl) rfl ?_ | refine U1 _ (U2 rfl) rfl ?_ | refine U1 _ (U3 tok rfl rfl rfl rfl rfl) rfl ?_) | (refine M4 ?_; first | refine M6 ?_ | refine U6 rfl (by kernel_rfl) ?_ | refine U7 (by kernel_rfl) ?_) | (refine M5 ?_; first | exact M7 | refine U8 rfl ?_ | refine U9 rfl rfl ?_ ?_))
  rename_i g6 hg6
  rw [show ((t.b.rows.length : Int) - 2) = ((t.b.rows.length - 2 : Nat) : Int) by omega]
  refine XC.cutl [0, 1, 2, 6] rfl (fun _ : Unit => [(7, .int .i64 (seg t.b x : Nat))]) (fun _ => []) (fun _ => True) ?_ (fun _ _ => ?_)
  · refine XC.block ?_
    refine XC.loopk [0, 1, 2, 6] rfl (fun k : Nat => [(7, .int .i64 (k : Nat))]) (fun _ => [(g6, _)]) (fun _ => w) (fun k => k ≤ t.b.rows.length - 2 ∧ ∀ j, k < j → j ≤ t.b.rows.length - 2 → x < (t.b.row j).vol) (fun k => k) (t.b.rows.length - 2) ⟨Nat.le_refl _, fun j h1 h2 => absurd h1 (by omega)⟩ (by repeat (first | exact Sub.nil | refine Sub.cons rfl ?_)) (fun _ h => h) ?_
    rintro k ⟨hk, hj⟩
    dsimp only [List.cons_append, List.nil_append]
    repeat (first | (refine M0 ?_; first | refine O0 ?_ | refine z1 tok rfl ?_ | refine O1 rfl ?_ rfl | refine O2 rfl ?_ | refine O3 rfl ?_ rfl | refine O4 rfl rfl rfl (fun _ _ => ?_) | refine O5 tok rfl rfl rfl (fun _ _ => ?_) | refine U0 _ (U2 rfl) rfl ?_ | refine U0 _ (U3 tok rfl rfl rfl rfl rfl) rfl ?_ | refine z3 tok rfl ?_ | refine U0 _ (U4 rfl rfl) rfl ?_ | refine U0 _ (U5 rfl rfl) rfl ?_) | (refine M1 ?_; first | refine J0 ?_ | refine J1 ?_ | refine J2 mixed rfl (by kernel_rfl) ?_ | refine J3 mixed rfl rfl (by kernel_rfl) ?_ | refine J4 ?_ | refine J5 ?_ | refine J6 ?_ | refine J7 ?_ | refine J8 rfl ?_ | refine J9 rfl ?_) | (refine M2 ?_; first | refine I0 ?_ | refine I1 ?_ | refine I2 ?_ | refine I3 ?_ | refine I4 ?_ | refine I5 ?_ | refine I6 rfl ?_ | refine I7 ?_ | refine I8 ?_ | refine z4 ?_) | (refine M3 ?_; first | refine O6 ?_ | refine z2 tok rfl ?_ | refine O8 rfl ?_ | refine O7 rfl ?_ rfl | refine O9 rfl ?_ rfl | refine U1 _ (U4 rfl rfl) rfl ?_ | refine U1 _ (U5 rfl rfl) rfl ?_ | refine U1 _ (U2 rfl) rfl ?_ | refine U1 _ (U3 tok rfl rfl rfl rfl rfl) rfl ?_) | (refine M4 ?_; first | refine M6 ?_ | refine U6 rfl (by kernel_rfl) ?_ | refine U7 (by kernel_rfl) ?_) | (refine M5 ?_; first | exact M7 | refine U8 rfl ?_ | refine U9 rfl rfl ?_ ?_))
    refine XL.split _ _ rfl (fun h1 => ?_) (fun h1 => ?_) <;> rw [h1]
    · have hk0 : 0 < k := by have := of_decide_eq_true h1; omega
      repeat (first | (refine M0 ?_; first | refine O0 ?_ | refine z1 tok rfl ?_ | refine O1 rfl ?_ rfl | refine O2 rfl ?_ | refine O3 rfl ?_ rfl | refine U0 _ (Ev.load_old tok rfl rfl hlg c0) rfl ?_ | refine U0 _ (Ev.load_old tok rfl rfl (add_lt2 hlb) (hbas.rowVol (i := k) (by omega))) rfl ?_ | refine O4 rfl rfl rfl (fun _ _ => ?_) | refine O5 tok rfl rfl rfl (fun _ _ => ?_) | refine U0 _ (U2 rfl) rfl ?_ | refine U0 _ (U3 tok rfl rfl rfl rfl rfl) rfl ?_ | refine z3 tok rfl ?_ | refine U0 _ (U4 rfl rfl) rfl ?_ | refine U0 _ (U5 rfl rfl) rfl ?_) | (refine M1 ?_; first | refine J0 ?_ | refine J1 ?_ | refine J2 mixed rfl (by kernel_rfl) ?_ | refine J3 mixed rfl rfl (by kernel_rfl) ?_ | refine J4 ?_ | refine J5 ?_ | refine J6 ?_ | refine J7 ?_ | refine J8 rfl ?_ | refine J9 rfl ?_) | (refine M2 ?_; first | refine I0 ?_ | refine I1 ?_ | refine I2 ?_ | refine I3 ?_ | refine I4 ?_ | refine I5 ?_ | refine I6 rfl ?_ | refine I7 ?_ | refine I8 ?_ | refine z4 ?_) | (refine M3 ?_; first | refine O6 ?_ | refine z2 tok rfl ?_ | refine O8 rfl ?_ | refine O7 rfl ?_ rfl | refine O9 rfl ?_ rfl | refine U1 _ (Ev.load_old tok rfl rfl hlg c0) rfl ?_ | refine U1 _ (Ev.load_old tok rfl rfl (add_lt2 hlb) (hbas.rowVol (i := k) (by omega))) rfl ?_ | refine U1 _ (U4 rfl rfl) rfl ?_ | refine U1 _ (U5 rfl rfl) rfl ?_ | refine U1 _ (U2 rfl) rfl ?_ | refine U1 _ (U3 tok rfl rfl rfl rfl rfl) rfl ?_) | (refine M4 ?_; first | refine M6 ?_ | refine U6 rfl (by kernel_rfl) ?_ | refine U7 (by kernel_rfl) ?_) | (refine M5 ?_; first | exact M7 | refine U8 rfl ?_ | refine U9 rfl rfl ?_ ?_))
      refine XC.cond _ rfl (fun h3 => ?_) (fun h3 => ?_)
      · repeat (first | (refine M0 ?_; first | refine O0 ?_ | refine z1 tok rfl ?_ | refine O1 rfl ?_ rfl | refine O2 rfl ?_ | refine O3 rfl ?_ rfl | refine O4 rfl rfl rfl (fun _ _ => ?_) | refine O5 tok rfl rfl rfl (fun _ _ => ?_) | refine U0 _ (U2 rfl) rfl ?_ | refine U0 _ (U3 tok rfl rfl rfl rfl rfl) rfl ?_ | refine z3 tok rfl ?_ | refine U0 _ (U4 rfl rfl) rfl ?_ | refine U0 _ (U5 rfl rfl) rfl ?_) | (refine M1 ?_; first | refine J0 ?_ | refine J1 ?_ | refine J2 mixed rfl (by kernel_rfl) ?_ | refine J3 mixed rfl rfl (by kernel_rfl) ?_ | refine J4 ?_ | refine J5 ?_ | refine J6 ?_ | refine J7 ?_ | refine J8 rfl ?_ | refine J9 rfl ?_) | (refine M2 ?_; first | refine I0 ?_ | refine I1 ?_ | refine I2 ?_ | refine I3 ?_ | refine I4 ?_ | refine I5 ?_ | refine I6 rfl ?_ | refine I7 ?_ | refine I8 ?_ | refine z4 ?_) | (refine M3 ?_; first | refine O6 ?_ | refine z2 tok rfl ?_ | refine O8 rfl ?_ | refine O7 rfl ?_ rfl | refine O9 rfl ?_ rfl | refine U1 _ (U4 rfl rfl) rfl ?_ | refine U1 _ (U5 rfl rfl) rfl ?_ | refine U1 _ (U2 rfl) rfl ?_ | refine U1 _ (U3 tok rfl rfl rfl rfl rfl) rfl ?_) | (refine M4 ?_; first | refine M6 ?_ | refine U6 rfl (by kernel_rfl) ?_ | refine U7 (by kernel_rfl) ?_) | (refine M5 ?_; first | exact M7 | refine U8 rfl ?_ | refine U9 rfl rfl ?_ ?_))
        rw [show ((k : Int) - 1) = ((k - 1 : Nat) : Int) by omega]
        refine XE.round (k - 1) ⟨by omega, fun j h4 h5 => ?_⟩ (by omega) (by repeat (first | exact Sub.nil | refine Sub.cons rfl ?_)) (fun _ h => h)
        by_cases e : j = k
        · subst e; exact of_decide_eq_true h3
        · exact hj j (by omega) h5
      · repeat (first | (refine M0 ?_; first | refine O0 ?_ | refine z1 tok rfl ?_ | refine O1 rfl ?_ rfl | refine O2 rfl ?_ | refine O3 rfl ?_ rfl | refine O4 rfl rfl rfl (fun _ _ => ?_) | refine O5 tok rfl rfl rfl (fun _ _ => ?_) | refine U0 _ (U2 rfl) rfl ?_ | refine U0 _ (U3 tok rfl rfl rfl rfl rfl) rfl ?_ | refine z3 tok rfl ?_ | refine U0 _ (U4 rfl rfl) rfl ?_ | refine U0 _ (U5 rfl rfl) rfl ?_) | (refine M1 ?_; first | refine J0 ?_ | refine J1 ?_ | refine J2 mixed rfl (by kernel_rfl) ?_ | refine J3 mixed rfl rfl (by kernel_rfl) ?_ | refine J4 ?_ | refine J5 ?_ | refine J6 ?_ | refine J7 ?_ | refine J8 rfl ?_ | refine J9 rfl ?_) | (refine M2 ?_; first | refine I0 ?_ | refine I1 ?_ | refine I2 ?_ | refine I3 ?_ | refine I4 ?_ | refine I5 ?_ | refine I6 rfl ?_ | refine I7 ?_ | refine I8 ?_ | refine z4 ?_) | (refine M3 ?_; first | refine O6 ?_ | refine z2 tok rfl ?_ | refine O8 rfl ?_ | refine O7 rfl ?_ rfl | refine O9 rfl ?_ rfl | refine U1 _ (U4 rfl rfl) rfl ?_ | refine U1 _ (U5 rfl rfl) rfl ?_ | refine U1 _ (U2 rfl) rfl ?_ | refine U1 _ (U3 tok rfl rfl rfl rfl rfl) rfl ?_) | (refine M4 ?_; first | refine M6 ?_ | refine U6 rfl (by kernel_rfl) ?_ | refine U7 (by kernel_rfl) ?_) | (refine M5 ?_; first | exact M7 | refine U8 rfl ?_ | refine U9 rfl rfl ?_ ?_))
        rw [← hcl k hk (.inr (by have := of_decide_eq_false h3; omega)) hj]
        refine XE.leaf () (by repeat (first | exact Sub.nil | refine Sub.cons rfl ?_)) (fun _ S' => S') trivial
    · repeat (first | (refine M0 ?_; first | refine O0 ?_ | refine z1 tok rfl ?_ | refine O1 rfl ?_ rfl | refine O2 rfl ?_ | refine O3 rfl ?_ rfl | refine O4 rfl rfl rfl (fun _ _ => ?_) | refine O5 tok rfl rfl rfl (fun _ _ => ?_) | refine U0 _ (U2 rfl) rfl ?_ | refine U0 _ (U3 tok rfl rfl rfl rfl rfl) rfl ?_ | refine z3 tok rfl ?_ | refine U0 _ (U4 rfl rfl) rfl ?_ | refine U0 _ (U5 rfl rfl) rfl ?_) | (refine M1 ?_; first | refine J0 ?_ | refine J1 ?_ | refine J2 mixed rfl (by kernel_rfl) ?_ | refine J3 mixed rfl rfl (by kernel_rfl) ?_ | refine J4 ?_ | refine J5 ?_ | refine J6 ?_ | refine J7 ?_ | refine J8 rfl ?_ | refine J9 rfl ?_) | (refine M2 ?_; first | refine I0 ?_ | refine I1 ?_ | refine I2 ?_ | refine I3 ?_ | refine I4 ?_ | refine I5 ?_ | refine I6 rfl ?_ | refine I7 ?_ | refine I8 ?_ | refine z4 ?_) | (refine M3 ?_; first | refine O6 ?_ | refine z2 tok rfl ?_ | refine O8 rfl ?_ | refine O7 rfl ?_ rfl | refine O9 rfl ?_ rfl | refine U1 _ (U4 rfl rfl) rfl ?_ | refine U1 _ (U5 rfl rfl) rfl ?_ | refine U1 _ (U2 rfl) rfl ?_ | refine U1 _ (U3 tok rfl rfl rfl rfl rfl) rfl ?_) | (refine M4 ?_; first | refine M6 ?_ | refine U6 rfl (by kernel_rfl) ?_ | refine U7 (by kernel_rfl) ?_) | (refine M5 ?_; first | exact M7 | refine U8 rfl ?_ | refine U9 rfl rfl ?_ ?_))
      rw [← hcl k hk (.inl (by have := of_decide_eq_false h1; omega)) hj]
      refine XE.leaf () (by repeat (first | exact Sub.nil | refine Sub.cons rfl ?_)) (fun _ S' => S') trivial
  dsimp only [List.cons_append, List.nil_append]
  obtain ⟨k, hk⟩ : ∃ k, k = seg t.b x := ⟨_, rfl⟩
  have hpb := parts_bd hR hx
  have htb := terms_bd hR hx
  have hnb := num_bd hR hx
  rw [← hk] at hsg hpb htb ⊢
  have hra := hbas.row (i := k) (by omega)
  have hrb : ∀ j u, (rowC (t.b.row (k + 1)))[j]? = some u → w.cell? ((ab.add (((k : Int) + 1).toNat * 2)).add j) = some u := by rw [show ((k : Int) + 1).toNat = k + 1 by omega]; exact hbas.row (by omega)
  have hden : den t.b x = (t.b.row (k + 1)).vol - (t.b.row k).vol := by rw [hk]; rfl
  have hnum : num t.b x = (t.b.row k).level * den t.b x + (x - (t.b.row k).vol) * ((t.b.row (k + 1)).level - (t.b.row k).level) := by rw [hk]; rfl
  rw [hden] at hpb htb hnum
  rw [hden, hnum]
  refine XC.cutl [0, 1, 2, 6] rfl (fun s : Nat × Nat => [(8, .pointer (some ⟨s.1, 0, none⟩)), (9, .pointer (some ⟨s.2, 0, none⟩))]) (fun s => [(s.2, cel 52 (rowC (t.b.row (k + 1)))), (s.1, cel 52 (rowC (t.b.row k)))]) (fun _ => True) ?_ ?_
  · refine XC.drawR _ [0, 1, 2, 3, 4, 5, 6, 7, 8, 9, 10, 11, 12, 13, 14, 15, 16, 17, 18] [19, 20, 21, 22] mixed (fun _ h => h) rfl (by kernel_rfl) ?_
    repeat (any_goals (first | (refine M0 ?_; first | refine O0 ?_ | refine z1 tok rfl ?_ | refine O1 rfl ?_ rfl | refine O2 rfl ?_ | refine O3 rfl ?_ rfl | refine U0 _ (Ev.load_old tok rfl rfl hlg c0) rfl ?_ | refine U0 _ (Ev.load_old_agg tok (rowC (t.b.row k)) rfl rfl rfl (add_lt hlb) hra) rfl ?_ | refine U0 _ (Ev.load_old_agg tok (rowC (t.b.row (k + 1))) rfl rfl rfl (add_lt hlb) hrb) rfl ?_ | refine O4 rfl rfl rfl (fun _ _ => ?_) | refine O5 tok rfl rfl rfl (fun _ _ => ?_) | refine U0 _ (U2 rfl) rfl ?_ | refine U0 _ (U3 tok rfl rfl rfl rfl rfl) rfl ?_ | refine z3 tok rfl ?_ | refine U0 _ (U4 rfl rfl) rfl ?_ | refine U0 _ (U5 rfl rfl) rfl ?_) | (refine M1 ?_; first | refine J0 ?_ | refine J1 ?_ | refine J4 ?_ | refine J5 ?_ | refine J6 ?_ | refine J7 ?_ | refine J8 rfl ?_ | refine J9 rfl ?_) | (refine M2 ?_; first | refine I0 ?_ | refine I1 ?_ | refine I2 ?_ | refine I3 ?_ | refine I4 ?_ | refine I5 ?_ | refine I6 rfl ?_ | refine I7 ?_ | refine I8 ?_ | refine z4 ?_) | (refine M3 ?_; first | refine O6 ?_ | refine z2 tok rfl ?_ | refine O8 rfl ?_ | refine O7 rfl ?_ rfl | refine O9 rfl ?_ rfl | refine U1 _ (Ev.load_old tok rfl rfl hlg c0) rfl ?_ | refine U1 _ (Ev.load_old_agg tok (rowC (t.b.row k)) rfl rfl rfl (add_lt hlb) hra) rfl ?_ | refine U1 _ (Ev.load_old_agg tok (rowC (t.b.row (k + 1))) rfl rfl rfl (add_lt hlb) hrb) rfl ?_ | refine U1 _ (U4 rfl rfl) rfl ?_ | refine U1 _ (U5 rfl rfl) rfl ?_ | refine U1 _ (U2 rfl) rfl ?_ | refine U1 _ (U3 tok rfl rfl rfl rfl rfl) rfl ?_) | (refine M4 ?_; first | refine M6 ?_ | refine U6 rfl (by kernel_rfl) ?_ | refine U7 (by kernel_rfl) ?_) | (refine M5 ?_; first | exact M7 | refine U8 rfl ?_ | refine U9 rfl rfl ?_ ?_)))
    any_goals (repeat (first | exact AnyR.nil | refine AnyR.skip rfl ?_))
    all_goals exact XE.leaf (_, _) (by repeat (first | exact Sub.nil | refine Sub.cons rfl ?_)) (fun _ S' => by first | exact S' | exact S'.perm (by repeat (first | exact List.Perm.refl _ | refine perm1 ?_ | refine List.Perm.cons _ ?_ | refine perm2 ?_)) | exact (S'.pop (by assumption)) | exact (S'.pop2 (by assumption))) trivial
  rintro ⟨g8, g9⟩ _
  dsimp only [List.cons_append, List.nil_append]
  refine XC.hint 8 1 (XC.hint 9 2 ?_)
  simp only [rowC]
  repeat (first | (refine M0 ?_; first | refine O0 ?_ | refine z1 tok rfl ?_ | refine O1 rfl ?_ rfl | refine O2 rfl ?_ | refine O3 rfl ?_ rfl | refine U0 _ (Ev.load_old tok rfl rfl hlg c7) rfl ?_ | refine O4 rfl rfl rfl (fun _ _ => ?_) | refine O5 tok rfl rfl rfl (fun _ _ => ?_) | refine U0 _ (U2 rfl) rfl ?_ | refine U0 _ (U3 tok rfl rfl rfl rfl rfl) rfl ?_ | refine z3 tok rfl ?_ | refine U0 _ (U4 rfl rfl) rfl ?_ | refine U0 _ (U5 rfl rfl) rfl ?_) | (refine M1 ?_; first | refine J0 ?_ | refine J1 ?_ | refine J2 mixed rfl (by kernel_rfl) ?_ | refine J3 mixed rfl rfl (by kernel_rfl) ?_ | refine J4 ?_ | refine J5 ?_ | refine J6 ?_ | refine J7 ?_ | refine J8 rfl ?_ | refine J9 rfl ?_) | (refine M2 ?_; first | refine I0 ?_ | refine I1 ?_ | refine I2 ?_ | refine I3 ?_ | refine I4 ?_ | refine I5 ?_ | refine I6 rfl ?_ | refine I7 ?_ | refine I8 ?_ | refine z4 ?_) | (refine M3 ?_; first | refine O6 ?_ | refine z2 tok rfl ?_ | refine O8 rfl ?_ | refine O7 rfl ?_ rfl | refine O9 rfl ?_ rfl | refine U1 _ (Ev.load_old tok rfl rfl hlg c7) rfl ?_ | refine U1 _ (U4 rfl rfl) rfl ?_ | refine U1 _ (U5 rfl rfl) rfl ?_ | refine U1 _ (U2 rfl) rfl ?_ | refine U1 _ (U3 tok rfl rfl rfl rfl rfl) rfl ?_) | (refine M4 ?_; first | refine M6 ?_ | refine U6 rfl (by kernel_rfl) ?_ | refine U7 (by kernel_rfl) ?_) | (refine M5 ?_; first | exact M7 | refine U8 rfl ?_ | refine U9 rfl rfl ?_ ?_))
  refine XC.cond _ rfl (fun h1 => ?_) (fun h1 => ?_)
  · have hi : i < t.outer.length := by have := of_decide_eq_true h1; omega
    obtain ⟨ao, rfl, hlo, hco⟩ := hout.at_ (by omega)
    have c8 := hco i hi
    have hoi : outI t i = at0 t.outer i := by unfold outI; rw [if_pos hi]
    repeat (first | (refine M0 ?_; first | refine O0 ?_ | refine z1 tok rfl ?_ | refine O1 rfl ?_ rfl | refine O2 rfl ?_ | refine O3 rfl ?_ rfl | refine U0 _ (Ev.load_old tok rfl rfl hlg c7) rfl ?_ | refine U0 _ (Ev.load_old tok rfl rfl (add_lt hlo) c8) rfl ?_ | refine O4 rfl rfl rfl (fun _ _ => ?_) | refine O5 tok rfl rfl rfl (fun _ _ => ?_) | refine U0 _ (U2 rfl) rfl ?_ | refine U0 _ (U3 tok rfl rfl rfl rfl rfl) rfl ?_ | refine z3 tok rfl ?_ | refine U0 _ (U4 rfl rfl) rfl ?_ | refine U0 _ (U5 rfl rfl) rfl ?_) | (refine M1 ?_; first | refine J0 ?_ | refine J1 ?_ | refine J2 mixed rfl (by kernel_rfl) ?_ | refine J3 mixed rfl rfl (by kernel_rfl) ?_ | refine J4 ?_ | refine J5 ?_ | refine J6 ?_ | refine J7 ?_ | refine J8 rfl ?_ | refine J9 rfl ?_) | (refine M2 ?_; first | refine I0 ?_ | refine I1 ?_ | refine I2 ?_ | refine I3 ?_ | refine I4 ?_ | refine I5 ?_ | refine I6 rfl ?_ | refine I7 ?_ | refine I8 ?_ | refine z4 ?_) | (refine M3 ?_; first | refine O6 ?_ | refine z2 tok rfl ?_ | refine O8 rfl ?_ | refine O7 rfl ?_ rfl | refine O9 rfl ?_ rfl | refine U1 _ (Ev.load_old tok rfl rfl hlg c7) rfl ?_ | refine U1 _ (Ev.load_old tok rfl rfl (add_lt hlo) c8) rfl ?_ | refine U1 _ (U4 rfl rfl) rfl ?_ | refine U1 _ (U5 rfl rfl) rfl ?_ | refine U1 _ (U2 rfl) rfl ?_ | refine U1 _ (U3 tok rfl rfl rfl rfl rfl) rfl ?_) | (refine M4 ?_; first | refine M6 ?_ | refine U6 rfl (by kernel_rfl) ?_ | refine U7 (by kernel_rfl) ?_) | (refine M5 ?_; first | exact M7 | refine U8 rfl ?_ | refine U9 rfl rfl ?_ ?_))
    refine XE.retg tok Try.results100 rfl (by simp only [and_self, and_true]) (fun w' S => ?_)
    rw [hoi]
    exact ⟨rfl, S.toBelow⟩
  · have hi : ¬ i < t.outer.length := by have := of_decide_eq_false h1; omega
    have hoi : outI t i = 0 := by unfold outI; rw [if_neg hi]
    repeat (first | (refine M0 ?_; first | refine O0 ?_ | refine z1 tok rfl ?_ | refine O1 rfl ?_ rfl | refine O2 rfl ?_ | refine O3 rfl ?_ rfl | refine O4 rfl rfl rfl (fun _ _ => ?_) | refine O5 tok rfl rfl rfl (fun _ _ => ?_) | refine U0 _ (U2 rfl) rfl ?_ | refine U0 _ (U3 tok rfl rfl rfl rfl rfl) rfl ?_ | refine z3 tok rfl ?_ | refine U0 _ (U4 rfl rfl) rfl ?_ | refine U0 _ (U5 rfl rfl) rfl ?_) | (refine M1 ?_; first | refine J0 ?_ | refine J1 ?_ | refine J2 mixed rfl (by kernel_rfl) ?_ | refine J3 mixed rfl rfl (by kernel_rfl) ?_ | refine J4 ?_ | refine J5 ?_ | refine J6 ?_ | refine J7 ?_ | refine J8 rfl ?_ | refine J9 rfl ?_) | (refine M2 ?_; first | refine I0 ?_ | refine I1 ?_ | refine I2 ?_ | refine I3 ?_ | refine I4 ?_ | refine I5 ?_ | refine I6 rfl ?_ | refine I7 ?_ | refine I8 ?_ | refine z4 ?_) | (refine M3 ?_; first | refine O6 ?_ | refine z2 tok rfl ?_ | refine O8 rfl ?_ | refine O7 rfl ?_ rfl | refine O9 rfl ?_ rfl | refine U1 _ (U4 rfl rfl) rfl ?_ | refine U1 _ (U5 rfl rfl) rfl ?_ | refine U1 _ (U2 rfl) rfl ?_ | refine U1 _ (U3 tok rfl rfl rfl rfl rfl) rfl ?_) | (refine M4 ?_; first | refine M6 ?_ | refine U6 rfl (by kernel_rfl) ?_ | refine U7 (by kernel_rfl) ?_) | (refine M5 ?_; first | exact M7 | refine U8 rfl ?_ | refine U9 rfl rfl ?_ ?_))
    refine XE.retg tok Try.results100 rfl (by simp only [and_self, and_true]) (fun w' S => ?_)
    rw [hoi]
    exact ⟨rfl, S.toBelow⟩
end Go.Proofs.Ytmodjcegmgjhoaa.X
/-
  The walk of use (runoff).
-/
namespace Go.Proofs.Ytmodjcegmgjhoaa.Bs
open Go.Proofs.Ytmodjcegmgjhoaa.X
theorem useTo_none {n d o : Int} {ds : List Dev} {b f : List Bool} {k : Nat} : ∀ {m : Nat}, k ≤ m → useTo n d o ds b f k = none → useTo n d o ds b f m = none := by
  intro m
  induction m with
  | zero => intro h1 h2; rw [show k = 0 by omega] at h2; exact h2
  | succ m ih =>
    intro h1 h2
    rcases Nat.lt_or_ge k (m + 1) with h3 | h3
    · unfold useTo
      rw [ih (by omega) h2]
    · rw [show m + 1 = k by omega]; exact h2
theorem useTo_on {n d o : Int} {ds : List Dev} {b f : List Bool} {k : Nat} {p : Int × Int} (h : useTo n d o ds b f k = some p) (h1 : bl f k = true) : useTo n d o ds b f (k + 1) = match (ds[k]?.getD d0).flow n d o with
        | none => none
        | some x => some (p.1 + x, p.2 + (ds[k]?.getD d0).energy n d o (bl b k) true) := by
  obtain ⟨a, c⟩ := p
  conv => lhs; unfold useTo
  rw [h]
  simp only
  rw [if_pos h1]
  cases (ds[k]?.getD d0).flow n d o <;> rfl
theorem useTo_off {n d o : Int} {ds : List Dev} {b f : List Bool} {k : Nat} {p : Int × Int} (h : useTo n d o ds b f k = some p) (h1 : bl f k = false) : useTo n d o ds b f (k + 1) = some (p.1, p.2 + (ds[k]?.getD d0).energy n d o (bl b k) false) := by
  obtain ⟨a, c⟩ := p
  conv => lhs; unfold useTo
  rw [h]
  simp only
  rw [if_neg (by simp [h1])]
end Go.Proofs.Ytmodjcegmgjhoaa.Bs
namespace Go.Proofs.Ytmodjcegmgjhoaa.X
open Go Go.RowKit Go.Proofs.Ytmodjcegmgjhoaa.Bs
set_option linter.unusedVariables false
def useV : Option (Int × Int) → Value
  | none => .tuple ⟨[.int .i64 0, .int .i64 0, .bool false]⟩
  | some p => .tuple ⟨[.int .i64 p.1, .int .i64 p.2, .bool true]⟩
theorem use_head {t : RTk} (h : RtOk t) {x : Int} (hx : (t.b.row 0).vol ≤ x ∧ x ≤ 1000000000) {i : Nat} (hi : i < t.outer.length) : HeadOk (num t.b x) (den t.b x) (at0 t.outer i) := by
  have hR := h.ok.rowsOk
  have h1 := parts_bd hR hx
  have h2 := terms_bd hR hx
  have h3 := num_bd hR hx
  refine ⟨den_pos hR x, h3, ?_, h.out_ i hi⟩
  have h4 : -20000 * den t.b x ≤ (t.b.row (seg t.b x)).level * den t.b x := Int.mul_le_mul_of_nonneg_right h1.1.1 (by omega)
  have h5 : num t.b x = (t.b.row (seg t.b x)).level * den t.b x + (x - (t.b.row (seg t.b x)).vol) * ((t.b.row (seg t.b x + 1)).level - (t.b.row (seg t.b x)).level) := rfl
  omega
theorem boolAt {w : World} {ok : Nat → Prop} {ad : Addr} {n c : Nat} {l : List Bool} (h : ListAt boolK w ok ⟨some ad, n, c⟩ l) {k : Nat} (hk : k < l.length) : w.cell? (ad.add (k * 1)) = some (.bool (bl l k)) := by
  have h9 := h.elem (List.getElem?_eq_getElem hk) 0 (.bool l[k]) rfl
  rw [add_add, Nat.add_zero] at h9
  unfold bl
  rw [List.getElem?_eq_getElem hk]
  exact h9
set_option maxHeartbeats 8000000 in
set_option maxRecDepth 20000 in
theorem use_any {g gt gm : Nat} {v : RTV} {r p q : SV} {t : RTk} {x : Int} {i : Nat} {before on : List Bool} {w : World} (hp : PlnAt w (Lt w.heap.size) g gt gm v r t) (ht : TskAt w w.heap.size v t) (ho : RtOk t) (hx : (t.b.row 0).vol ≤ x ∧ x ≤ 1000000000) (hi : i < t.outer.length)
    (hb : ListAt boolK w (Lt w.heap.size) p before) (hbl : before.length = t.devs.length) (hf : ListAt boolK w (Lt w.heap.size) q on) (hfl : on.length = t.devs.length) :
    Calls Try.prog 71 #[.pointer (some ⟨g, 0, none⟩), .int .i64 x, .int .i64 (i : Nat), svV p, svV q] w fun e w' => e = .returned (useV (t.use x i before on)) ∧ Below w.heap.size w w' := by
  obtain ⟨hlg, hc⟩ := plnCell hp
  have hall := hp.all
  obtain ⟨Ad, nd, cd⟩ := r
  have lnd := hall.len (by decide)
  obtain ⟨Ap, np, cp⟩ := p
  obtain ⟨Aq, nq, cq⟩ := q
  have lp := hb.len (by decide)
  have lq := hf.len (by decide)
  simp only at lnd lp lq
  subst lnd lp lq
  have c15 : w.cell? ⟨g, 15, none⟩ = some (.slice Ad t.devs.length cd) := hc 15 _ rfl
  have hm4 : t.devs.length ≤ 4 := by have := t.devs_len; unfold RTk.many at this; have := ho.s2; have := ho.p2; omega
  have hH := use_head ho hx hi
  have hO : outI t i = at0 t.outer i := by unfold outI; rw [if_pos hi]
  have hU : t.use x i before on = match useTo (num t.b x) (den t.b x) (at0 t.outer i) t.devs before on t.devs.length with
    | none => none
    | some (f, e) => some (min f 10000000, e) := rfl
  have hhead := fun {L : Lo} (w5 : World) (S5 : Sys w.heap.size w L w5) => head_any (i := i) (x := x) ((hp.keep fun k hk => S5.old k hk fun e he e1 => by have := (S5.own e he).1; have hk' : k < w.heap.size := hk; omega).mono fun k hk => Nat.lt_of_lt_of_le hk S5.size) (ht.sys S5) ho.ok hx
  rw [hO] at hhead
  obtain ⟨n, hn⟩ : ∃ n, n = num t.b x := ⟨_, rfl⟩
  obtain ⟨d, hd⟩ : ∃ d, d = den t.b x := ⟨_, rfl⟩
  obtain ⟨o, hoo⟩ : ∃ o, o = at0 t.outer i := ⟨_, rfl⟩
  rw [← hn, ← hd, ← hoo] at hH hU hhead
  simp only [svV, headC] at hhead ⊢
  refine enter Try.func71 rfl Try.ntmps71 rfl ?_; simp only [frame, Nat.zero_add, Nat.reduceAdd]
  repeat (first | (refine M0 ?_; first | refine O0 ?_ | refine z1 tok rfl ?_ | refine O1 rfl ?_ rfl | refine O2 rfl ?_ | refine O3 rfl ?_ rfl | refine U0 _ (Ev.call (f := 100) (ck rfl) rfl (fun w5 S5 => hhead w5 S5)) rfl ?_ | refine U0 _ (Ev.load_old tok rfl rfl hlg c15) rfl ?_ | refine O4 rfl rfl rfl (fun _ _ => ?_) | refine O5 tok rfl rfl rfl (fun _ _ => ?_) | refine U0 _ (U2 rfl) rfl ?_ | refine U0 _ (U3 tok rfl rfl rfl rfl rfl) rfl ?_ | refine z3 tok rfl ?_ | refine U0 _ (U4 rfl rfl) rfl ?_ | refine U0 _ (U5 rfl rfl) rfl ?_) | (refine M1 ?_; first | refine J0 ?_ | refine J1 ?_ | refine J2 mixed rfl (by kernel_rfl) ?_ | refine J3 mixed rfl rfl (by kernel_rfl) ?_ | refine J4 ?_ | refine J5 ?_ | refine J6 ?_ | refine J7 ?_ | refine J8 rfl ?_ | refine J9 rfl ?_) | (refine M2 ?_; first | refine I0 ?_ | refine I1 ?_ | refine I2 ?_ | refine I3 ?_ | refine I4 ?_ | refine I5 ?_ | refine I6 rfl ?_ | refine I7 ?_ | refine I8 ?_ | refine z4 ?_) | (refine M3 ?_; first | refine O6 ?_ | refine z2 tok rfl ?_ | refine O8 rfl ?_ | refine O7 rfl ?_ rfl | refine O9 rfl ?_ rfl | refine U1 _ (Ev.call (f := 100) (ck rfl) rfl (fun w5 S5 => hhead w5 S5)) rfl ?_ | refine U1 _ (Ev.load_old tok rfl rfl hlg c15) rfl ?_ | refine U1 _ (U4 rfl rfl) rfl ?_ | refine U1 _ (U5 rfl rfl) rfl ?_ | refine U1 _ (U2 rfl) rfl ?_ | refine U1 _ (U3 tok rfl rfl rfl rfl rfl) rfl ?_) | (refine M4 ?_; first | refine M6 ?_ | refine U6 rfl (by kernel_rfl) ?_ | refine U7 (by kernel_rfl) ?_) | (refine M5 ?_; first | exact M7 | refine U8 rfl ?_ | refine U9 rfl rfl ?_ ?_))
  rename_i g13 hg13
  refine XC.loopk [3, 4, 13, 25, 26] rfl (fun s : Nat × Int × Int => [(27, .int .i64 (s.1 : Nat)), (10, .int .i64 s.2.1), (11, .int .i64 s.2.2)]) (fun _ => [(g13, _)]) (fun _ => w) (fun s => s.1 ≤ t.devs.length ∧ useTo n d o t.devs before on s.1 = some s.2 ∧ (0 ≤ s.2.1 ∧ s.2.1 ≤ 800000000000000000 * s.1) ∧ 0 ≤ s.2.2 ∧ s.2.2 ≤ 5000000000 * s.1) (fun s => t.devs.length - s.1) (0, 0, 0) ⟨Nat.zero_le _, rfl, by simp, by simp⟩ (by repeat (first | exact Sub.nil | refine Sub.cons rfl ?_)) (fun _ h => h) ?_
  rintro ⟨k, f, e⟩ ⟨hk, hto, hfb, heb⟩
  simp only at hk hto hfb heb
  dsimp only [List.cons_append, List.nil_append]
  repeat (first | (refine M0 ?_; first | refine O0 ?_ | refine z1 tok rfl ?_ | refine O1 rfl ?_ rfl | refine O2 rfl ?_ | refine O3 rfl ?_ rfl | refine O4 rfl rfl rfl (fun _ _ => ?_) | refine O5 tok rfl rfl rfl (fun _ _ => ?_) | refine U0 _ (U2 rfl) rfl ?_ | refine U0 _ (U3 tok rfl rfl rfl rfl rfl) rfl ?_ | refine z3 tok rfl ?_ | refine U0 _ (U4 rfl rfl) rfl ?_ | refine U0 _ (U5 rfl rfl) rfl ?_) | (refine M1 ?_; first | refine J0 ?_ | refine J1 ?_ | refine J2 mixed rfl (by kernel_rfl) ?_ | refine J3 mixed rfl rfl (by kernel_rfl) ?_ | refine J4 ?_ | refine J5 ?_ | refine J6 ?_ | refine J7 ?_ | refine J8 rfl ?_ | refine J9 rfl ?_) | (refine M2 ?_; first | refine I0 ?_ | refine I1 ?_ | refine I2 ?_ | refine I3 ?_ | refine I4 ?_ | refine I5 ?_ | refine I6 rfl ?_ | refine I7 ?_ | refine I8 ?_ | refine z4 ?_) | (refine M3 ?_; first | refine O6 ?_ | refine z2 tok rfl ?_ | refine O8 rfl ?_ | refine O7 rfl ?_ rfl | refine O9 rfl ?_ rfl | refine U1 _ (U4 rfl rfl) rfl ?_ | refine U1 _ (U5 rfl rfl) rfl ?_ | refine U1 _ (U2 rfl) rfl ?_ | refine U1 _ (U3 tok rfl rfl rfl rfl rfl) rfl ?_) | (refine M4 ?_; first | refine M6 ?_ | refine U6 rfl (by kernel_rfl) ?_ | refine U7 (by kernel_rfl) ?_) | (refine M5 ?_; first | exact M7 | refine U8 rfl ?_ | refine U9 rfl rfl ?_ ?_))
  refine XC.cond _ rfl (fun h1 => ?_) (fun h1 => ?_)
  rotate_left
  · have hkn : k = t.devs.length := by have := of_decide_eq_false h1; omega
    subst hkn
    repeat (first | (refine M0 ?_; first | refine O0 ?_ | refine z1 tok rfl ?_ | refine O1 rfl ?_ rfl | refine O2 rfl ?_ | refine O3 rfl ?_ rfl | refine O4 rfl rfl rfl (fun _ _ => ?_) | refine O5 tok rfl rfl rfl (fun _ _ => ?_) | refine U0 _ (U2 rfl) rfl ?_ | refine U0 _ (U3 tok rfl rfl rfl rfl rfl) rfl ?_ | refine z3 tok rfl ?_ | refine U0 _ (U4 rfl rfl) rfl ?_ | refine U0 _ (U5 rfl rfl) rfl ?_) | (refine M1 ?_; first | refine J0 ?_ | refine J1 ?_ | refine J2 mixed rfl (by kernel_rfl) ?_ | refine J3 mixed rfl rfl (by kernel_rfl) ?_ | refine J4 ?_ | refine J5 ?_ | refine J6 ?_ | refine J7 ?_ | refine J8 rfl ?_ | refine J9 rfl ?_) | (refine M2 ?_; first | refine I0 ?_ | refine I1 ?_ | refine I2 ?_ | refine I3 ?_ | refine I4 ?_ | refine I5 ?_ | refine I6 rfl ?_ | refine I7 ?_ | refine I8 ?_ | refine z4 ?_) | (refine M3 ?_; first | refine O6 ?_ | refine z2 tok rfl ?_ | refine O8 rfl ?_ | refine O7 rfl ?_ rfl | refine O9 rfl ?_ rfl | refine U1 _ (U4 rfl rfl) rfl ?_ | refine U1 _ (U5 rfl rfl) rfl ?_ | refine U1 _ (U2 rfl) rfl ?_ | refine U1 _ (U3 tok rfl rfl rfl rfl rfl) rfl ?_) | (refine M4 ?_; first | refine M6 ?_ | refine U6 rfl (by kernel_rfl) ?_ | refine U7 (by kernel_rfl) ?_) | (refine M5 ?_; first | exact M7 | refine U8 rfl ?_ | refine U9 rfl rfl ?_ ?_))
    refine XE.retg tok Try.results71 rfl (by simp only [and_self, and_true]) (fun w' S => ?_)
    rw [hU, hto]
    exact ⟨rfl, S.toBelow⟩
  have hkn : k < t.devs.length := by have := of_decide_eq_true h1; omega
  obtain ⟨ad, rfl, hld⟩ := hall.addr (by decide) (by omega)
  obtain ⟨ap, rfl, hlp⟩ := hb.addr (by decide) (by omega)
  obtain ⟨aq, rfl, hlq⟩ := hf.addr (by decide) (by omega)
  have hbk := boolAt hb (k := k) (by omega)
  have hfk := boolAt hf (k := k) (by omega)
  have hdk := hall.elem (List.getElem?_eq_getElem hkn) 0 (devV t.devs[k]) rfl
  rw [add_add, Nat.add_zero] at hdk
  have hgd : t.devs[k]?.getD d0 = t.devs[k] := by rw [List.getElem?_eq_getElem hkn]; rfl
  have hok := ho.dev _ (List.getElem_mem hkn)
  obtain ⟨z, hz⟩ : ∃ z, z = t.devs[k] := ⟨_, rfl⟩
  rw [← hz] at hdk hgd hok
  have hdk' : w.cell? (ad.add (k * 1)) = some (devV z) := hdk
  obtain ⟨f1, m1, k1, c1⟩ := dev_flow hH hok
  obtain ⟨f2, m2, k2, c2⟩ := dev_energy (bl before k) (bl on k) hH hok
  have heb2 := energy_bd (bl before k) (bl on k) hH hok
  have hon' : bl on k = true → _ := fun h => useTo_on hto h
  have hoff' : bl on k = false → _ := fun h => useTo_off hto h
  rw [hgd] at hon' hoff'
  have hfbd := fun f => flow_bd (f := f) hH hok
  simp only [headC] at c1 c2
  repeat (first | (refine M0 ?_; first | refine O0 ?_ | refine z1 tok rfl ?_ | refine O1 rfl ?_ rfl | refine O2 rfl ?_ | refine O3 rfl ?_ rfl | refine U0 _ (Ev.load_old tok rfl rfl (add_lt hld) hdk') rfl ?_ | refine U0 _ (Ev.load_old tok rfl rfl (add_lt hlq) hfk) rfl ?_ | refine O4 rfl rfl rfl (fun _ _ => ?_) | refine O5 tok rfl rfl rfl (fun _ _ => ?_) | refine U0 _ (U2 rfl) rfl ?_ | refine U0 _ (U3 tok rfl rfl rfl rfl rfl) rfl ?_ | refine z3 tok rfl ?_ | refine U0 _ (U4 rfl rfl) rfl ?_ | refine U0 _ (U5 rfl rfl) rfl ?_) | (refine M1 ?_; first | refine J0 ?_ | refine J1 ?_ | refine J2 mixed rfl (by kernel_rfl) ?_ | refine J3 mixed rfl rfl (by kernel_rfl) ?_ | refine J4 ?_ | refine J5 ?_ | refine J6 ?_ | refine J7 ?_ | refine J8 rfl ?_ | refine J9 rfl ?_) | (refine M2 ?_; first | refine I0 ?_ | refine I1 ?_ | refine I2 ?_ | refine I3 ?_ | refine I4 ?_ | refine I5 ?_ | refine I6 rfl ?_ | refine I7 ?_ | refine I8 ?_ | refine z4 ?_) | (refine M3 ?_; first | refine O6 ?_ | refine z2 tok rfl ?_ | refine O8 rfl ?_ | refine O7 rfl ?_ rfl | refine O9 rfl ?_ rfl | refine U1 _ (Ev.load_old tok rfl rfl (add_lt hld) hdk') rfl ?_ | refine U1 _ (Ev.load_old tok rfl rfl (add_lt hlq) hfk) rfl ?_ | refine U1 _ (U4 rfl rfl) rfl ?_ | refine U1 _ (U5 rfl rfl) rfl ?_ | refine U1 _ (U2 rfl) rfl ?_ | refine U1 _ (U3 tok rfl rfl rfl rfl rfl) rfl ?_) | (refine M4 ?_; first | refine M6 ?_ | refine U6 rfl (by kernel_rfl) ?_ | refine U7 (by kernel_rfl) ?_) | (refine M5 ?_; first | exact M7 | refine U8 rfl ?_ | refine U9 rfl rfl ?_ ?_))
  cases hbo : bl on k with
  | true =>
    have hon2 := hon' hbo
    rw [hbo] at c2 heb2 hfk
    repeat (first | (refine M0 ?_; first | refine O0 ?_ | refine z1 tok rfl ?_ | refine O1 rfl ?_ rfl | refine O2 rfl ?_ | refine O3 rfl ?_ rfl | refine U0 _ (Ev.load_old tok rfl rfl (add_lt hlq) hfk) rfl ?_ | refine O4 rfl rfl rfl (fun _ _ => ?_) | refine O5 tok rfl rfl rfl (fun _ _ => ?_) | refine U0 _ (U2 rfl) rfl ?_ | refine U0 _ (U3 tok rfl rfl rfl rfl rfl) rfl ?_ | refine z3 tok rfl ?_ | refine U0 _ (U4 rfl rfl) rfl ?_ | refine U0 _ (U5 rfl rfl) rfl ?_) | (refine M1 ?_; first | refine J0 ?_ | refine J1 ?_ | refine J2 mixed rfl (by kernel_rfl) ?_ | refine J3 mixed rfl rfl (by kernel_rfl) ?_ | refine J4 ?_ | refine J5 ?_ | refine J6 ?_ | refine J7 ?_ | refine J8 rfl ?_ | refine J9 rfl ?_) | (refine M2 ?_; first | refine I0 ?_ | refine I1 ?_ | refine I2 ?_ | refine I3 ?_ | refine I4 ?_ | refine I5 ?_ | refine I6 rfl ?_ | refine I7 ?_ | refine I8 ?_ | refine z4 ?_) | (refine M3 ?_; first | refine O6 ?_ | refine z2 tok rfl ?_ | refine O8 rfl ?_ | refine O7 rfl ?_ rfl | refine O9 rfl ?_ rfl | refine U1 _ (Ev.load_old tok rfl rfl (add_lt hlq) hfk) rfl ?_ | refine U1 _ (U4 rfl rfl) rfl ?_ | refine U1 _ (U5 rfl rfl) rfl ?_ | refine U1 _ (U2 rfl) rfl ?_ | refine U1 _ (U3 tok rfl rfl rfl rfl rfl) rfl ?_) | (refine M4 ?_; first | refine M6 ?_ | refine U6 rfl (by kernel_rfl) ?_ | refine U7 (by kernel_rfl) ?_) | (refine M5 ?_; first | exact M7 | refine U8 rfl ?_ | refine U9 rfl rfl ?_ ?_))
    cases hfw : z.flow n d o with
    | none =>
      rw [hfw] at hon2 c1
      simp only [flowV] at c1
      repeat (first | (refine M0 ?_; first | refine O0 ?_ | refine z1 tok rfl ?_ | refine O1 rfl ?_ rfl | refine O2 rfl ?_ | refine O3 rfl ?_ rfl | refine U0 _ (Ev.invoke (t := z.ty) (v := .agg ⟨z.c⟩) m1 k1 rfl rfl (fun w S => c1 w)) rfl ?_ | refine O4 rfl rfl rfl (fun _ _ => ?_) | refine O5 tok rfl rfl rfl (fun _ _ => ?_) | refine U0 _ (U2 rfl) rfl ?_ | refine U0 _ (U3 tok rfl rfl rfl rfl rfl) rfl ?_ | refine z3 tok rfl ?_ | refine U0 _ (U4 rfl rfl) rfl ?_ | refine U0 _ (U5 rfl rfl) rfl ?_) | (refine M1 ?_; first | refine J0 ?_ | refine J1 ?_ | refine J2 mixed rfl (by kernel_rfl) ?_ | refine J3 mixed rfl rfl (by kernel_rfl) ?_ | refine J4 ?_ | refine J5 ?_ | refine J6 ?_ | refine J7 ?_ | refine J8 rfl ?_ | refine J9 rfl ?_) | (refine M2 ?_; first | refine I0 ?_ | refine I1 ?_ | refine I2 ?_ | refine I3 ?_ | refine I4 ?_ | refine I5 ?_ | refine I6 rfl ?_ | refine I7 ?_ | refine I8 ?_ | refine z4 ?_) | (refine M3 ?_; first | refine O6 ?_ | refine z2 tok rfl ?_ | refine O8 rfl ?_ | refine O7 rfl ?_ rfl | refine O9 rfl ?_ rfl | refine U1 _ (Ev.invoke (t := z.ty) (v := .agg ⟨z.c⟩) m1 k1 rfl rfl (fun w S => c1 w)) rfl ?_ | refine U1 _ (U4 rfl rfl) rfl ?_ | refine U1 _ (U5 rfl rfl) rfl ?_ | refine U1 _ (U2 rfl) rfl ?_ | refine U1 _ (U3 tok rfl rfl rfl rfl rfl) rfl ?_) | (refine M4 ?_; first | refine M6 ?_ | refine U6 rfl (by kernel_rfl) ?_ | refine U7 (by kernel_rfl) ?_) | (refine M5 ?_; first | exact M7 | refine U8 rfl ?_ | refine U9 rfl rfl ?_ ?_))
      refine XE.retg tok Try.results71 rfl (by simp only [and_self, and_true]) (fun w' S => ?_)
      rw [hU, useTo_none (by omega : k + 1 ≤ t.devs.length) hon2]
      exact ⟨rfl, S.toBelow⟩
    | some y =>
      have hy := hfbd y hfw
      rw [hfw] at hon2 c1
      simp only [flowV] at c1 hon2
      repeat (first | (refine M0 ?_; first | refine O0 ?_ | refine z1 tok rfl ?_ | refine O1 rfl ?_ rfl | refine O2 rfl ?_ | refine O3 rfl ?_ rfl | refine U0 _ (Ev.invoke (t := z.ty) (v := .agg ⟨z.c⟩) m1 k1 rfl rfl (fun w S => c1 w)) rfl ?_ | refine U0 _ (Ev.load_old tok rfl rfl (add_lt hlp) hbk) rfl ?_ | refine U0 _ (Ev.load_old tok rfl rfl (add_lt hlq) hfk) rfl ?_ | refine U0 _ (Ev.makeFunc rfl rfl) rfl ?_ | refine U0 _ (Ev.nilCheckM m2 rfl) rfl ?_ | refine U0 _ (Ev.invoke (t := z.ty) (v := .agg ⟨z.c⟩) m2 k2 rfl rfl (fun w S => c2 w)) rfl ?_ | refine O4 rfl rfl rfl (fun _ _ => ?_) | refine O5 tok rfl rfl rfl (fun _ _ => ?_) | refine U0 _ (U2 rfl) rfl ?_ | refine U0 _ (U3 tok rfl rfl rfl rfl rfl) rfl ?_ | refine z3 tok rfl ?_ | refine U0 _ (U4 rfl rfl) rfl ?_ | refine U0 _ (U5 rfl rfl) rfl ?_) | (refine M1 ?_; first | refine J0 ?_ | refine J1 ?_ | refine J2 mixed rfl (by kernel_rfl) ?_ | refine J3 mixed rfl rfl (by kernel_rfl) ?_ | refine J4 ?_ | refine J5 ?_ | refine J6 ?_ | refine J7 ?_ | refine J8 rfl ?_ | refine J9 rfl ?_) | (refine M2 ?_; first | refine I0 ?_ | refine I1 ?_ | refine I2 ?_ | refine I3 ?_ | refine I4 ?_ | refine I5 ?_ | refine I6 rfl ?_ | refine I7 ?_ | refine I8 ?_ | refine z4 ?_) | (refine M3 ?_; first | refine O6 ?_ | refine z2 tok rfl ?_ | refine O8 rfl ?_ | refine O7 rfl ?_ rfl | refine O9 rfl ?_ rfl | refine U1 _ (Ev.invoke (t := z.ty) (v := .agg ⟨z.c⟩) m1 k1 rfl rfl (fun w S => c1 w)) rfl ?_ | refine U1 _ (Ev.load_old tok rfl rfl (add_lt hlp) hbk) rfl ?_ | refine U1 _ (Ev.load_old tok rfl rfl (add_lt hlq) hfk) rfl ?_ | refine U1 _ (Ev.makeFunc rfl rfl) rfl ?_ | refine U1 _ (Ev.nilCheckM m2 rfl) rfl ?_ | refine U1 _ (Ev.invoke (t := z.ty) (v := .agg ⟨z.c⟩) m2 k2 rfl rfl (fun w S => c2 w)) rfl ?_ | refine U1 _ (U4 rfl rfl) rfl ?_ | refine U1 _ (U5 rfl rfl) rfl ?_ | refine U1 _ (U2 rfl) rfl ?_ | refine U1 _ (U3 tok rfl rfl rfl rfl rfl) rfl ?_) | (refine M4 ?_; first | refine M6 ?_ | refine U6 rfl (by kernel_rfl) ?_ | refine U7 (by kernel_rfl) ?_) | (refine M5 ?_; first | exact M7 | refine U8 rfl ?_ | refine U9 rfl rfl ?_ ?_))
      exact XE.round (s := (k, f, e)) (k + 1, f + y, e + z.energy n d o (bl before k) true) ⟨hkn, hon2, by simp only; omega, by simp only; omega⟩ (by simp only; omega) (by repeat (first | exact Sub.nil | refine Sub.cons rfl ?_)) (fun _ h => h)
  | false =>
    have hoff2 := hoff' hbo
    rw [hbo] at c2 heb2 hfk
    repeat (first | (refine M0 ?_; first | refine O0 ?_ | refine z1 tok rfl ?_ | refine O1 rfl ?_ rfl | refine O2 rfl ?_ | refine O3 rfl ?_ rfl | refine U0 _ (Ev.load_old tok rfl rfl (add_lt hlp) hbk) rfl ?_ | refine U0 _ (Ev.load_old tok rfl rfl (add_lt hlq) hfk) rfl ?_ | refine U0 _ (Ev.makeFunc rfl rfl) rfl ?_ | refine U0 _ (Ev.nilCheckM m2 rfl) rfl ?_ | refine U0 _ (Ev.invoke (t := z.ty) (v := .agg ⟨z.c⟩) m2 k2 rfl rfl (fun w S => c2 w)) rfl ?_ | refine O4 rfl rfl rfl (fun _ _ => ?_) | refine O5 tok rfl rfl rfl (fun _ _ => ?_) | refine U0 _ (U2 rfl) rfl ?_ | refine U0 _ (U3 tok rfl rfl rfl rfl rfl) rfl ?_ | refine z3 tok rfl ?_ | refine U0 _ (U4 rfl rfl) rfl ?_ | refine U0 _ (U5 rfl rfl) rfl ?_) | (refine M1 ?_; first | refine J0 ?_ | refine J1 ?_ | refine J2 mixed rfl (by kernel_rfl) ?_ | refine J3 mixed rfl rfl (by kernel_rfl) ?_ | refine J4 ?_ | refine J5 ?_ | refine J6 ?_ | refine J7 ?_ | refine J8 rfl ?_ | refine J9 rfl ?_) | (refine M2 ?_; first | refine I0 ?_ | refine I1 ?_ | refine I2 ?_ | refine I3 ?_ | refine I4 ?_ | refine I5 ?_ | refine I6 rfl ?_ | refine I7 ?_ | refine I8 ?_ | refine z4 ?_) | (refine M3 ?_; first | refine O6 ?_ | refine z2 tok rfl ?_ | refine O8 rfl ?_ | refine O7 rfl ?_ rfl | refine O9 rfl ?_ rfl | refine U1 _ (Ev.load_old tok rfl rfl (add_lt hlp) hbk) rfl ?_ | refine U1 _ (Ev.load_old tok rfl rfl (add_lt hlq) hfk) rfl ?_ | refine U1 _ (Ev.makeFunc rfl rfl) rfl ?_ | refine U1 _ (Ev.nilCheckM m2 rfl) rfl ?_ | refine U1 _ (Ev.invoke (t := z.ty) (v := .agg ⟨z.c⟩) m2 k2 rfl rfl (fun w S => c2 w)) rfl ?_ | refine U1 _ (U4 rfl rfl) rfl ?_ | refine U1 _ (U5 rfl rfl) rfl ?_ | refine U1 _ (U2 rfl) rfl ?_ | refine U1 _ (U3 tok rfl rfl rfl rfl rfl) rfl ?_) | (refine M4 ?_; first | refine M6 ?_ | refine U6 rfl (by kernel_rfl) ?_ | refine U7 (by kernel_rfl) ?_) | (refine M5 ?_; first | exact M7 | refine U8 rfl ?_ | refine U9 rfl rfl ?_ ?_))
    exact XE.round (s := (k, f, e)) (k + 1, f, e + z.energy n d o (bl before k) false) ⟨hkn, hoff2, by simp only; omega, by simp only; omega⟩ (by simp only; omega) (by repeat (first | exact Sub.nil | refine Sub.cons rfl ?_)) (fun _ h => h)
end Go.Proofs.Ytmodjcegmgjhoaa.X
/-
  The walk of do (runoff).
-/
namespace Go.Proofs.Ytmodjcegmgjhoaa.X
open Go Go.RowKit Go.Proofs.Ytmodjcegmgjhoaa.Bs
set_option linter.unusedVariables false
def doneC (q : SV) (d : Done) : List Value := [.int .i64 d.s.vol, .slice q.A q.n q.c, .int .i64 d.out, .int .i64 d.energy, .int .i64 d.cost]
def DoV (E : Int) (D : Done) (v : Value) (new : List Held) : Prop := ∃ q : SV, v = .tuple ⟨[.agg ⟨doneC q D⟩, .int .i64 E]⟩ ∧ new = [hInts q D.s.fil]
def StepMV (b : Bas) (s : Sta) (t : Tick) (v : Value) (new : List Held) : Prop := ∃ q r : SV, v = .tuple ⟨[staV q (outS b s t), floV r (outF b s t), .int .i64 (stepE b s t)]⟩ ∧ new = [hInts q (outS b s t).fil, hInts r (outF b s t).taken]
theorem Step_madeR {p : BV} {b : Bas} {q : SV} {s : Sta} {t : Tick} {w : World} (hb : BasAt w w.heap.size p b) (hq : IntsAt w (Lt w.heap.size) q s.fil) (hc : chkE b = 0) (hs : StaOk b s) :
    Calls Try.prog 117 #[basV p b, staV q s, tickV t] w (Made w (StepMV b s t)) :=
  (Step_any (t := t) hb hq).mono fun e w' ⟨v, h1, ⟨q2, r2, h2, h3, h4, h5⟩⟩ => by
    obtain ⟨f1, f2, f3⟩ := full_0 (t := t) (staErr_ok hc hs)
    rw [f1, f2, f3] at h2
    rw [f2] at h3
    rw [f3] at h4
    exact ⟨v, _, h1, ⟨q2, r2, h2, rfl⟩, fun x hx => by
      rcases List.mem_cons.1 hx with rfl | hx
      · exact h3
      · rw [List.mem_singleton.1 hx]; exact h4, h5⟩
/-- where a planner stands in a walk. -/
structure Plr (w : World) (g gt gm : Nat) (v : RTV) (r : SV) (t : RTk) : Prop where
  p : PlnAt w (Lt w.heap.size) g gt gm v r t
  t : TskAt w w.heap.size v t
theorem Plr.sys {w w' : World} {g gt gm : Nat} {v : RTV} {r : SV} {t : RTk} {L : Lo} (h : Plr w g gt gm v r t) (S : Sys w.heap.size w L w') : Plr w' g gt gm v r t :=
  ⟨(h.p.keep fun k hk => S.old k hk fun e he e1 => by have := (S.own e he).1; have hk' : k < w.heap.size := hk; omega).mono fun k hk => Nat.lt_of_lt_of_le hk S.size, h.t.sys S⟩
theorem Plr.below {w w' : World} {g gt gm : Nat} {v : RTV} {r : SV} {t : RTk} (h : Plr w g gt gm v r t) (hb : Below w.heap.size w w') : Plr w' g gt gm v r t := h.sys (Sys.ofBelow hb)
theorem chk_rt {t : RTk} (h : rtE t = 0) : chkE t.b = 0 := by
  unfold rtE chkT at h
  split at h
  · rename_i h1; exact absurd h h1
  · rename_i h1; simpa using h1
theorem useTo_bd {n d o : Int} {ds : List Dev} {b f : List Bool} (h : HeadOk n d o) (hd : ∀ x, x ∈ ds → DevOk x) : ∀ {k : Nat} {p : Int × Int}, k ≤ ds.length → useTo n d o ds b f k = some p → 0 ≤ p.1 ∧ 0 ≤ p.2 ∧ p.2 ≤ 5000000000 * k := by
  intro k
  induction k with
  | zero => intro p _ h; cases h; simp
  | succ k ih =>
    intro p hk hp
    cases h1 : useTo n d o ds b f k with
    | none => rw [useTo_none (Nat.le_succ k) h1] at hp; cases hp
    | some q =>
      have hq := ih (by omega) h1
      have hx : ds[k]?.getD d0 ∈ ds := by rw [List.getElem?_eq_getElem (by omega)]; exact List.getElem_mem _
      have hb := fun y => energy_bd (bl b k) y h (hd _ hx)
      cases h2 : bl f k with
      | true =>
        rw [useTo_on h1 h2] at hp
        cases h3 : (ds[k]?.getD d0).flow n d o with
        | none => rw [h3] at hp; cases hp
        | some x =>
          rw [h3] at hp
          cases hp
          have hf := flow_bd h (hd _ hx) h3
          have := hb true
          simp only
          omega
      | false =>
        rw [useTo_off h1 h2] at hp
        cases hp
        have := hb false
        simp only
        omega
theorem use_bd {t : RTk} (h : RtOk t) {x : Int} (hx : (t.b.row 0).vol ≤ x ∧ x ≤ 1000000000) {i : Nat} (hi : i < t.outer.length) {b f : List Bool} {p : Int × Int} (e : t.use x i b f = some p) : (0 ≤ p.1 ∧ p.1 ≤ 10000000) ∧ 0 ≤ p.2 ∧ p.2 ≤ 20000000000 := by
  unfold RTk.use at e
  cases h1 : useTo (num t.b x) (den t.b x) (at0 t.outer i) t.devs b f t.devs.length with
  | none => rw [h1] at e; cases e
  | some q =>
    rw [h1] at e
    obtain ⟨a, c⟩ := q
    simp only [Option.some.injEq] at e
    subst e
    have := useTo_bd (use_head h hx hi) h.dev (Nat.le_refl _) h1
    have hm4 : t.devs.length ≤ 4 := by have := t.devs_len; unfold RTk.many at this; have := h.s2; have := h.p2; omega
    simp only at this ⊢
    omega
/-- what a choice leads to is a state of the basin. -/
theorem do_sta {t : RTk} (h : RtOk t) {s : Sta} (hs : StaOk t.b s) {i : Nat} (hi : i < t.outer.length) {b f : List Bool} (e : t.doE s i b f = 0) : StaOk t.b (t.doD s i b f).s ∧ 0 ≤ (t.doD s i b f).cost ∧ (t.doD s i b f).cost ≤ 200000000000000 ∧ ∃ p, t.use s.vol i b f = some p ∧ stepE t.b s (t.tickOf i p.1) = 0 ∧ t.doD s i b f = ⟨outS t.b s (t.tickOf i p.1), p.1, p.2, p.2 * at0 t.prices i⟩ := by
  have e' := e
  unfold RTk.doE at e'
  cases h1 : t.use s.vol i b f with
  | none => rw [h1] at e'; cases e'
  | some p =>
    rw [h1] at e'
    obtain ⟨a, c⟩ := p
    simp only at e'
    split at e'
    · cases e'
    · rename_i h2
      have h2' : stepE t.b s (t.tickOf i a) = 0 := by simpa using h2
      have hd : t.doD s i b f = ⟨outS t.b s (t.tickOf i a), a, c, c * at0 t.prices i⟩ := by
        unfold RTk.doD
        rw [if_pos e, h1]
      have hb := use_bd h hs.vol hi h1
      simp only at hb
      have hp := h.pri_ i hi
      have hm := mul_bd (X := 20000000000) (Y := 10000) (x := c) (y := at0 t.prices i) (by omega) (by omega)
      have hm0 : 0 ≤ c * at0 t.prices i := Int.mul_nonneg (by omega) hp.1
      rw [hd]
      refine ⟨?_, hm0, by simp only; omega, (a, c), rfl, h2', rfl⟩
      have := stepS_ok h.ok hs h2'
      rw [← outS_0 h2'] at this
      exact this
/-- the next operation calls what is held in this slot. -/
theorem XL.at_callv {P : Program} {N B : Nat} {w0 : World} {ds : List Deferred} {Q : Exit → Act → World → Prop} {F : Fr} {L : Lo} {ops : Array Oper} {rest : List Oper} {ty : TypeId} {p : String} {af : Array Edge} {d : Nat} (t : Nat) {args : Array Operand} {ats : Array TypeId} (k : XL P N B w0 ds Q ops ({ dst := some d, op := .call { callee := .value (.tmp t), args := args, argTypes := ats }, type := ty, pos := p, after := af, guard := none } :: rest) F L) :
    XL P N B w0 ds Q ops ({ dst := some d, op := .call { callee := .value (.tmp t), args := args, argTypes := ats }, type := ty, pos := p, after := af, guard := none } :: rest) F L := k
theorem below_cell {B : Nat} {w w' : World} (h : Below B w w') {ad : Addr} (hb : ad.block < B) : w'.cell? ad = w.cell? ad := by unfold World.cell?; rw [h.block _ hb]
set_option maxHeartbeats 16000000 in
theorem do_made {g gt gm : Nat} {v : RTV} {r p q sq : SV} {t : RTk} {s : Sta} {i : Nat} {before on : List Bool} {w : World} (hp : Plr w g gt gm v r t) (hc0 : chkE t.b = 0) (ho : RtOk t) (hq : IntsAt w (Lt w.heap.size) sq s.fil) (hs : StaOk t.b s) (hi : i < t.outer.length)
    (hb : ListAt boolK w (Lt w.heap.size) p before) (hbl : before.length = t.devs.length) (hf : ListAt boolK w (Lt w.heap.size) q on) (hfl : on.length = t.devs.length) :
    Calls Try.prog 91 #[.pointer (some ⟨g, 0, none⟩), staV sq s, .int .i64 (i : Nat), svV p, svV q] w (Made w (DoV (t.doE s i before on) (t.doD s i before on))) := by
  obtain ⟨hlg, hc⟩ := plnCell hp.p
  have huse := fun {L : Lo} (w5 : World) (S5 : Sys w.heap.size w L w5) => use_any (hp.sys S5).p (hp.sys S5).t ho hs.vol hi (hb.arg S5) hbl (hf.arg S5) hfl
  have hhead := fun {L : Lo} {W : World} (y : Int) (hy : (t.b.row 0).vol ≤ y ∧ y ≤ 1000000000) (hpW : Plr W g gt gm v r t) (B : Nat) (hB : Below W.heap.size W W) (w5 : World) (S5 : Sys W.heap.size W L w5) => head_any (i := t.outer.length) (x := y) (hpW.sys S5).p (hpW.sys S5).t ho.ok hy
  have hcb : ∀ j u, (basC v.p t.b)[j]? = some u → w.cell? ((⟨g, 0, none⟩ : Addr).add j) = some u := fun j u hj => by
    rw [add_off, Nat.zero_add]
    refine hc j u ?_
    have hj5 : j < (basC v.p t.b).length := (List.getElem?_eq_some_iff.1 hj).1
    show (basC v.p t.b ++ _)[j]? = some u
    rw [List.getElem?_append_left hj5]
    exact hj
  obtain ⟨⟨Ab, nb, cb, Ab2, nb2, cb2⟩, tq, ⟨Ao, no, co⟩, ⟨Ar, nr, cr⟩, ⟨Ac, nc, cc⟩, su, pu, ton⟩ := v
  have hout := hp.t.outer
  have hriv := hp.t.river
  have hpri := hp.t.prices
  simp only at hout hriv hpri hcb
  have lo := hout.len
  have lr := hriv.len
  have lc := hpri.len
  simp only at lo lr lc
  subst lo lr lc
  have hrl := ho.river
  have hpl := ho.prices
  obtain ⟨ao, rfl, hlo, hco⟩ := hout.at_ (by omega)
  obtain ⟨ar, rfl, hlr, hcr⟩ := hriv.at_ (by omega)
  have dO := hco i hi
  have dR := hcr i (by omega)
  have c7 : w.cell? ⟨g, 7, none⟩ = some (.slice (some ao) t.outer.length co) := hc 7 _ rfl
  have c8 : w.cell? ⟨g, 8, none⟩ = some (.slice (some ar) t.river.length cr) := hc 8 _ rfl
  have c10 : w.cell? ⟨g, 10, none⟩ = some (.int .i64 t.low) := hc 10 _ rfl
  have c11 : w.cell? ⟨g, 11, none⟩ = some (.int .i64 t.high) := hc 11 _ rfl
  have c16 : w.cell? ⟨g, 16, none⟩ = some (.func (.func 89) #[] #[.pointer (some ⟨gt, 0, none⟩)]) := hc 16 _ rfl
  have hE : t.doE s i before on = match t.use s.vol i before on with
    | none => 170
    | some (f, _) =>
      if stepE t.b s (t.tickOf i f) ≠ 0 then 173
      else if num t.b (outS t.b s (t.tickOf i f)).vol < t.low * den t.b (outS t.b s (t.tickOf i f)).vol then 171
      else if t.high * den t.b (outS t.b s (t.tickOf i f)).vol < num t.b (outS t.b s (t.tickOf i f)).vol then 172 else 0 := rfl
  have hD : t.doE s i before on ≠ 0 → t.doD s i before on = Done.zero := fun h => by unfold RTk.doD; rw [if_neg h]
  have hDs := do_sta ho hs hi (b := before) (f := on)
  simp only [staV, staC, svV, basC] at huse hcb ⊢
  refine enter Try.func91 rfl Try.ntmps91 rfl ?_; simp only [frame, Nat.zero_add, Nat.reduceAdd]
  repeat (first | (refine M0 ?_; first | refine O0 ?_ | refine z1 tok rfl ?_ | refine O1 rfl ?_ rfl | refine O2 rfl ?_ | refine O3 rfl ?_ rfl | refine U0 _ (Ev.call (f := 71) (ck rfl) rfl (fun w5 S5 => huse w5 S5)) rfl ?_ | refine O4 rfl rfl rfl (fun _ _ => ?_) | refine O5 tok rfl rfl rfl (fun _ _ => ?_) | refine U0 _ (U2 rfl) rfl ?_ | refine U0 _ (U3 tok rfl rfl rfl rfl rfl) rfl ?_ | refine z3 tok rfl ?_ | refine U0 _ (U4 rfl rfl) rfl ?_ | refine U0 _ (U5 rfl rfl) rfl ?_) | (refine M1 ?_; first | refine J0 ?_ | refine J1 ?_ | refine J2 mixed rfl (by kernel_rfl) ?_ | refine J3 mixed rfl rfl (by kernel_rfl) ?_ | refine J4 ?_ | refine J5 ?_ | refine J6 ?_ | refine J7 ?_ | refine J8 rfl ?_ | refine J9 rfl ?_) | (refine M2 ?_; first | refine I0 ?_ | refine I1 ?_ | refine I2 ?_ | refine I3 ?_ | refine I4 ?_ | refine I5 ?_ | refine I6 rfl ?_ | refine I7 ?_ | refine I8 ?_ | refine z4 ?_) | (refine M3 ?_; first | refine O6 ?_ | refine z2 tok rfl ?_ | refine O8 rfl ?_ | refine O7 rfl ?_ rfl | refine O9 rfl ?_ rfl | refine U1 _ (Ev.call (f := 71) (ck rfl) rfl (fun w5 S5 => huse w5 S5)) rfl ?_ | refine U1 _ (U4 rfl rfl) rfl ?_ | refine U1 _ (U5 rfl rfl) rfl ?_ | refine U1 _ (U2 rfl) rfl ?_ | refine U1 _ (U3 tok rfl rfl rfl rfl rfl) rfl ?_) | (refine M4 ?_; first | refine M6 ?_ | refine U6 rfl (by kernel_rfl) ?_ | refine U7 (by kernel_rfl) ?_) | (refine M5 ?_; first | exact M7 | refine U8 rfl ?_ | refine U9 rfl rfl ?_ ?_))
  rename_i g6 hg6 g10 hg10
  cases hu : t.use s.vol i before on with
  | none =>
    rw [hu] at hE
    have hE : t.doE s i before on = 170 := hE
    simp only [useV]
    repeat (first | (refine M0 ?_; first | refine O0 ?_ | refine z1 tok rfl ?_ | refine O1 rfl ?_ rfl | refine O2 rfl ?_ | refine O3 rfl ?_ rfl | refine O4 rfl rfl rfl (fun _ _ => ?_) | refine O5 tok rfl rfl rfl (fun _ _ => ?_) | refine U0 _ (U2 rfl) rfl ?_ | refine U0 _ (U3 tok rfl rfl rfl rfl rfl) rfl ?_ | refine z3 tok rfl ?_ | refine U0 _ (U4 rfl rfl) rfl ?_ | refine U0 _ (U5 rfl rfl) rfl ?_) | (refine M1 ?_; first | refine J0 ?_ | refine J1 ?_ | refine J2 mixed rfl (by kernel_rfl) ?_ | refine J3 mixed rfl rfl (by kernel_rfl) ?_ | refine J4 ?_ | refine J5 ?_ | refine J6 ?_ | refine J7 ?_ | refine J8 rfl ?_ | refine J9 rfl ?_) | (refine M2 ?_; first | refine I0 ?_ | refine I1 ?_ | refine I2 ?_ | refine I3 ?_ | refine I4 ?_ | refine I5 ?_ | refine I6 rfl ?_ | refine I7 ?_ | refine I8 ?_ | refine z4 ?_) | (refine M3 ?_; first | refine O6 ?_ | refine z2 tok rfl ?_ | refine O8 rfl ?_ | refine O7 rfl ?_ rfl | refine O9 rfl ?_ rfl | refine U1 _ (U4 rfl rfl) rfl ?_ | refine U1 _ (U5 rfl rfl) rfl ?_ | refine U1 _ (U2 rfl) rfl ?_ | refine U1 _ (U3 tok rfl rfl rfl rfl rfl) rfl ?_) | (refine M4 ?_; first | refine M6 ?_ | refine U6 rfl (by kernel_rfl) ?_ | refine U7 (by kernel_rfl) ?_) | (refine M5 ?_; first | exact M7 | refine U8 rfl ?_ | refine U9 rfl rfl ?_ ?_))
    refine XE.retg tok Try.results91 rfl (by simp only [and_self, and_true]) (fun w' S => ?_)
    rw [hE, hD (by rw [hE]; decide)]
    exact ⟨_, _, rfl, ⟨⟨none, 0, 0⟩, rfl, rfl⟩, fun x hx => by rw [List.mem_singleton.1 hx]; exact IntsAt.nil, S.toBelow⟩
  | some pr =>
  obtain ⟨f, e⟩ := pr
  rw [hu] at hE
  simp only at hE
  have hub := use_bd ho hs.vol hi hu
  simp only at hub
  simp only [useV]
  obtain ⟨tk, htk⟩ : ∃ tk, tk = t.tickOf i f := ⟨_, rfl⟩
  rw [← htk] at hE
  have htkv : tickV tk = .agg ⟨[.int .i64 (at0 t.outer i), .int .i64 (at0 t.river i), .int .i64 f]⟩ := by rw [htk]; rfl
  have hstep := fun {L : Lo} (w5 : World) (S5 : Sys w.heap.size w L w5) => Step_madeR (t := tk) (hp.t.bas.sys S5) (hq.arg S5) hc0 hs
  rw [htkv] at hstep
  simp only [basV, basC, staV, staC] at hstep
  repeat (first | (refine M0 ?_; first | refine O0 ?_ | refine z1 tok rfl ?_ | refine O1 rfl ?_ rfl | refine O2 rfl ?_ | refine O3 rfl ?_ rfl | refine O4 rfl rfl rfl (fun _ _ => ?_) | refine O5 tok rfl rfl rfl (fun _ _ => ?_) | refine U0 _ (U2 rfl) rfl ?_ | refine U0 _ (U3 tok rfl rfl rfl rfl rfl) rfl ?_ | refine z3 tok rfl ?_ | refine U0 _ (U4 rfl rfl) rfl ?_ | refine U0 _ (U5 rfl rfl) rfl ?_) | (refine M1 ?_; first | refine J0 ?_ | refine J1 ?_ | refine J4 ?_ | refine J5 ?_ | refine J6 ?_ | refine J7 ?_ | refine J8 rfl ?_ | refine J9 rfl ?_) | (refine M2 ?_; first | refine I0 ?_ | refine I1 ?_ | refine I2 ?_ | refine I3 ?_ | refine I4 ?_ | refine I5 ?_ | refine I6 rfl ?_ | refine I7 ?_ | refine I8 ?_ | refine z4 ?_) | (refine M3 ?_; first | refine O6 ?_ | refine z2 tok rfl ?_ | refine O8 rfl ?_ | refine O7 rfl ?_ rfl | refine O9 rfl ?_ rfl | refine U1 _ (U4 rfl rfl) rfl ?_ | refine U1 _ (U5 rfl rfl) rfl ?_ | refine U1 _ (U2 rfl) rfl ?_ | refine U1 _ (U3 tok rfl rfl rfl rfl rfl) rfl ?_) | (refine M4 ?_; first | refine M6 ?_ | refine U6 rfl (by kernel_rfl) ?_ | refine U7 (by kernel_rfl) ?_) | (refine M5 ?_; first | exact M7 | refine U8 rfl ?_ | refine U9 rfl rfl ?_ ?_))
  refine XC.rebase (List.Sublist.refl _) (fun W0 S0 => ?_)
  have hB0 := S0.toBelow
  have hF0 : Fam W0 w.heap.size [g10, g6] [] [] := Fam.start S0.size
  have hk0 : ∀ k, k ∈ [g10, g6] → k < W0.heap.size := fun k hk => S0.keyLt k hk
  refine XC.cutn [0, 2, 3, 4, 6, 10, 12, 13] rfl (fun z : World × Nat × SV => [(15, .pointer (some ⟨z.2.1, 0, none⟩)), (17, .int .i64 (stepE t.b s tk))]) (fun z => [(z.2.1, cel 28 (staC z.2.2 (outS t.b s tk))), (g10, cel 66 [.int .i64 0, .slice none 0 0, .int .i64 0, .int .i64 0, .int .i64 0]), (g6, cel 28 [.int .i64 s.vol, .slice sq.A sq.n sq.c])]) (fun z => z.1) (fun z => Below w.heap.size w z.1 ∧ Fam z.1 w.heap.size [z.2.1, g10, g6] [] [hInts z.2.2 (outS t.b s tk).fil] ∧ ∀ k, k ∈ [z.2.1, g10, g6] → k < z.1.heap.size) ?_ ?_
  · refine XC.drawRS _ [(g10, cel 66 [.int .i64 0, .slice none 0 0, .int .i64 0, .int .i64 0, .int .i64 0]), (g6, cel 28 [.int .i64 s.vol, .slice sq.A sq.n sq.c])] [0, 1, 2, 3, 4, 5, 6, 7, 8, 9, 10, 11, 12, 13, 14, 15, 16, 17, 18, 19, 20, 21, 22, 23] [24, 25, 26, 27, 28, 29, 30, 31, 32, 33] mixed (fun _ h => Sys.anchor2 (by assumption) h (by repeat (first | exact List.Sublist.refl _ | exact List.nil_sublist _ | refine List.Sublist.cons_cons _ ?_ | refine List.Sublist.cons _ ?_))) rfl (by kernel_rfl) ?_
    repeat (any_goals (first | (refine M0 ?_; first | refine O0 ?_ | refine z1 tok rfl ?_ | refine O1 rfl ?_ rfl | refine O2 rfl ?_ | refine O3 rfl ?_ rfl | refine U0 _ (Ev.load_old_agg tok [.slice Ab nb cb, .int .i64 t.b.leak, .int .i64 t.b.crest, .int .i64 t.b.over, .slice Ab2 nb2 cb2] rfl rfl rfl hlg hcb) rfl ?_ | refine U0 _ (Ev.load_old tok rfl rfl hlg c7) rfl ?_ | refine U0 _ (Ev.load_old tok rfl rfl hlg c8) rfl ?_ | refine U0 _ (Ev.load_old tok rfl rfl (add_lt hlo) dO) rfl ?_ | refine U0 _ (Ev.load_old tok rfl rfl (add_lt hlr) dR) rfl ?_ | refine O4 rfl rfl rfl (fun _ _ => ?_) | refine O5 tok rfl rfl rfl (fun _ _ => ?_) | refine U0 _ (U2 rfl) rfl ?_ | refine U0 _ (U3 tok rfl rfl rfl rfl rfl) rfl ?_ | refine z3 tok rfl ?_ | refine U0 _ (U4 rfl rfl) rfl ?_ | refine U0 _ (U5 rfl rfl) rfl ?_ | (refine XL.at_call 117 ?_; refine XL.callF (StepMV t.b s tk) (ck rfl) rfl rfl (by assumption) (by assumption) (by assumption) (fun w1 S1 _ hB1 => hstep w1 (Sys.ofBelow hB1)) (fun w2 x new hR hF2 hB2 hk2 => ?_); obtain ⟨q2, r2, rfl, rfl⟩ := hR; simp only [staV, staC, floV, floC])) | (refine M1 ?_; first | refine J0 ?_ | refine J1 ?_ | refine J4 ?_ | refine J5 ?_ | refine J6 ?_ | refine J7 ?_ | refine J8 rfl ?_ | refine J9 rfl ?_) | (refine M2 ?_; first | refine I0 ?_ | refine I1 ?_ | refine I2 ?_ | refine I3 ?_ | refine I4 ?_ | refine I5 ?_ | refine I6 rfl ?_ | refine I7 ?_ | refine I8 ?_ | refine z4 ?_) | (refine M3 ?_; first | refine O6 ?_ | refine z2 tok rfl ?_ | refine O8 rfl ?_ | refine O7 rfl ?_ rfl | refine O9 rfl ?_ rfl | refine U1 _ (Ev.load_old_agg tok [.slice Ab nb cb, .int .i64 t.b.leak, .int .i64 t.b.crest, .int .i64 t.b.over, .slice Ab2 nb2 cb2] rfl rfl rfl hlg hcb) rfl ?_ | refine U1 _ (Ev.load_old tok rfl rfl hlg c7) rfl ?_ | refine U1 _ (Ev.load_old tok rfl rfl hlg c8) rfl ?_ | refine U1 _ (Ev.load_old tok rfl rfl (add_lt hlo) dO) rfl ?_ | refine U1 _ (Ev.load_old tok rfl rfl (add_lt hlr) dR) rfl ?_ | refine U1 _ (U4 rfl rfl) rfl ?_ | refine U1 _ (U5 rfl rfl) rfl ?_ | refine U1 _ (U2 rfl) rfl ?_ | refine U1 _ (U3 tok rfl rfl rfl rfl rfl) rfl ?_) | (refine M4 ?_; first | refine M6 ?_ | refine U6 rfl (by kernel_rfl) ?_ | refine U7 (by kernel_rfl) ?_) | (refine M5 ?_; first | exact M7 | refine U8 rfl ?_ | refine U9 rfl rfl ?_ ?_)))
    any_goals (repeat (first | exact AnyR.nil | refine AnyR.skip rfl ?_))
    all_goals
      refine XE.leafW (fun w9 S9 => ?_)
      apply Exists.intro (w9, _, q2)
      refine ⟨?pre, ?sub, ?sys⟩
      case sub => repeat (first | exact Sub.nil | refine Sub.cons rfl ?_)
      case sys => exact S9.rebase (by repeat (first | exact List.Sublist.refl _ | exact List.nil_sublist _ | refine List.Sublist.cons_cons _ ?_ | refine List.Sublist.cons _ ?_))
      case pre => exact ⟨Below.trans (by assumption) S9.toBelow, Fam.forget (Fam.add (Fam.atEnd (by assumption) S9 (by intro e he; repeat (first | (cases he; done) | (rcases List.mem_cons.1 he with rfl | he; · first | (right; assumption) | (left; simp <;> fail))))) (fun k hk => by left; simp only [List.mem_cons, List.not_mem_nil, or_false] at hk; simp only [List.map_cons, List.map_nil, List.mem_append, List.mem_cons, List.not_mem_nil, or_false]; omega)) (fun x hx => by simp only [List.mem_cons, List.not_mem_nil, or_false] at hx; subst hx; simp), fun k hk => S9.keyLt k (by simp only [List.map_cons, List.map_nil, List.mem_cons, List.not_mem_nil, or_false] at hk ⊢; omega)⟩
  rintro ⟨W1, g15, q1⟩ ⟨hB1, hF1, hk1⟩
  simp only at hB1 hF1 hk1
  dsimp only [List.cons_append, List.nil_append]
  refine XC.hint 15 2 ?_
  repeat (first | (refine M0 ?_; first | refine O0 ?_ | refine z1 tok rfl ?_ | refine O1 rfl ?_ rfl | refine O2 rfl ?_ | refine O3 rfl ?_ rfl | refine O4 rfl rfl rfl (fun _ _ => ?_) | refine O5 tok rfl rfl rfl (fun _ _ => ?_) | refine U0 _ (U2 rfl) rfl ?_ | refine U0 _ (U3 tok rfl rfl rfl rfl rfl) rfl ?_ | refine z3 tok rfl ?_ | refine U0 _ (U4 rfl rfl) rfl ?_ | refine U0 _ (U5 rfl rfl) rfl ?_) | (refine M1 ?_; first | refine J0 ?_ | refine J1 ?_ | refine J4 ?_ | refine J5 ?_ | refine J6 ?_ | refine J7 ?_ | refine J8 rfl ?_ | refine J9 rfl ?_) | (refine M2 ?_; first | refine I0 ?_ | refine I1 ?_ | refine I2 ?_ | refine I3 ?_ | refine I4 ?_ | refine I5 ?_ | refine I6 rfl ?_ | refine I7 ?_ | refine I8 ?_ | refine z4 ?_) | (refine M3 ?_; first | refine O6 ?_ | refine z2 tok rfl ?_ | refine O8 rfl ?_ | refine O7 rfl ?_ rfl | refine O9 rfl ?_ rfl | refine U1 _ (U4 rfl rfl) rfl ?_ | refine U1 _ (U5 rfl rfl) rfl ?_ | refine U1 _ (U2 rfl) rfl ?_ | refine U1 _ (U3 tok rfl rfl rfl rfl rfl) rfl ?_) | (refine M4 ?_; first | refine M6 ?_ | refine U6 rfl (by kernel_rfl) ?_ | refine U7 (by kernel_rfl) ?_) | (refine M5 ?_; first | exact M7 | refine U8 rfl ?_ | refine U9 rfl rfl ?_ ?_))
  refine XC.cond _ rfl (fun h1 => ?_) (fun h1 => ?_)
  · repeat (first | (refine M0 ?_; first | refine O0 ?_ | refine z1 tok rfl ?_ | refine O1 rfl ?_ rfl | refine O2 rfl ?_ | refine O3 rfl ?_ rfl | refine O4 rfl rfl rfl (fun _ _ => ?_) | refine O5 tok rfl rfl rfl (fun _ _ => ?_) | refine U0 _ (U2 rfl) rfl ?_ | refine U0 _ (U3 tok rfl rfl rfl rfl rfl) rfl ?_ | refine z3 tok rfl ?_ | refine U0 _ (U4 rfl rfl) rfl ?_ | refine U0 _ (U5 rfl rfl) rfl ?_) | (refine M1 ?_; first | refine J0 ?_ | refine J1 ?_ | refine J4 ?_ | refine J5 ?_ | refine J6 ?_ | refine J7 ?_ | refine J8 rfl ?_ | refine J9 rfl ?_) | (refine M2 ?_; first | refine I0 ?_ | refine I1 ?_ | refine I2 ?_ | refine I3 ?_ | refine I4 ?_ | refine I5 ?_ | refine I6 rfl ?_ | refine I7 ?_ | refine I8 ?_ | refine z4 ?_) | (refine M3 ?_; first | refine O6 ?_ | refine z2 tok rfl ?_ | refine O8 rfl ?_ | refine O7 rfl ?_ rfl | refine O9 rfl ?_ rfl | refine U1 _ (U4 rfl rfl) rfl ?_ | refine U1 _ (U5 rfl rfl) rfl ?_ | refine U1 _ (U2 rfl) rfl ?_ | refine U1 _ (U3 tok rfl rfl rfl rfl rfl) rfl ?_) | (refine M4 ?_; first | refine M6 ?_ | refine U6 rfl (by kernel_rfl) ?_ | refine U7 (by kernel_rfl) ?_) | (refine M5 ?_; first | exact M7 | refine U8 rfl ?_ | refine U9 rfl rfl ?_ ?_))
    have hE3 : t.doE s i before on = 173 := by rw [hE, if_pos (by simpa using h1)]
    refine XE.retg tok Try.results91 rfl (by simp only [and_self, and_true]) (fun w' S => ?_)
    rw [hE3, hD (by rw [hE3]; decide)]
    exact ⟨_, _, rfl, ⟨⟨none, 0, 0⟩, rfl, rfl⟩, fun x hx => by rw [List.mem_singleton.1 hx]; exact IntsAt.nil, hB1.trans S.toBelow⟩
  have hs0 : stepE t.b s tk = 0 := by simpa using h1
  rw [if_neg (by simpa using hs0)] at hE
  have hso : StaOk t.b (outS t.b s tk) := by
    have := stepS_ok ho.ok hs hs0
    rw [← outS_0 hs0] at this
    exact this
  have hhead := fun {L : Lo} (w5 : World) (S5 : Sys w.heap.size W1 L w5) => head_any (i := t.outer.length) (x := (outS t.b s tk).vol) (hp.below (hB1.trans S5.toBelow)).p (hp.below (hB1.trans S5.toBelow)).t ho.ok hso.vol
  have hO : outI t t.outer.length = 0 := by unfold outI; rw [if_neg (Nat.lt_irrefl _)]
  rw [hO] at hhead
  have hR := ho.ok.rowsOk
  have hnb := num_bd hR hso.vol
  have hdb := parts_bd hR hso.vol
  have hdp := den_pos hR (outS t.b s tk).vol
  obtain ⟨y, hy⟩ : ∃ y, y = (outS t.b s tk).vol := ⟨_, rfl⟩
  obtain ⟨n, hn⟩ : ∃ n, n = num t.b (outS t.b s tk).vol := ⟨_, rfl⟩
  obtain ⟨d, hd⟩ : ∃ d, d = den t.b (outS t.b s tk).vol := ⟨_, rfl⟩
  rw [← hn, ← hd] at hhead hE
  rw [← hn] at hnb
  rw [← hd] at hdb hdp
  rw [← hy] at hhead
  have hl := ho.low
  have hh := ho.high
  have hrow0 := (ho.ok.level 0 (by have := ho.ok.n2; omega)).1
  have hm1 := mul_bd (X := 20000) (Y := 1000000000) (x := t.low) (y := d) (by omega) (by omega)
  have hm2 := mul_bd (X := 20000) (Y := 1000000000) (x := t.high) (y := d) (by omega) (by omega)
  have c7' := (below_cell hB1 (ad := ⟨g, 7, none⟩) hlg).trans c7
  have c10' := (below_cell hB1 (ad := ⟨g, 10, none⟩) hlg).trans c10
  have c11' := (below_cell hB1 (ad := ⟨g, 11, none⟩) hlg).trans c11
  have c16' := (below_cell hB1 (ad := ⟨g, 16, none⟩) hlg).trans c16
  simp only [headC] at hhead
  simp only [staC]
  rw [← hy]
  repeat (first | (refine M0 ?_; first | refine O0 ?_ | refine z1 tok rfl ?_ | refine O1 rfl ?_ rfl | refine O2 rfl ?_ | refine O3 rfl ?_ rfl | refine O4 rfl rfl rfl (fun _ _ => ?_) | refine O5 tok rfl rfl rfl (fun _ _ => ?_) | refine U0 _ (U2 rfl) rfl ?_ | refine U0 _ (U3 tok rfl rfl rfl rfl rfl) rfl ?_ | refine z3 tok rfl ?_ | refine U0 _ (U4 rfl rfl) rfl ?_ | refine U0 _ (U5 rfl rfl) rfl ?_) | (refine M1 ?_; first | refine J0 ?_ | refine J1 ?_ | refine J4 ?_ | refine J5 ?_ | refine J6 ?_ | refine J7 ?_ | refine J8 rfl ?_ | refine J9 rfl ?_) | (refine M2 ?_; first | refine I0 ?_ | refine I1 ?_ | refine I2 ?_ | refine I3 ?_ | refine I4 ?_ | refine I5 ?_ | refine I6 rfl ?_ | refine I7 ?_ | refine I8 ?_ | refine z4 ?_) | (refine M3 ?_; first | refine O6 ?_ | refine z2 tok rfl ?_ | refine O8 rfl ?_ | refine O7 rfl ?_ rfl | refine O9 rfl ?_ rfl | refine U1 _ (U4 rfl rfl) rfl ?_ | refine U1 _ (U5 rfl rfl) rfl ?_ | refine U1 _ (U2 rfl) rfl ?_ | refine U1 _ (U3 tok rfl rfl rfl rfl rfl) rfl ?_) | (refine M4 ?_; first | refine M6 ?_ | refine U6 rfl (by kernel_rfl) ?_ | refine U7 (by kernel_rfl) ?_) | (refine M5 ?_; first | exact M7 | refine U8 rfl ?_ | refine U9 rfl rfl ?_ ?_))
  refine XC.cutln [0, 2, 6, 10, 12, 13, 15] rfl (fun g18 : Nat => [(18, .pointer (some ⟨g18, 0, none⟩))]) (fun g18 => [(g18, cel 179 [.int .i64 n, .int .i64 d, .int .i64 0])]) (fun g18 => W1.heap.size ≤ g18) ?_ (fun g18 hg18 => ?_)
  · refine XC.drawR _ [0, 1, 2, 3, 4, 5, 6, 7, 8] [9, 10, 11] mixed (fun _ h => h) rfl (by kernel_rfl) ?_
    repeat (any_goals (first | (refine M0 ?_; first | refine O0 ?_ | refine z1 tok rfl ?_ | refine O1 rfl ?_ rfl | refine O2 rfl ?_ | refine O3 rfl ?_ rfl | refine U0 _ (Ev.load_old tok rfl rfl hlg c7') rfl ?_ | refine U0 _ (Ev.call (f := 100) (ck rfl) rfl (fun w5 S5 => hhead w5 S5)) rfl ?_ | refine O4 rfl rfl rfl (fun _ _ => ?_) | refine O5 tok rfl rfl rfl (fun _ _ => ?_) | refine U0 _ (U2 rfl) rfl ?_ | refine U0 _ (U3 tok rfl rfl rfl rfl rfl) rfl ?_ | refine z3 tok rfl ?_ | refine U0 _ (U4 rfl rfl) rfl ?_ | refine U0 _ (U5 rfl rfl) rfl ?_) | (refine M1 ?_; first | refine J0 ?_ | refine J1 ?_ | refine J4 ?_ | refine J5 ?_ | refine J6 ?_ | refine J7 ?_ | refine J8 rfl ?_ | refine J9 rfl ?_) | (refine M2 ?_; first | refine I0 ?_ | refine I1 ?_ | refine I2 ?_ | refine I3 ?_ | refine I4 ?_ | refine I5 ?_ | refine I6 rfl ?_ | refine I7 ?_ | refine I8 ?_ | refine z4 ?_) | (refine M3 ?_; first | refine O6 ?_ | refine z2 tok rfl ?_ | refine O8 rfl ?_ | refine O7 rfl ?_ rfl | refine O9 rfl ?_ rfl | refine U1 _ (Ev.load_old tok rfl rfl hlg c7') rfl ?_ | refine U1 _ (Ev.call (f := 100) (ck rfl) rfl (fun w5 S5 => hhead w5 S5)) rfl ?_ | refine U1 _ (U4 rfl rfl) rfl ?_ | refine U1 _ (U5 rfl rfl) rfl ?_ | refine U1 _ (U2 rfl) rfl ?_ | refine U1 _ (U3 tok rfl rfl rfl rfl rfl) rfl ?_) | (refine M4 ?_; first | refine M6 ?_ | refine U6 rfl (by kernel_rfl) ?_ | refine U7 (by kernel_rfl) ?_) | (refine M5 ?_; first | exact M7 | refine U8 rfl ?_ | refine U9 rfl rfl ?_ ?_)))
    any_goals (repeat (first | exact AnyR.nil | refine AnyR.skip rfl ?_))
    all_goals exact XE.leaf _ (by repeat (first | exact Sub.nil | refine Sub.cons rfl ?_)) (fun _ S' => by first | exact S' | exact S'.perm (by repeat (first | exact List.Perm.refl _ | refine perm1 ?_ | refine List.Perm.cons _ ?_ | refine perm2 ?_)) | exact (S'.pop (by assumption)) | exact (S'.pop2 (by assumption))) (by assumption)
  dsimp only [List.cons_append, List.nil_append]
  refine XC.hint 18 3 (XC.hint 15 2 ?_)
  repeat (first | (refine M0 ?_; first | refine O0 ?_ | refine z1 tok rfl ?_ | refine O1 rfl ?_ rfl | refine O2 rfl ?_ | refine O3 rfl ?_ rfl | refine U0 _ (Ev.load_old tok rfl rfl hlg c10') rfl ?_ | refine O4 rfl rfl rfl (fun _ _ => ?_) | refine O5 tok rfl rfl rfl (fun _ _ => ?_) | refine U0 _ (U2 rfl) rfl ?_ | refine U0 _ (U3 tok rfl rfl rfl rfl rfl) rfl ?_ | refine z3 tok rfl ?_ | refine U0 _ (U4 rfl rfl) rfl ?_ | refine U0 _ (U5 rfl rfl) rfl ?_) | (refine M1 ?_; first | refine J0 ?_ | refine J1 ?_ | refine J2 mixed rfl (by kernel_rfl) ?_ | refine J3 mixed rfl rfl (by kernel_rfl) ?_ | refine J4 ?_ | refine J5 ?_ | refine J6 ?_ | refine J7 ?_ | refine J8 rfl ?_ | refine J9 rfl ?_) | (refine M2 ?_; first | refine I0 ?_ | refine I1 ?_ | refine I2 ?_ | refine I3 ?_ | refine I4 ?_ | refine I5 ?_ | refine I6 rfl ?_ | refine I7 ?_ | refine I8 ?_ | refine z4 ?_) | (refine M3 ?_; first | refine O6 ?_ | refine z2 tok rfl ?_ | refine O8 rfl ?_ | refine O7 rfl ?_ rfl | refine O9 rfl ?_ rfl | refine U1 _ (Ev.load_old tok rfl rfl hlg c10') rfl ?_ | refine U1 _ (U4 rfl rfl) rfl ?_ | refine U1 _ (U5 rfl rfl) rfl ?_ | refine U1 _ (U2 rfl) rfl ?_ | refine U1 _ (U3 tok rfl rfl rfl rfl rfl) rfl ?_) | (refine M4 ?_; first | refine M6 ?_ | refine U6 rfl (by kernel_rfl) ?_ | refine U7 (by kernel_rfl) ?_) | (refine M5 ?_; first | exact M7 | refine U8 rfl ?_ | refine U9 rfl rfl ?_ ?_))
  refine XC.cond _ rfl (fun h2 => ?_) (fun h2 => ?_)
  · repeat (first | (refine M0 ?_; first | refine O0 ?_ | refine z1 tok rfl ?_ | refine O1 rfl ?_ rfl | refine O2 rfl ?_ | refine O3 rfl ?_ rfl | refine O4 rfl rfl rfl (fun _ _ => ?_) | refine O5 tok rfl rfl rfl (fun _ _ => ?_) | refine U0 _ (U2 rfl) rfl ?_ | refine U0 _ (U3 tok rfl rfl rfl rfl rfl) rfl ?_ | refine z3 tok rfl ?_ | refine U0 _ (U4 rfl rfl) rfl ?_ | refine U0 _ (U5 rfl rfl) rfl ?_) | (refine M1 ?_; first | refine J0 ?_ | refine J1 ?_ | refine J4 ?_ | refine J5 ?_ | refine J6 ?_ | refine J7 ?_ | refine J8 rfl ?_ | refine J9 rfl ?_) | (refine M2 ?_; first | refine I0 ?_ | refine I1 ?_ | refine I2 ?_ | refine I3 ?_ | refine I4 ?_ | refine I5 ?_ | refine I6 rfl ?_ | refine I7 ?_ | refine I8 ?_ | refine z4 ?_) | (refine M3 ?_; first | refine O6 ?_ | refine z2 tok rfl ?_ | refine O8 rfl ?_ | refine O7 rfl ?_ rfl | refine O9 rfl ?_ rfl | refine U1 _ (U4 rfl rfl) rfl ?_ | refine U1 _ (U5 rfl rfl) rfl ?_ | refine U1 _ (U2 rfl) rfl ?_ | refine U1 _ (U3 tok rfl rfl rfl rfl rfl) rfl ?_) | (refine M4 ?_; first | refine M6 ?_ | refine U6 rfl (by kernel_rfl) ?_ | refine U7 (by kernel_rfl) ?_) | (refine M5 ?_; first | exact M7 | refine U8 rfl ?_ | refine U9 rfl rfl ?_ ?_))
    have hE4 : t.doE s i before on = 171 := by rw [hE, if_pos (by simpa using h2)]
    refine XE.retg tok Try.results91 rfl (by simp only [and_self, and_true]) (fun w' S => ?_)
    rw [hE4, hD (by rw [hE4]; decide)]
    exact ⟨_, _, rfl, ⟨⟨none, 0, 0⟩, rfl, rfl⟩, fun x hx => by rw [List.mem_singleton.1 hx]; exact IntsAt.nil, hB1.trans S.toBelow⟩
  rw [if_neg (by simpa using h2)] at hE
  repeat (first | (refine M0 ?_; first | refine O0 ?_ | refine z1 tok rfl ?_ | refine O1 rfl ?_ rfl | refine O2 rfl ?_ | refine O3 rfl ?_ rfl | refine U0 _ (Ev.load_old tok rfl rfl hlg c11') rfl ?_ | refine O4 rfl rfl rfl (fun _ _ => ?_) | refine O5 tok rfl rfl rfl (fun _ _ => ?_) | refine U0 _ (U2 rfl) rfl ?_ | refine U0 _ (U3 tok rfl rfl rfl rfl rfl) rfl ?_ | refine z3 tok rfl ?_ | refine U0 _ (U4 rfl rfl) rfl ?_ | refine U0 _ (U5 rfl rfl) rfl ?_) | (refine M1 ?_; first | refine J0 ?_ | refine J1 ?_ | refine J2 mixed rfl (by kernel_rfl) ?_ | refine J3 mixed rfl rfl (by kernel_rfl) ?_ | refine J4 ?_ | refine J5 ?_ | refine J6 ?_ | refine J7 ?_ | refine J8 rfl ?_ | refine J9 rfl ?_) | (refine M2 ?_; first | refine I0 ?_ | refine I1 ?_ | refine I2 ?_ | refine I3 ?_ | refine I4 ?_ | refine I5 ?_ | refine I6 rfl ?_ | refine I7 ?_ | refine I8 ?_ | refine z4 ?_) | (refine M3 ?_; first | refine O6 ?_ | refine z2 tok rfl ?_ | refine O8 rfl ?_ | refine O7 rfl ?_ rfl | refine O9 rfl ?_ rfl | refine U1 _ (Ev.load_old tok rfl rfl hlg c11') rfl ?_ | refine U1 _ (U4 rfl rfl) rfl ?_ | refine U1 _ (U5 rfl rfl) rfl ?_ | refine U1 _ (U2 rfl) rfl ?_ | refine U1 _ (U3 tok rfl rfl rfl rfl rfl) rfl ?_) | (refine M4 ?_; first | refine M6 ?_ | refine U6 rfl (by kernel_rfl) ?_ | refine U7 (by kernel_rfl) ?_) | (refine M5 ?_; first | exact M7 | refine U8 rfl ?_ | refine U9 rfl rfl ?_ ?_))
  refine XC.cond _ rfl (fun h3 => ?_) (fun h3 => ?_)
  · repeat (first | (refine M0 ?_; first | refine O0 ?_ | refine z1 tok rfl ?_ | refine O1 rfl ?_ rfl | refine O2 rfl ?_ | refine O3 rfl ?_ rfl | refine O4 rfl rfl rfl (fun _ _ => ?_) | refine O5 tok rfl rfl rfl (fun _ _ => ?_) | refine U0 _ (U2 rfl) rfl ?_ | refine U0 _ (U3 tok rfl rfl rfl rfl rfl) rfl ?_ | refine z3 tok rfl ?_ | refine U0 _ (U4 rfl rfl) rfl ?_ | refine U0 _ (U5 rfl rfl) rfl ?_) | (refine M1 ?_; first | refine J0 ?_ | refine J1 ?_ | refine J4 ?_ | refine J5 ?_ | refine J6 ?_ | refine J7 ?_ | refine J8 rfl ?_ | refine J9 rfl ?_) | (refine M2 ?_; first | refine I0 ?_ | refine I1 ?_ | refine I2 ?_ | refine I3 ?_ | refine I4 ?_ | refine I5 ?_ | refine I6 rfl ?_ | refine I7 ?_ | refine I8 ?_ | refine z4 ?_) | (refine M3 ?_; first | refine O6 ?_ | refine z2 tok rfl ?_ | refine O8 rfl ?_ | refine O7 rfl ?_ rfl | refine O9 rfl ?_ rfl | refine U1 _ (U4 rfl rfl) rfl ?_ | refine U1 _ (U5 rfl rfl) rfl ?_ | refine U1 _ (U2 rfl) rfl ?_ | refine U1 _ (U3 tok rfl rfl rfl rfl rfl) rfl ?_) | (refine M4 ?_; first | refine M6 ?_ | refine U6 rfl (by kernel_rfl) ?_ | refine U7 (by kernel_rfl) ?_) | (refine M5 ?_; first | exact M7 | refine U8 rfl ?_ | refine U9 rfl rfl ?_ ?_))
    have hE5 : t.doE s i before on = 172 := by rw [hE, if_pos (by simpa using h3)]
    refine XE.retg tok Try.results91 rfl (by simp only [and_self, and_true]) (fun w' S => ?_)
    rw [hE5, hD (by rw [hE5]; decide)]
    exact ⟨_, _, rfl, ⟨⟨none, 0, 0⟩, rfl, rfl⟩, fun x hx => by rw [List.mem_singleton.1 hx]; exact IntsAt.nil, hB1.trans S.toBelow⟩
  rw [if_neg (by simpa using h3)] at hE
  repeat (first | (refine M0 ?_; first | refine O0 ?_ | refine z1 tok rfl ?_ | refine O1 rfl ?_ rfl | refine O2 rfl ?_ | refine O3 rfl ?_ rfl | refine O4 rfl rfl rfl (fun _ _ => ?_) | refine O5 tok rfl rfl rfl (fun _ _ => ?_) | refine U0 _ (U2 rfl) rfl ?_ | refine U0 _ (U3 tok rfl rfl rfl rfl rfl) rfl ?_ | refine z3 tok rfl ?_ | refine U0 _ (U4 rfl rfl) rfl ?_ | refine U0 _ (U5 rfl rfl) rfl ?_) | (refine M1 ?_; first | refine J0 ?_ | refine J1 ?_ | refine J4 ?_ | refine J5 ?_ | refine J6 ?_ | refine J7 ?_ | refine J8 rfl ?_ | refine J9 rfl ?_) | (refine M2 ?_; first | refine I0 ?_ | refine I1 ?_ | refine I2 ?_ | refine I3 ?_ | refine I4 ?_ | refine I5 ?_ | refine I6 rfl ?_ | refine I7 ?_ | refine I8 ?_ | refine z4 ?_) | (refine M3 ?_; first | refine O6 ?_ | refine z2 tok rfl ?_ | refine O8 rfl ?_ | refine O7 rfl ?_ rfl | refine O9 rfl ?_ rfl | refine U1 _ (U4 rfl rfl) rfl ?_ | refine U1 _ (U5 rfl rfl) rfl ?_ | refine U1 _ (U2 rfl) rfl ?_ | refine U1 _ (U3 tok rfl rfl rfl rfl rfl) rfl ?_) | (refine M4 ?_; first | refine M6 ?_ | refine U6 rfl (by kernel_rfl) ?_ | refine U7 (by kernel_rfl) ?_) | (refine M5 ?_; first | exact M7 | refine U8 rfl ?_ | refine U9 rfl rfl ?_ ?_))
  obtain ⟨hso', _, _, pr2, hu2, _, hDD⟩ := hDs hE
  have hpr : pr2 = (f, e) := by rw [hu] at hu2; exact (Option.some.inj hu2).symm
  subst hpr
  rw [← htk] at hDD
  have hpi := ho.pri_ i hi
  have hmm := mul_bd (X := 20000000000) (Y := 10000) (x := e) (y := at0 t.prices i) (by omega) (by omega)
  have hprice := fun {L : Lo} (w5 : World) (S5 : Sys w.heap.size W1 L w5) => begin1_any (gt := gt) (v := _) (t := t) (i := i) (e := e) (w := w5) (hp.below (hB1.trans S5.toBelow)).p.ht ((hp.below (hB1.trans S5.toBelow)).t.prices) (by omega) (by unfold i64in; omega)
  have hv15 : ∀ (k : Nat) (u : Value), ([.int .i64 y, .slice q1.A q1.n q1.c] : List Value)[k]? = some u → ([.int .i64 y, .slice q1.A q1.n q1.c] : List Value)[0 + 0 + k]? = some u := fun k u h => by rw [show 0 + 0 + k = k by omega]; exact h
  refine XC.drawRS _ [(g18, _), (g15, _), (g6, _)] [0, 1, 2, 3, 4, 5, 6, 7, 8] [9, 10, 11, 12] mixed (fun _ h => Sys.anchor2 (by assumption) h (by repeat (first | exact List.Sublist.refl _ | exact List.nil_sublist _ | refine List.Sublist.cons_cons _ ?_ | refine List.Sublist.cons _ ?_))) rfl (by kernel_rfl) ?_
  repeat (any_goals (first | (refine M0 ?_; first | refine O0 ?_ | refine z1 tok rfl ?_ | refine O1 rfl ?_ rfl | refine O2 rfl ?_ | refine O3 rfl ?_ rfl | refine U0 _ (Ev.load_at_agg tok 1 (g := g15) (o := 0) (j := 0) rfl rfl rfl rfl hv15) rfl ?_ | refine U0 _ (Ev.load_old tok rfl rfl hlg c16) rfl ?_ | refine O4 rfl rfl rfl (fun _ _ => ?_) | refine O5 tok rfl rfl rfl (fun _ _ => ?_) | refine U0 _ (U2 rfl) rfl ?_ | refine U0 _ (U3 tok rfl rfl rfl rfl rfl) rfl ?_ | refine z3 tok rfl ?_ | refine U0 _ (U4 rfl rfl) rfl ?_ | refine U0 _ (U5 rfl rfl) rfl ?_ | (refine XL.at_callv 107 ?_; refine U0 _ (Ev.callv (f := 89) (fst := []) (cap := [.pointer (some ⟨gt, 0, none⟩)]) (ck rfl) rfl rfl (fun w5 S5 => hprice w5 S5)) rfl ?_)) | (refine M1 ?_; first | refine J0 ?_ | refine J1 ?_ | refine J4 ?_ | refine J5 ?_ | refine J6 ?_ | refine J7 ?_ | refine J8 rfl ?_ | refine J9 rfl ?_) | (refine M2 ?_; first | refine I0 ?_ | refine I1 ?_ | refine I2 ?_ | refine I3 ?_ | refine I4 ?_ | refine I5 ?_ | refine I6 rfl ?_ | refine I7 ?_ | refine I8 ?_ | refine z4 ?_) | (refine M3 ?_; first | refine O6 ?_ | refine z2 tok rfl ?_ | refine O8 rfl ?_ | refine O7 rfl ?_ rfl | refine O9 rfl ?_ rfl | refine U1 _ (Ev.load_at_agg tok 1 (g := g15) (o := 0) (j := 0) rfl rfl rfl rfl hv15) rfl ?_ | refine U1 _ (Ev.load_old tok rfl rfl hlg c16) rfl ?_ | refine U1 _ (U4 rfl rfl) rfl ?_ | refine U1 _ (U5 rfl rfl) rfl ?_ | refine U1 _ (U2 rfl) rfl ?_ | refine U1 _ (U3 tok rfl rfl rfl rfl rfl) rfl ?_) | (refine M4 ?_; first | refine M6 ?_ | refine U6 rfl (by kernel_rfl) ?_ | refine U7 (by kernel_rfl) ?_) | (refine M5 ?_; first | exact M7 | refine U8 rfl ?_ | refine U9 rfl rfl ?_ ?_)))
  any_goals (repeat (first | exact AnyR.nil | refine AnyR.skip rfl ?_))
  all_goals
    refine XE.retg tok Try.results91 rfl (by simp only [and_self, and_true]) (fun w' S => ?_)
    rw [hE, hDD]
    subst hy
    exact ⟨_, _, rfl, ⟨q1, rfl, rfl⟩, fun x hx => by rw [List.mem_singleton.1 hx]; exact Fam.get (hF1.sys S (by intro e he; repeat (first | (cases he; done) | (rcases List.mem_cons.1 he with rfl | he; · first | (right; assumption) | (left; simp <;> fail))))) (.head _), hB1.trans S.toBelow⟩
end Go.Proofs.Ytmodjcegmgjhoaa.X
/-
  Where a plan has come to, as a key; what is known of a key (runoff).
-/
namespace Go.Proofs.Ytmodjcegmgjhoaa.Bs
open Go.Proofs.Ytmodjcegmgjhoaa.X
/-- the first k of a choice as bits. -/
def obits (l : List Bool) : Nat → Nat
  | 0 => 0
  | k + 1 => if bl l k = true then obits l k ||| 2 ^ k else obits l k
theorem obits_bit (l : List Bool) (j : Nat) : ∀ k, (obits l k).testBit j = (decide (j < k) && bl l j) := by
  intro k
  induction k with
  | zero => simp [obits]
  | succ k ih =>
    unfold obits
    by_cases h : bl l k = true
    · rw [if_pos h, Nat.testBit_or, ih, Nat.testBit_two_pow]
      rcases Nat.lt_trichotomy j k with h1 | h1 | h1
      · simp [h1, show j < k + 1 by omega, show ¬ k = j by omega]
      · subst h1; simp [h]
      · simp [show ¬ j < k by omega, show ¬ j < k + 1 by omega, show ¬ k = j by omega]
    · rw [if_neg h, ih]
      rcases Nat.lt_trichotomy j k with h1 | h1 | h1
      · simp [h1, show j < k + 1 by omega]
      · subst h1; simp at h; simp [h]
      · simp [show ¬ j < k by omega, show ¬ j < k + 1 by omega]
theorem obits_lt (l : List Bool) : ∀ k, obits l k < 2 ^ k := by
  intro k
  induction k with
  | zero => simp [obits]
  | succ k ih =>
    have h1 : (2 : Nat) ^ (k + 1) = 2 ^ k + 2 ^ k := by rw [Nat.pow_succ]; omega
    unfold obits
    split
    · exact Nat.or_lt_two_pow (by omega) (by have := Nat.two_pow_pos k; omega)
    · omega
theorem bl_ext {a b : List Bool} (hl : a.length = b.length) (h : ∀ j, j < a.length → bl a j = bl b j) : a = b := by
  refine List.ext_getElem hl fun j h1 h2 => ?_
  have := h j h1
  unfold bl at this
  rw [List.getElem?_eq_getElem h1, List.getElem?_eq_getElem h2] at this
  exact this
theorem obits_inj {a b : List Bool} (hl : a.length = b.length) (h : obits a a.length = obits b b.length) : a = b := by
  refine bl_ext hl fun j hj => ?_
  have h1 := obits_bit a j a.length
  have h2 := obits_bit b j b.length
  rw [h, h2] at h1
  simpa [hj, hl ▸ hj] using h1.symm
/-- a list of numbers, filled up to six. -/
def pad6 (l : List Int) : List Int := [at0 l 0, at0 l 1, at0 l 2, at0 l 3, at0 l 4, at0 l 5]
theorem pad6_inj {a b : List Int} (hl : a.length = b.length) (h6 : a.length ≤ 6) (h : pad6 a = pad6 b) : a = b := by
  refine List.ext_getElem hl fun j h1 h2 => ?_
  simp only [pad6, List.cons.injEq, and_true] at h
  have h3 : at0 a j = at0 b j := by
    obtain ⟨a0, a1, a2, a3, a4, a5⟩ := h
    have : j = 0 ∨ j = 1 ∨ j = 2 ∨ j = 3 ∨ j = 4 ∨ j = 5 := by omega
    rcases this with rfl | rfl | rfl | rfl | rfl | rfl <;> assumption
  unfold at0 at h3
  rw [List.getElem?_eq_getElem h1, List.getElem?_eq_getElem h2] at h3
  exact h3
def fdC (x : Fd) : Int := (x.map (·.1)).getD 0
def fdP (x : Fd) : Plan := (x.map (·.2)).getD []
end Go.Proofs.Ytmodjcegmgjhoaa.Bs
namespace Go.Proofs.Ytmodjcegmgjhoaa.X
open Go Go.RowKit Go.Proofs.Ytmodjcegmgjhoaa.Bs
set_option linter.unusedVariables false
/-! ### the key -/
def placeC (i : Nat) (s : Sta) (b : List Bool) : List Value := [.int .i64 (i : Nat), .int .i64 s.vol, .int .i64 (obits b b.length : Nat), .int .i64 (at0 s.fil 0), .int .i64 (at0 s.fil 1), .int .i64 (at0 s.fil 2), .int .i64 (at0 s.fil 3), .int .i64 (at0 s.fil 4), .int .i64 (at0 s.fil 5)]
theorem placeC_inj {i i' : Nat} {s s' : Sta} {b b' : List Bool} (hb : b.length = b'.length) (hf : s.fil.length = s'.fil.length) (h6 : s.fil.length ≤ 6) (h : Value.agg ⟨placeC i s b⟩ = Value.agg ⟨placeC i' s' b'⟩) : i = i' ∧ s = s' ∧ b = b' := by
  simp only [placeC, Value.agg.injEq, Array.mk.injEq, List.cons.injEq, Value.int.injEq, true_and, and_true] at h
  obtain ⟨h1, h2, h3, h4⟩ := h
  have e3 := obits_inj hb (by omega)
  have e2 := pad6_inj hf h6 (by simp only [pad6, List.cons.injEq, and_true]; exact h4)
  obtain ⟨v, f⟩ := s
  obtain ⟨v', f'⟩ := s'
  simp only at h2 e2
  subst h2 e2
  exact ⟨by omega, rfl, e3⟩
theorem place_law : WideMaps.KeyLaw Try.prog 161 := deep_law (m := 4) (by decide) (by kernel_rfl) (by kernel_rfl) (by kernel_rfl)
theorem place_fuel : ∃ d, Try.prog.types.size + 1 = d + 3 := by
  have h : Nat.ble 2 Try.prog.types.size = true := by kernel_rfl
  have := Nat.le_of_ble_eq_true h
  exact ⟨Try.prog.types.size - 2, by omega⟩
def intT (P : Program) (t : TypeId) : Bool := match P.underlying t with
  | some (.int .i64) => P.cellsOf t == 1
  | _ => false
theorem keyLits_int {P : Program} {t : TypeId} (ht : intT P t = true) (d : Nat) {n : Int} (h : i64in n) : P.keyLits (d + 1) t [.int .i64 n] = some [.int .i64 n] := by
  unfold intT at ht
  split at ht
  · rename_i hu
    have h1 : (Lit.int .i64 n).wf = true := by
      have e1 : IntKind.i64.min = -9223372036854775808 := rfl
      have e2 : IntKind.i64.max = 9223372036854775807 := rfl
      unfold i64in at h
      simp only [Lit.wf, e1, e2, Bool.and_eq_true, decide_eq_true_eq]
      omega
    simp [Program.keyLits, hu, h1]
  · cases ht
theorem intT_1 {P : Program} {t : TypeId} (ht : intT P t = true) : P.cellsOf t = 1 := by
  unfold intT at ht
  split at ht
  · simpa using ht
  · cases ht
theorem keyLits_arr {P : Program} {t e : TypeId} {n d : Nat} {cs : List Value} (hu : P.underlying t = some (.array n e)) : P.keyLits (d + 1) t cs = if cs.length = P.cellsOf t then ((List.range n).mapM fun i => P.keyLits d e ((cs.drop (i * P.cellsOf e)).take (P.cellsOf e))).map List.flatten else none := by
  rw [Program.keyLits]
  simp only [hu]
theorem keyLits_str {P : Program} {t : TypeId} {fs : Array Field} {d : Nat} {cs : List Value} (hu : P.underlying t = some (.struct fs)) : P.keyLits (d + 1) t cs = if cs.length = P.cellsOf t ∧ fs.all (·.name != "_") = true then (fs.toList.mapM fun f => P.keyLits d f.type ((cs.drop f.offset).take (P.cellsOf f.type))).map List.flatten else none := by
  conv => lhs; unfold Program.keyLits
  simp only [hu]
def arr6T (P : Program) (t : TypeId) : Bool := match P.underlying t with
  | some (.array 6 e) => intT P e && P.cellsOf t == 6
  | _ => false
theorem keyLits_arr6 {P : Program} {t : TypeId} (ht : arr6T P t = true) (d : Nat) {a b c e f g : Int} (ha : i64in a) (hb : i64in b) (hc : i64in c) (he : i64in e) (hf : i64in f) (hg : i64in g) :
    P.keyLits (d + 2) t [.int .i64 a, .int .i64 b, .int .i64 c, .int .i64 e, .int .i64 f, .int .i64 g] = some [.int .i64 a, .int .i64 b, .int .i64 c, .int .i64 e, .int .i64 f, .int .i64 g] := by
  unfold arr6T at ht
  split at ht
  · rename_i el hu
    simp only [Bool.and_eq_true, beq_iff_eq] at ht
    have h1 := intT_1 ht.1
    rw [keyLits_arr hu]
    simp [ht.2, h1, List.range, List.range.loop, keyLits_int ht.1 d ha, keyLits_int ht.1 d hb, keyLits_int ht.1 d hc, keyLits_int ht.1 d he, keyLits_int ht.1 d hf, keyLits_int ht.1 d hg]
  · cases ht
def placeT (P : Program) (t : TypeId) : Bool := match P.underlying t with
  | some (.struct ⟨[a, b, c, d]⟩) => intT P a.type && (intT P b.type && (intT P c.type && (arr6T P d.type && (a.offset == 0 && (b.offset == 1 && (c.offset == 2 && (d.offset == 3 && (a.name != "_" && (b.name != "_" && (c.name != "_" && (d.name != "_" && (P.cellsOf d.type == 6 && (P.cellsOf t == 9 && P.keyType t)))))))))))))
  | _ => false
theorem keyOf_place {P : Program} {t : TypeId} (ht : placeT P t = true) {D : Nat} (hD : P.types.size + 1 = D + 3) {x y z a b c e f g : Int} (hx : i64in x) (hy : i64in y) (hz : i64in z) (ha : i64in a) (hb : i64in b) (hc : i64in c) (he : i64in e) (hf : i64in f) (hg : i64in g) :
    ∃ l, keyOf P t (.agg ⟨[.int .i64 x, .int .i64 y, .int .i64 z, .int .i64 a, .int .i64 b, .int .i64 c, .int .i64 e, .int .i64 f, .int .i64 g]⟩) = some l := by
  unfold placeT at ht
  split at ht
  · rename_i f1 f2 f3 f4 hu
    simp only [Bool.and_eq_true, beq_iff_eq, bne_iff_ne, ne_eq] at ht
    obtain ⟨t1, t2, t3, t4, o1, o2, o3, o4, n1, n2, n3, n4, c4, c9, hk⟩ := ht
    have h1 : P.keyLits (P.types.size + 1) t [.int .i64 x, .int .i64 y, .int .i64 z, .int .i64 a, .int .i64 b, .int .i64 c, .int .i64 e, .int .i64 f, .int .i64 g] = some [.int .i64 x, .int .i64 y, .int .i64 z, .int .i64 a, .int .i64 b, .int .i64 c, .int .i64 e, .int .i64 f, .int .i64 g] := by
      rw [hD]
      rw [keyLits_str hu]
      simp [c9, n1, n2, n3, n4, o1, o2, o3, o4, c4, intT_1 t1, intT_1 t2, intT_1 t3, keyLits_int t1 (D + 1) hx, keyLits_int t2 (D + 1) hy, keyLits_int t3 (D + 1) hz, keyLits_arr6 t4 D ha hb hc he hf hg]
    refine ⟨.string (keyBytes [.int .i64 x, .int .i64 y, .int .i64 z, .int .i64 a, .int .i64 b, .int .i64 c, .int .i64 e, .int .i64 f, .int .i64 g]), ?_⟩
    unfold keyOf
    simp only [hu]
    rw [if_pos (by simp [hk, Value.formed, hu, c9])]
    simp only [Value.cells]
    rw [h1]
    rfl
  · cases ht
theorem place_t : placeT Try.prog 161 = true := by kernel_rfl
/-- every place can be looked for. -/
theorem place_key {i : Nat} {s : Sta} {b : List Bool} (hi : i ≤ 100) (hv : i64in s.vol) (hb : b.length ≤ 4) (hf : ∀ j, i64in (at0 s.fil j)) : ∃ l, keyOf Try.prog 161 (.agg ⟨placeC i s b⟩) = some l := by
  obtain ⟨d, hd⟩ := place_fuel
  have h1 := obits_lt b b.length
  have h2 : 2 ^ b.length ≤ 16 := Nat.pow_le_pow_right (n := 2) (by decide) hb
  exact keyOf_place place_t hd (by unfold i64in; omega) hv (by unfold i64in; omega) (hf 0) (hf 1) (hf 2) (hf 3) (hf 4) (hf 5)
end Go.Proofs.Ytmodjcegmgjhoaa.X
/-
  Plans and what is known of keys, in memory; what a range over the choices needs (runoff).
-/
namespace Go.Proofs.Ytmodjcegmgjhoaa.X
open Go Go.RowKit Go.Proofs.Ytmodjcegmgjhoaa.Bs
set_option linter.unusedVariables false
section
variable {P : Program} {T : TT} {N : Nat} {B : Nat} {w0 : World} {ds : List Deferred} {F : Fr} {L : Lo}
/-- one loop variable. -/
theorem Fits.params1 {a : Act} {t : Nat} {v : Value} (h : Fits N ds F a) (ht : Nat.blt t N = true) :
    Fits N [] ((t, v) :: F) { tmps := ((#[t] : Array Tmp).zip #[v]).foldl (fun s (p, y) => s.setIfInBounds p y) a.tmps, defers := [] } := by
  have h1 := h.put (v := v) ht
  have e : ((#[t] : Array Tmp).zip #[v]).foldl (fun s (p, y) => s.setIfInBounds p y) a.tmps = (a.put (some t) v).tmps := by
    simp [Act.put]
  rw [e]
  exact ⟨h1.size, rfl, h1.get⟩
end
/-! ### plans -/
def plnK : Kind (SV × List Bool) := ⟨31, 1, fun e => [svV e.1], fun e => [hList boolK e.1 e.2], fun _ => rfl⟩
def PlanAt (w : World) (ok : Nat → Prop) (q : SV) (p : Plan) : Prop := ∃ es : List (SV × List Bool), ListAt plnK w ok q es ∧ es.map (·.2) = p
theorem PlanAt.keep {w w' : World} {ok : Nat → Prop} {q : SV} {p : Plan} (h : PlanAt w ok q p) (hk : ∀ k, ok k → w'.heap[k]? = w.heap[k]?) : PlanAt w' ok q p := by
  obtain ⟨es, h1, h2⟩ := h
  exact ⟨es, h1.keep hk, h2⟩
theorem PlanAt.mono {w : World} {ok ok' : Nat → Prop} {q : SV} {p : Plan} (h : PlanAt w ok q p) (hk : ∀ k, ok k → ok' k) : PlanAt w ok' q p := by
  obtain ⟨es, h1, h2⟩ := h
  exact ⟨es, h1.mono hk, h2⟩
theorem PlanAt.nil {w : World} {ok : Nat → Prop} : PlanAt w ok ⟨none, 0, 0⟩ [] := ⟨[], ListAt.nil, rfl⟩
def hPlan (q : SV) (p : Plan) : Held := ⟨fun w ok => PlanAt w ok q p, PlanAt.keep, PlanAt.mono⟩
def tailC (q : SV) (x : Bs.Fd) : List Value := [.bool x.isSome, .int .i64 (fdC x), .slice q.A q.n q.c]
def tailV (q : SV) (x : Bs.Fd) : Value := .agg ⟨tailC q x⟩
/-! ### what is known -/
def MemE (t : RTk) (w : World) (ok : Nat → Prop) (e : Value × Value) : Prop := ∃ (i : Nat) (s : Sta) (b : List Bool) (q : SV), e.1 = .agg ⟨placeC i s b⟩ ∧ e.2 = tailV q (t.rest (t.n - i) s b) ∧ i < t.n ∧ StaOk t.b s ∧ b.length = t.m ∧ PlanAt w ok q (fdP (t.rest (t.n - i) s b))
def hMem (t : RTk) (kvs : List (Value × Value)) : Held := ⟨fun w ok => ∀ e, e ∈ kvs → MemE t w ok e,
  fun h hk e he => by obtain ⟨i, s, b, q, h1, h2, h3, h4, h5, h6⟩ := h e he; exact ⟨i, s, b, q, h1, h2, h3, h4, h5, h6.keep hk⟩,
  fun h hk e he => by obtain ⟨i, s, b, q, h1, h2, h3, h4, h5, h6⟩ := h e he; exact ⟨i, s, b, q, h1, h2, h3, h4, h5, h6.mono hk⟩⟩
theorem hMem_nil {t : RTk} {w : World} {ok : Nat → Prop} : (hMem t []).p w ok := fun e he => by cases he
theorem hMem_find {t : RTk} {kvs : List (Value × Value)} {w : World} {ok : Nat → Prop} {i : Nat} {s : Sta} {b : List Bool} {v : Value} (h : (hMem t kvs).p w ok) (hs : StaOk t.b s) (h6 : t.b.pols.length ≤ 6) (hb : b.length = t.m) (hv : (Value.agg ⟨placeC i s b⟩, v) ∈ kvs) :
    ∃ q, v = tailV q (t.rest (t.n - i) s b) ∧ PlanAt w ok q (fdP (t.rest (t.n - i) s b)) := by
  obtain ⟨i', s', b', q, h1, h2, h3, h4, h5, h7⟩ := h _ hv
  simp only at h1 h2
  obtain ⟨rfl, rfl, rfl⟩ := placeC_inj (by rw [hb, h5]) (by rw [hs.len, h4.len]) (by rw [hs.len]; exact h6) h1
  exact ⟨q, h2, h7⟩
theorem hMem_push {t : RTk} {kvs : List (Value × Value)} {w : World} {ok : Nat → Prop} {i : Nat} {s : Sta} {b : List Bool} {q : SV} (h : (hMem t kvs).p w ok) (hs : StaOk t.b s) (hb : b.length = t.m) (hi : i < t.n) (hp : PlanAt w ok q (fdP (t.rest (t.n - i) s b))) :
    (hMem t (kvs ++ [(.agg ⟨placeC i s b⟩, tailV q (t.rest (t.n - i) s b))])).p w ok := fun e he => by
  rcases List.mem_append.1 he with h1 | h1
  · exact h e h1
  · rw [List.mem_singleton.1 h1]
    exact ⟨i, s, b, q, rfl, rfl, hi, hs, hb, hp⟩
/-- new keys are of ticks from i on. -/
def NewK (i : Nat) (new : List (Value × Value)) : Prop := ∀ e, e ∈ new → ∃ (j : Nat) (s : Sta) (b : List Bool), e.1 = .agg ⟨placeC j s b⟩ ∧ i ≤ j
theorem NewK.ne {i j : Nat} {new : List (Value × Value)} (h : NewK i new) (hj : j < i) {s : Sta} {b : List Bool} : ∀ e, e ∈ new → e.1 ≠ .agg ⟨placeC j s b⟩ := fun e he h1 => by
  obtain ⟨k, s', b', h2, h3⟩ := h e he
  rw [h2] at h1
  simp only [placeC, Value.agg.injEq, Array.mk.injEq, List.cons.injEq, Value.int.injEq, true_and, and_true] at h1
  have := h1.1
  omega
end Go.Proofs.Ytmodjcegmgjhoaa.X
/-
  The example's task in plain words (runoff).
-/
namespace Go.Proofs.Ytmodjcegmgjhoaa.Bs
open Go.Proofs.Ytmodjcegmgjhoaa.X
theorem rx_all3 {P : Nat → Prop} (h0 : P 0) (h1 : P 1) (h2 : P 2) : ∀ j, j < 3 → P j := by
  intro j hj
  match j, hj with
  | 0, _ => exact h0
  | 1, _ => exact h1
  | 2, _ => exact h2
theorem rx_all2 {P : Nat → Prop} (h0 : P 0) (h1 : P 1) : ∀ j, j < 2 → P j := by
  intro j hj
  match j, hj with
  | 0, _ => exact h0
  | 1, _ => exact h1
def rxB : Bas := ⟨[⟨-1000, 0⟩, ⟨0, 1000000⟩, ⟨2000, 5000000⟩], 100, 3000, 500, []⟩
def rxS : Sta := ⟨1000000, []⟩
def rxT : RTk := ⟨rxB, rxS, [-500, 500], [60000, 60000], [1, 2], -200, 50, [⟨⟨#[108, 111, 99, 107]⟩, 100, 10⟩], [⟨⟨#[109, 105, 108, 108]⟩, 40000, 5, 1, 7⟩], [false, false]⟩
theorem rx_chk : chkE rxB = 0 := by
  have h1 : firstN (rowErr rxB) rxB.rows.length = none := firstN_none (rx_all3 (by kernel_rfl) (by kernel_rfl) (by kernel_rfl))
  have h2 : firstN (polErr rxB) rxB.pols.length = none := firstN_none (fun j hj => absurd hj (by show ¬ j < 0; omega))
  have h3 : wide rxB (great rxB rxB.pols.length) := fun i hi => by
    have : ∀ j, j < 2 → wideAt rxB (great rxB rxB.pols.length) j := rx_all2 (of_decide_eq_true (by kernel_rfl)) (of_decide_eq_true (by kernel_rfl))
    exact this i (by have : i + 1 < 3 := hi; omega)
  unfold chkE chk
  rw [if_neg (by decide), h1]
  simp only
  rw [if_neg (by decide), if_neg (by decide), h2]
  simp only
  rw [if_pos h3]
theorem rx_sta : staErr rxB rxS = 0 := staErr_ok rx_chk ⟨rfl, ⟨by decide, by decide⟩, fun i hi => absurd hi (by show ¬ i < 0; omega)⟩
theorem rx_dev : ∀ j, j < 2 → devErr rxT.devs j = 0 := by
  refine rx_all2 ?_ ?_
  · unfold devErr
    rw [if_neg (by rw [show nameB (rxT.devs[0]?.getD d0).name = true from by kernel_rfl]; decide), if_neg (by rintro ⟨k, hk, _⟩; omega), if_neg (by rw [show (rxT.devs[0]?.getD d0).wild = false from by kernel_rfl]; decide)]
  · unfold devErr
    rw [if_neg (by rw [show nameB (rxT.devs[1]?.getD d0).name = true from by kernel_rfl]; decide), if_neg, if_neg (by rw [show (rxT.devs[1]?.getD d0).wild = false from by kernel_rfl]; decide)]
    rintro ⟨k, hk, h⟩
    obtain rfl : k = 0 := by omega
    exact absurd h (by decide)
theorem rx_e : rtE rxT = 0 := by
  unfold rtE chkT
  rw [if_neg (by rw [show chkE rxT.b = 0 from rx_chk]; decide), if_neg (by rw [show staErr rxT.b rxT.s = 0 from rx_sta]; decide), if_neg (by decide), if_neg (by decide)]
  rw [show firstN (tickErr rxT) rxT.outer.length = none from firstN_none (rx_all2 (by kernel_rfl) (by kernel_rfl))]
  simp only
  rw [if_neg (by decide), if_neg (by decide)]
  rw [show firstN (devErr rxT.devs) rxT.devs.length = none from firstN_none rx_dev]
  simp only
  rw [if_neg (by decide)]
theorem rx_rest : rxT.rest 2 rxS [false, false] = some (12, [[false, true], [false, false]]) := by kernel_rfl
theorem rx_flw : (rxT.flw 0 rxS [false, false] [[false, false], [false, false]]).2 = 172 := by kernel_rfl
end Go.Proofs.Ytmodjcegmgjhoaa.Bs
/-
  The walks of the choices: the iterator (runoff).
-/
namespace Go.Proofs.Ytmodjcegmgjhoaa.X
open Go Go.RowKit Go.Proofs.Ytmodjcegmgjhoaa.Bs
set_option linter.unusedVariables false
theorem choices_any {g : Nat} {w : World} :
    Calls Try.prog 74 #[.pointer (some ⟨g, 0, none⟩)] w fun e w' => ∃ v, e = .returned v ∧ ∃ gp, v = .func (.func 101) #[] #[.pointer (some ⟨gp, 0, none⟩)] ∧ Sys w.heap.size w [(gp, cel 107 [.pointer (some ⟨g, 0, none⟩)])] w' := by
  refine enter Try.func74 rfl Try.ntmps74 rfl ?_; simp only [frame, Nat.zero_add, Nat.reduceAdd]
  repeat (first | (refine M0 ?_; first | refine O0 ?_ | refine z1 tok rfl ?_ | refine O1 rfl ?_ rfl | refine O2 rfl ?_ | refine O3 rfl ?_ rfl | refine U0 _ (Ev.makeFunc rfl rfl) rfl ?_ | refine O4 rfl rfl rfl (fun _ _ => ?_) | refine O5 tok rfl rfl rfl (fun _ _ => ?_) | refine U0 _ (U2 rfl) rfl ?_ | refine U0 _ (U3 tok rfl rfl rfl rfl rfl) rfl ?_ | refine z3 tok rfl ?_ | refine U0 _ (U4 rfl rfl) rfl ?_ | refine U0 _ (U5 rfl rfl) rfl ?_) | (refine M1 ?_; first | refine J0 ?_ | refine J1 ?_ | refine J2 mixed rfl (by kernel_rfl) ?_ | refine J3 mixed rfl rfl (by kernel_rfl) ?_ | refine J4 ?_ | refine J5 ?_ | refine J6 ?_ | refine J7 ?_ | refine J8 rfl ?_ | refine J9 rfl ?_) | (refine M2 ?_; first | refine I0 ?_ | refine I1 ?_ | refine I2 ?_ | refine I3 ?_ | refine I4 ?_ | refine I5 ?_ | refine I6 rfl ?_ | refine I7 ?_ | refine I8 ?_ | refine z4 ?_) | (refine M3 ?_; first | refine O6 ?_ | refine z2 tok rfl ?_ | refine O8 rfl ?_ | refine O7 rfl ?_ rfl | refine O9 rfl ?_ rfl | refine U1 _ (Ev.makeFunc rfl rfl) rfl ?_ | refine U1 _ (U4 rfl rfl) rfl ?_ | refine U1 _ (U5 rfl rfl) rfl ?_ | refine U1 _ (U2 rfl) rfl ?_ | refine U1 _ (U3 tok rfl rfl rfl rfl rfl) rfl ?_) | (refine M4 ?_; first | refine M6 ?_ | refine U6 rfl (by kernel_rfl) ?_ | refine U7 (by kernel_rfl) ?_) | (refine M5 ?_; first | exact M7 | refine U8 rfl ?_ | refine U9 rfl rfl ?_ ?_))
  refine XE.retg tok Try.results74 rfl (by simp only [and_self, and_true]) (fun w' S => ?_)
  exact ⟨_, rfl, _, rfl, S⟩
theorem bools_el : elemOk Try.prog 31 4 1 1 = true := by kernel_rfl
theorem bools_zero : (Try.prog.info? 4).bind (·.zero) = some (.bool false) := by kernel_rfl
/-- the first k of choice i are set. -/
def prt (m i k : Nat) : List Bool := (List.range m).map fun j => decide (j < k) && i.testBit (m - 1 - j)
theorem prt_len (m i k : Nat) : (prt m i k).length = m := by simp [prt]
theorem prt_0 (m i : Nat) : prt m i 0 = List.replicate m false := by
  apply List.ext_getElem (by simp [prt])
  intro j h1 h2
  simp [prt]
theorem prt_m (m i : Nat) : prt m i m = chc m i := by
  apply List.ext_getElem (by simp [prt, chc])
  intro j h1 h2
  have : j < m := by simpa [prt] using h1
  simp [prt, chc, this]
theorem prt_set {m i k : Nat} (hk : k < m) : (bools (prt m i k)).set k (.bool (i.testBit (m - 1 - k))) = bools (prt m i (k + 1)) := by
  apply List.ext_getElem (by simp [bools, prt])
  intro j h1 h2
  have hj : j < m := by simpa [bools, prt] using h2
  rw [List.getElem_set]
  by_cases e : k = j
  · subst e
    simp [bools, prt]
  · have e2 : decide (j < k) = decide (j < k + 1) := by
      rcases Nat.lt_or_gt_of_ne e with h | h
      · simp [show ¬ j < k by omega, show ¬ j < k + 1 by omega]
      · simp [show j < k by omega, show j < k + 1 by omega]
    simp [bools, prt, e, e2]
theorem bit_eq (i n : Nat) : decide ((((i >>> n) % 2 : Nat) : Int) = 1) = i.testBit n := by
  rw [Nat.testBit_eq_decide_div_mod_eq, Nat.shiftRight_eq_div_pow]
  simp only [decide_eq_decide]
  omega
section
variable {P : Program} {N : Nat} {B : Nat} {w0 : World} {ds : List Deferred} {F : Fr} {L : Lo} {pu : Prop} {dst : Option Tmp} {ty : TypeId} {p : String} {af : Array Edge} {gd : Option (Nat × Bool)}
theorem Ev.shrQ {x y : Operand} {t u : TypeId} {j : IntKind} {m n : Nat} {q : Int} (hx : evo F x = some (.int .i64 (m : Nat))) (hy : evo F y = some (.int j q)) (hq : q = (n : Nat)) (hn : n ≤ 64) :
    Ev P N B w0 ds pu F L ⟨dst, .binOp .shr t x y u, ty, p, af, gd⟩ (.int .i64 ((m >>> n : Nat) : Int)) := by
  subst hq
  exact Ev.shrN hx hy hn
end
set_option maxHeartbeats 16000000 in
theorem chs_any {σ : Type} (Lf : σ → Lo) (Wf : σ → World) (J : Nat → σ → Prop) {B l g gp m c : Nat} {A : Option Addr} (s0 : σ) (hm : m ≤ 4) (S0 : Sys B (Wf s0) (Lf s0) (Wf s0)) (h0 : J 0 s0)
    (hgp : (Wf s0).cell? ⟨gp, 0, none⟩ = some (.pointer (some ⟨g, 0, none⟩))) (hg : (Wf s0).cell? ⟨g, 15, none⟩ = some (.slice A m c)) (hlp : gp < (Wf s0).heap.size) (hlg : g < (Wf s0).heap.size) (hfp : ∀ e, e ∈ Lf s0 → e.1 ≠ gp) (hfg : ∀ e, e ∈ Lf s0 → e.1 ≠ g)
    (hy : ∀ i s gn W, i < 2 ^ m → J i s → (Wf s).heap.size ≤ gn → Sys B (Wf s) ((gn, cel 4 (bools (chc m i))) :: Lf s) W → ∀ w1, Sys B W (Lf s) w1 →
      ∃ fn tmps assign body, (Instr.yield l (#[.slice (some ⟨gn, 0, none⟩) m m] : Array Value)).run Try.prog w1 = .ok (.round l fn tmps assign body) w1 ∧
        RoundIn Fence.wide 0 Try.prog l fn tmps assign body w1 fun e w' => ∃ v, e = .returned v ∧ v = .bool true ∧ ∃ s', J (i + 1) s' ∧ Sys B (Wf s') (Lf s') w') :
    Calls Try.prog 101 #[.func (.yield l) #[] #[], .pointer (some ⟨gp, 0, none⟩)] (Wf s0) fun e w' => ∃ v, e = .returned v ∧ ∃ s, J (2 ^ m) s ∧ Sys B (Wf s) (Lf s) w' := by
  have h16 : 2 ^ m ≤ 16 := Nat.pow_le_pow_right (n := 2) (by decide) hm
  obtain ⟨M, hM⟩ : ∃ M, M = 2 ^ m := ⟨_, rfl⟩
  refine enterL Try.func101 rfl Try.ntmps101 rfl (S0) ?_; simp only [frame, Nat.zero_add, Nat.reduceAdd]
  repeat (first | (refine M0 ?_; first | refine O0 ?_ | refine z1 tok rfl ?_ | refine O1 rfl ?_ rfl | refine O2 rfl ?_ | refine O3 rfl ?_ rfl | refine U0 _ (Ev.load_far tok rfl rfl hlp hfp hgp) rfl ?_ | refine U0 _ (Ev.load_far tok rfl rfl hlg hfg hg) rfl ?_ | refine U0 _ (Ev.shl1 (n := m) rfl (by omega)) rfl ?_ | refine O4 rfl rfl rfl (fun _ _ => ?_) | refine O5 tok rfl rfl rfl (fun _ _ => ?_) | refine U0 _ (U2 rfl) rfl ?_ | refine U0 _ (U3 tok rfl rfl rfl rfl rfl) rfl ?_ | refine z3 tok rfl ?_ | refine U0 _ (U4 rfl rfl) rfl ?_ | refine U0 _ (U5 rfl rfl) rfl ?_) | (refine M1 ?_; first | refine J0 ?_ | refine J1 ?_ | refine J2 mixed rfl (by kernel_rfl) ?_ | refine J3 mixed rfl rfl (by kernel_rfl) ?_ | refine J4 ?_ | refine J5 ?_ | refine J6 ?_ | refine J7 ?_ | refine J8 rfl ?_ | refine J9 rfl ?_) | (refine M2 ?_; first | refine I0 ?_ | refine I1 ?_ | refine I2 ?_ | refine I3 ?_ | refine I4 ?_ | refine I5 ?_ | refine I6 rfl ?_ | refine I7 ?_ | refine I8 ?_ | refine z4 ?_) | (refine M3 ?_; first | refine O6 ?_ | refine z2 tok rfl ?_ | refine O8 rfl ?_ | refine O7 rfl ?_ rfl | refine O9 rfl ?_ rfl | refine U1 _ (Ev.load_far tok rfl rfl hlp hfp hgp) rfl ?_ | refine U1 _ (Ev.load_far tok rfl rfl hlg hfg hg) rfl ?_ | refine U1 _ (Ev.shl1 (n := m) rfl (by omega)) rfl ?_ | refine U1 _ (U4 rfl rfl) rfl ?_ | refine U1 _ (U5 rfl rfl) rfl ?_ | refine U1 _ (U2 rfl) rfl ?_ | refine U1 _ (U3 tok rfl rfl rfl rfl rfl) rfl ?_) | (refine M4 ?_; first | refine M6 ?_ | refine U6 rfl (by kernel_rfl) ?_ | refine U7 (by kernel_rfl) ?_) | (refine M5 ?_; first | exact M7 | refine U8 rfl ?_ | refine U9 rfl rfl ?_ ?_))
  rw [← hM] at h16 hy ⊢
  refine XC.loopk [0, 3, 13] rfl (fun s : Nat × σ => [(14, .int .i64 (s.1 : Nat))]) (fun s => Lf s.2) (fun s => Wf s.2) (fun s => s.1 ≤ M ∧ J s.1 s.2) (fun s => M - s.1) (0, s0) ⟨Nat.zero_le _, h0⟩ (by repeat (first | exact Sub.nil | refine Sub.cons rfl ?_)) (fun _ h => h) ?_
  rintro ⟨i, s⟩ ⟨hi, hJ⟩
  simp only at hi hJ
  dsimp only [List.cons_append, List.nil_append]
  repeat (first | (refine M0 ?_; first | refine O0 ?_ | refine z1 tok rfl ?_ | refine O1 rfl ?_ rfl | refine O2 rfl ?_ | refine O3 rfl ?_ rfl | refine O4 rfl rfl rfl (fun _ _ => ?_) | refine O5 tok rfl rfl rfl (fun _ _ => ?_) | refine U0 _ (U2 rfl) rfl ?_ | refine U0 _ (U3 tok rfl rfl rfl rfl rfl) rfl ?_ | refine z3 tok rfl ?_ | refine U0 _ (U4 rfl rfl) rfl ?_ | refine U0 _ (U5 rfl rfl) rfl ?_) | (refine M1 ?_; first | refine J0 ?_ | refine J1 ?_ | refine J2 mixed rfl (by kernel_rfl) ?_ | refine J3 mixed rfl rfl (by kernel_rfl) ?_ | refine J4 ?_ | refine J5 ?_ | refine J6 ?_ | refine J7 ?_ | refine J8 rfl ?_ | refine J9 rfl ?_) | (refine M2 ?_; first | refine I0 ?_ | refine I1 ?_ | refine I2 ?_ | refine I3 ?_ | refine I4 ?_ | refine I5 ?_ | refine I6 rfl ?_ | refine I7 ?_ | refine I8 ?_ | refine z4 ?_) | (refine M3 ?_; first | refine O6 ?_ | refine z2 tok rfl ?_ | refine O8 rfl ?_ | refine O7 rfl ?_ rfl | refine O9 rfl ?_ rfl | refine U1 _ (U4 rfl rfl) rfl ?_ | refine U1 _ (U5 rfl rfl) rfl ?_ | refine U1 _ (U2 rfl) rfl ?_ | refine U1 _ (U3 tok rfl rfl rfl rfl rfl) rfl ?_) | (refine M4 ?_; first | refine M6 ?_ | refine U6 rfl (by kernel_rfl) ?_ | refine U7 (by kernel_rfl) ?_) | (refine M5 ?_; first | exact M7 | refine U8 rfl ?_ | refine U9 rfl rfl ?_ ?_))
  refine XC.cond _ rfl (fun h1 => ?_) (fun h1 => ?_)
  rotate_left
  · have him : i = M := by have := of_decide_eq_false h1; omega
    subst him
    repeat (first | (refine M0 ?_; first | refine O0 ?_ | refine z1 tok rfl ?_ | refine O1 rfl ?_ rfl | refine O2 rfl ?_ | refine O3 rfl ?_ rfl | refine O4 rfl rfl rfl (fun _ _ => ?_) | refine O5 tok rfl rfl rfl (fun _ _ => ?_) | refine U0 _ (U2 rfl) rfl ?_ | refine U0 _ (U3 tok rfl rfl rfl rfl rfl) rfl ?_ | refine z3 tok rfl ?_ | refine U0 _ (U4 rfl rfl) rfl ?_ | refine U0 _ (U5 rfl rfl) rfl ?_) | (refine M1 ?_; first | refine J0 ?_ | refine J1 ?_ | refine J2 mixed rfl (by kernel_rfl) ?_ | refine J3 mixed rfl rfl (by kernel_rfl) ?_ | refine J4 ?_ | refine J5 ?_ | refine J6 ?_ | refine J7 ?_ | refine J8 rfl ?_ | refine J9 rfl ?_) | (refine M2 ?_; first | refine I0 ?_ | refine I1 ?_ | refine I2 ?_ | refine I3 ?_ | refine I4 ?_ | refine I5 ?_ | refine I6 rfl ?_ | refine I7 ?_ | refine I8 ?_ | refine z4 ?_) | (refine M3 ?_; first | refine O6 ?_ | refine z2 tok rfl ?_ | refine O8 rfl ?_ | refine O7 rfl ?_ rfl | refine O9 rfl ?_ rfl | refine U1 _ (U4 rfl rfl) rfl ?_ | refine U1 _ (U5 rfl rfl) rfl ?_ | refine U1 _ (U2 rfl) rfl ?_ | refine U1 _ (U3 tok rfl rfl rfl rfl rfl) rfl ?_) | (refine M4 ?_; first | refine M6 ?_ | refine U6 rfl (by kernel_rfl) ?_ | refine U7 (by kernel_rfl) ?_) | (refine M5 ?_; first | exact M7 | refine U8 rfl ?_ | refine U9 rfl rfl ?_ ?_))
    refine XE.end0 Try.results101 (fun w' S => ?_)
    exact ⟨_, rfl, s, hJ, S⟩
  have him : i < M := by have := of_decide_eq_true h1; omega
  repeat (first | (refine M0 ?_; first | refine O0 ?_ | refine z1 tok rfl ?_ | refine O1 rfl ?_ rfl | refine O2 rfl ?_ | refine O3 rfl ?_ rfl | refine O4 rfl rfl rfl (fun _ _ => ?_) | refine O5 tok rfl rfl rfl (fun _ _ => ?_) | refine U0 _ (U2 rfl) rfl ?_ | refine U0 _ (U3 tok rfl rfl rfl rfl rfl) rfl ?_ | refine z3 tok rfl ?_ | refine U0 _ (U4 rfl rfl) rfl ?_ | refine U0 _ (U5 rfl rfl) rfl ?_ | refine XL.makeBools bools_el bools_zero rfl rfl rfl (by omega) (fun _ _ => ?_)) | (refine M1 ?_; first | refine J0 ?_ | refine J1 ?_ | refine J2 mixed rfl (by kernel_rfl) ?_ | refine J3 mixed rfl rfl (by kernel_rfl) ?_ | refine J4 ?_ | refine J5 ?_ | refine J6 ?_ | refine J7 ?_ | refine J8 rfl ?_ | refine J9 rfl ?_) | (refine M2 ?_; first | refine I0 ?_ | refine I1 ?_ | refine I2 ?_ | refine I3 ?_ | refine I4 ?_ | refine I5 ?_ | refine I6 rfl ?_ | refine I7 ?_ | refine I8 ?_ | refine z4 ?_) | (refine M3 ?_; first | refine O6 ?_ | refine z2 tok rfl ?_ | refine O8 rfl ?_ | refine O7 rfl ?_ rfl | refine O9 rfl ?_ rfl | refine U1 _ (U4 rfl rfl) rfl ?_ | refine U1 _ (U5 rfl rfl) rfl ?_ | refine U1 _ (U2 rfl) rfl ?_ | refine U1 _ (U3 tok rfl rfl rfl rfl rfl) rfl ?_) | (refine M4 ?_; first | refine M6 ?_ | refine U6 rfl (by kernel_rfl) ?_ | refine U7 (by kernel_rfl) ?_) | (refine M5 ?_; first | exact M7 | refine U8 rfl ?_ | refine U9 rfl rfl ?_ ?_))
  rename_i gn hgn
  rw [← prt_0 m i]
  refine XC.loopk [0, 3, 4, 5, 13, 14, 20] rfl (fun k : Nat => [(21, .int .i64 (k : Nat))]) (fun k => (gn, cel 4 (bools (prt m i k))) :: Lf s) (fun _ => Wf s) (fun k => k ≤ m) (fun k => m - k) 0 (Nat.zero_le _) (by repeat (first | exact Sub.nil | refine Sub.cons rfl ?_)) (fun _ h => h) ?_
  intro k hk
  dsimp only [List.cons_append, List.nil_append]
  repeat (first | (refine M0 ?_; first | refine O0 ?_ | refine z1 tok rfl ?_ | refine O1 rfl ?_ rfl | refine O2 rfl ?_ | refine O3 rfl ?_ rfl | refine O4 rfl rfl rfl (fun _ _ => ?_) | refine O5 tok rfl rfl rfl (fun _ _ => ?_) | refine U0 _ (U2 rfl) rfl ?_ | refine U0 _ (U3 tok rfl rfl rfl rfl rfl) rfl ?_ | refine z3 tok rfl ?_ | refine U0 _ (U4 rfl rfl) rfl ?_ | refine U0 _ (U5 rfl rfl) rfl ?_) | (refine M1 ?_; first | refine J0 ?_ | refine J1 ?_ | refine J2 mixed rfl (by kernel_rfl) ?_ | refine J3 mixed rfl rfl (by kernel_rfl) ?_ | refine J4 ?_ | refine J5 ?_ | refine J6 ?_ | refine J7 ?_ | refine J8 rfl ?_ | refine J9 rfl ?_) | (refine M2 ?_; first | refine I0 ?_ | refine I1 ?_ | refine I2 ?_ | refine I3 ?_ | refine I4 ?_ | refine I5 ?_ | refine I6 rfl ?_ | refine I7 ?_ | refine I8 ?_ | refine z4 ?_) | (refine M3 ?_; first | refine O6 ?_ | refine z2 tok rfl ?_ | refine O8 rfl ?_ | refine O7 rfl ?_ rfl | refine O9 rfl ?_ rfl | refine U1 _ (U4 rfl rfl) rfl ?_ | refine U1 _ (U5 rfl rfl) rfl ?_ | refine U1 _ (U2 rfl) rfl ?_ | refine U1 _ (U3 tok rfl rfl rfl rfl rfl) rfl ?_) | (refine M4 ?_; first | refine M6 ?_ | refine U6 rfl (by kernel_rfl) ?_ | refine U7 (by kernel_rfl) ?_) | (refine M5 ?_; first | exact M7 | refine U8 rfl ?_ | refine U9 rfl rfl ?_ ?_))
  refine XC.cond _ rfl (fun h2 => ?_) (fun h2 => ?_)
  · have hkm : k < m := by have := of_decide_eq_true h2; omega
    have hq : (m : Int) - 1 - (k : Int) = ((m - 1 - k : Nat) : Int) := by omega
    have hlt : i >>> (m - 1 - k) < 4611686018427387904 := Nat.lt_of_le_of_lt (Nat.shiftRight_le _ _) (by omega)
    repeat (first | (refine M0 ?_; first | refine O0 ?_ | refine z1 tok rfl ?_ | refine O1 rfl ?_ rfl | refine O2 rfl ?_ | refine O3 rfl ?_ rfl | refine U0 _ (Ev.shrQ (m := i) (n := m - 1 - k) rfl rfl hq (by omega)) rfl ?_ | refine U0 _ (Ev.and1 (m := i >>> (m - 1 - k)) rfl hlt) rfl ?_ | refine O4 rfl rfl rfl (fun _ _ => ?_) | refine O5 tok rfl rfl rfl (fun _ _ => ?_) | refine U0 _ (U2 rfl) rfl ?_ | refine U0 _ (U3 tok rfl rfl rfl rfl rfl) rfl ?_ | refine z3 tok rfl ?_ | refine U0 _ (U4 rfl rfl) rfl ?_ | refine U0 _ (U5 rfl rfl) rfl ?_) | (refine M1 ?_; first | refine J0 ?_ | refine J1 ?_ | refine J2 mixed rfl (by kernel_rfl) ?_ | refine J3 mixed rfl rfl (by kernel_rfl) ?_ | refine J4 ?_ | refine J5 ?_ | refine J6 ?_ | refine J7 ?_ | refine J8 rfl ?_ | refine J9 rfl ?_) | (refine M2 ?_; first | refine I0 ?_ | refine I1 ?_ | refine I2 ?_ | refine I3 ?_ | refine I4 ?_ | refine I5 ?_ | refine I6 rfl ?_ | refine I7 ?_ | refine I8 ?_ | refine z4 ?_) | (refine M3 ?_; first | refine O6 ?_ | refine z2 tok rfl ?_ | refine O8 rfl ?_ | refine O7 rfl ?_ rfl | refine O9 rfl ?_ rfl | refine U1 _ (Ev.shrQ (m := i) (n := m - 1 - k) rfl rfl hq (by omega)) rfl ?_ | refine U1 _ (Ev.and1 (m := i >>> (m - 1 - k)) rfl hlt) rfl ?_ | refine U1 _ (U4 rfl rfl) rfl ?_ | refine U1 _ (U5 rfl rfl) rfl ?_ | refine U1 _ (U2 rfl) rfl ?_ | refine U1 _ (U3 tok rfl rfl rfl rfl rfl) rfl ?_) | (refine M4 ?_; first | refine M6 ?_ | refine U6 rfl (by kernel_rfl) ?_ | refine U7 (by kernel_rfl) ?_) | (refine M5 ?_; first | exact M7 | refine U8 rfl ?_ | refine U9 rfl rfl ?_ ?_))
    rw [bit_eq]
    refine XL.store_at tok 0 (o := 0) (j := k * 1) rfl rfl rfl rfl rfl (by rw [bools_len, prt_len]; omega) rfl ?_
    rw [Nat.zero_add, Nat.mul_one k, prt_set (i := i) hkm]
    repeat (first | (refine M0 ?_; first | refine O0 ?_ | refine z1 tok rfl ?_ | refine O1 rfl ?_ rfl | refine O2 rfl ?_ | refine O3 rfl ?_ rfl | refine O4 rfl rfl rfl (fun _ _ => ?_) | refine O5 tok rfl rfl rfl (fun _ _ => ?_) | refine U0 _ (U2 rfl) rfl ?_ | refine U0 _ (U3 tok rfl rfl rfl rfl rfl) rfl ?_ | refine z3 tok rfl ?_ | refine U0 _ (U4 rfl rfl) rfl ?_ | refine U0 _ (U5 rfl rfl) rfl ?_) | (refine M1 ?_; first | refine J0 ?_ | refine J1 ?_ | refine J2 mixed rfl (by kernel_rfl) ?_ | refine J3 mixed rfl rfl (by kernel_rfl) ?_ | refine J4 ?_ | refine J5 ?_ | refine J6 ?_ | refine J7 ?_ | refine J8 rfl ?_ | refine J9 rfl ?_) | (refine M2 ?_; first | refine I0 ?_ | refine I1 ?_ | refine I2 ?_ | refine I3 ?_ | refine I4 ?_ | refine I5 ?_ | refine I6 rfl ?_ | refine I7 ?_ | refine I8 ?_ | refine z4 ?_) | (refine M3 ?_; first | refine O6 ?_ | refine z2 tok rfl ?_ | refine O8 rfl ?_ | refine O7 rfl ?_ rfl | refine O9 rfl ?_ rfl | refine U1 _ (U4 rfl rfl) rfl ?_ | refine U1 _ (U5 rfl rfl) rfl ?_ | refine U1 _ (U2 rfl) rfl ?_ | refine U1 _ (U3 tok rfl rfl rfl rfl rfl) rfl ?_) | (refine M4 ?_; first | refine M6 ?_ | refine U6 rfl (by kernel_rfl) ?_ | refine U7 (by kernel_rfl) ?_) | (refine M5 ?_; first | exact M7 | refine U8 rfl ?_ | refine U9 rfl rfl ?_ ?_))
    exact XE.round (s := k) (k + 1) hkm (by omega) (by repeat (first | exact Sub.nil | refine Sub.cons rfl ?_)) (fun _ h => h)
  have hkm : k = m := by have := of_decide_eq_false h2; omega
  rw [hkm, prt_m]
  repeat (first | (refine M0 ?_; first | refine O0 ?_ | refine z1 tok rfl ?_ | refine O1 rfl ?_ rfl | refine O2 rfl ?_ | refine O3 rfl ?_ rfl | refine O4 rfl rfl rfl (fun _ _ => ?_) | refine O5 tok rfl rfl rfl (fun _ _ => ?_) | refine U0 _ (U2 rfl) rfl ?_ | refine U0 _ (U3 tok rfl rfl rfl rfl rfl) rfl ?_ | refine z3 tok rfl ?_ | refine U0 _ (U4 rfl rfl) rfl ?_ | refine U0 _ (U5 rfl rfl) rfl ?_) | (refine XI.id ?_; first | refine XI.done ?_ | refine XI.one1 rfl ?_) | (refine XR'.id ?_; first | refine XR'.seq ?_ | refine XR'.region ?_ | refine XR'.block ?_ | refine XR'.skip ?_ | refine XR'.ret ?_ | refine XR'.cond_t rfl ?_ | refine XR'.cond_f rfl ?_ | refine XR'.exit ?_) | (refine M1 ?_; first | refine XC.regionI (id := 10) 1 ?_ | refine J0 ?_ | refine J1 ?_ | refine J2 mixed rfl (by kernel_rfl) ?_ | refine J3 mixed rfl rfl (by kernel_rfl) ?_ | refine J4 ?_ | refine J5 ?_ | refine J6 ?_ | refine J7 ?_ | refine J8 rfl ?_ | refine J9 rfl ?_) | (refine M2 ?_; first | refine XE.nextI ?_ | refine XE.nextR ?_ | refine I1 ?_ | refine I2 ?_ | refine I3 ?_ | refine I4 ?_ | refine I5 ?_ | refine I6 rfl ?_ | refine I7 ?_ | refine I8 ?_ | refine z4 ?_ | refine I0 ?_))
  refine XI.rebase (L' := Lf s) (List.sublist_cons_self _ _) (fun W3 S3 => ?_)
  refine XI.yield (vs := [.slice (some ⟨gn, 0, none⟩) m m]) rfl rfl rfl (fun _ v w' => v = .bool true ∧ ∃ s', J (i + 1) s' ∧ Sys B (Wf s') (Lf s') w') (fun w4 S4 => ?_) (fun w4 v5 w5 S4 ⟨e5, s', hJ', S5⟩ => ⟨_, _, S5, ?_⟩)
  · exact hy i s gn W3 him hJ hgn S3 w4 S4
  subst e5
  repeat (first | (refine M0 ?_; first | refine O0 ?_ | refine z1 tok rfl ?_ | refine O1 rfl ?_ rfl | refine O2 rfl ?_ | refine O3 rfl ?_ rfl | refine O4 rfl rfl rfl (fun _ _ => ?_) | refine O5 tok rfl rfl rfl (fun _ _ => ?_) | refine U0 _ (U2 rfl) rfl ?_ | refine U0 _ (U3 tok rfl rfl rfl rfl rfl) rfl ?_ | refine z3 tok rfl ?_ | refine U0 _ (U4 rfl rfl) rfl ?_ | refine U0 _ (U5 rfl rfl) rfl ?_) | (refine XI.id ?_; first | refine XI.done ?_ | refine XI.one1 rfl ?_) | (refine XR'.id ?_; first | refine XR'.seq ?_ | refine XR'.region ?_ | refine XR'.block ?_ | refine XR'.skip ?_ | refine XR'.ret ?_ | refine XR'.cond_t rfl ?_ | refine XR'.cond_f rfl ?_ | refine XR'.exit ?_) | (refine M1 ?_; first | refine J0 ?_ | refine J1 ?_ | refine J2 mixed rfl (by kernel_rfl) ?_ | refine J3 mixed rfl rfl (by kernel_rfl) ?_ | refine J4 ?_ | refine J5 ?_ | refine J6 ?_ | refine J7 ?_ | refine J8 rfl ?_ | refine J9 rfl ?_) | (refine M2 ?_; first | refine XE.nextI ?_ | refine XE.nextR ?_ | refine I1 ?_ | refine I2 ?_ | refine I3 ?_ | refine I4 ?_ | refine I5 ?_ | refine I6 rfl ?_ | refine I7 ?_ | refine I8 ?_ | refine z4 ?_ | refine I0 ?_))
  exact XE.round (s := (i, s)) (i + 1, s') ⟨him, hJ'⟩ (by simp only; omega) (by repeat (first | exact Sub.nil | refine Sub.cons rfl ?_)) (fun _ h => h)
end Go.Proofs.Ytmodjcegmgjhoaa.X
/-
  The walk of place (runoff).
-/
namespace Go.Proofs.Ytmodjcegmgjhoaa.X
open Go Go.RowKit Go.Proofs.Ytmodjcegmgjhoaa.Bs
set_option linter.unusedVariables false
theorem ints_el6 : elemOk Try.prog 26 3 1 8 = true := by kernel_rfl
theorem arr6 : arrB (Try.prog.underlying 159) = some (6, 3) := by kernel_rfl
theorem int_sz : (Try.prog.info? 3).map (·.size) = some 1 := by kernel_rfl
theorem pad_list {l : List Int} (h : l.length ≤ 6) : (ints l ++ List.replicate (6 - l.length) (.int .i64 0) : List Value) = [.int .i64 (at0 l 0), .int .i64 (at0 l 1), .int .i64 (at0 l 2), .int .i64 (at0 l 3), .int .i64 (at0 l 4), .int .i64 (at0 l 5)] := by
  match l, h with
  | [], _ => rfl
  | [_], _ => rfl
  | [_, _], _ => rfl
  | [_, _, _], _ => rfl
  | [_, _, _, _], _ => rfl
  | [_, _, _, _, _], _ => rfl
  | [_, _, _, _, _, _], _ => rfl
theorem obits_on {l : List Bool} {k : Nat} (h : bl l k = true) : obits l (k + 1) = obits l k ||| 2 ^ k := by
  rw [obits, if_pos h]
theorem obits_off {l : List Bool} {k : Nat} (h : bl l k = false) : obits l (k + 1) = obits l k := by
  rw [obits, if_neg (by simp [h])]
set_option maxHeartbeats 8000000 in
theorem place_any {g i : Nat} {sq p : SV} {s : Sta} {before : List Bool} {w : World} (hq : IntsAt w (Lt w.heap.size) sq s.fil) (h6 : s.fil.length ≤ 6) (hb : ListAt boolK w (Lt w.heap.size) p before) (hbl : before.length ≤ 4) :
    Calls Try.prog 90 #[.pointer (some ⟨g, 0, none⟩), staV sq s, .int .i64 (i : Nat), svV p] w fun e w' => e = .returned (.agg ⟨placeC i s before⟩) ∧ Below w.heap.size w w' := by
  obtain ⟨Ap, np, cp⟩ := p
  obtain ⟨Aq, nq, cq⟩ := sq
  have lp := hb.len (by decide)
  have lq := hq.len
  simp only at lp lq
  subst lp lq
  simp only [staV, staC, svV]
  refine enter Try.func90 rfl Try.ntmps90 rfl ?_; simp only [frame, Nat.zero_add, Nat.reduceAdd]
  repeat (first | (refine M0 ?_; first | refine O0 ?_ | refine z1 tok rfl ?_ | refine O1 rfl ?_ rfl | refine O2 rfl ?_ | refine O3 rfl ?_ rfl | refine O4 rfl rfl rfl (fun _ _ => ?_) | refine O5 tok rfl rfl rfl (fun _ _ => ?_) | refine U0 _ (U2 rfl) rfl ?_ | refine U0 _ (U3 tok rfl rfl rfl rfl rfl) rfl ?_ | refine z3 tok rfl ?_ | refine U0 _ (U4 rfl rfl) rfl ?_ | refine U0 _ (U5 rfl rfl) rfl ?_) | (refine M1 ?_; first | refine J0 ?_ | refine J1 ?_ | refine J2 mixed rfl (by kernel_rfl) ?_ | refine J3 mixed rfl rfl (by kernel_rfl) ?_ | refine J4 ?_ | refine J5 ?_ | refine J6 ?_ | refine J7 ?_ | refine J8 rfl ?_ | refine J9 rfl ?_) | (refine M2 ?_; first | refine I0 ?_ | refine I1 ?_ | refine I2 ?_ | refine I3 ?_ | refine I4 ?_ | refine I5 ?_ | refine I6 rfl ?_ | refine I7 ?_ | refine I8 ?_ | refine z4 ?_) | (refine M3 ?_; first | refine O6 ?_ | refine z2 tok rfl ?_ | refine O8 rfl ?_ | refine O7 rfl ?_ rfl | refine O9 rfl ?_ rfl | refine U1 _ (U4 rfl rfl) rfl ?_ | refine U1 _ (U5 rfl rfl) rfl ?_ | refine U1 _ (U2 rfl) rfl ?_ | refine U1 _ (U3 tok rfl rfl rfl rfl rfl) rfl ?_) | (refine M4 ?_; first | refine M6 ?_ | refine U6 rfl (by kernel_rfl) ?_ | refine U7 (by kernel_rfl) ?_) | (refine M5 ?_; first | exact M7 | refine U8 rfl ?_ | refine U9 rfl rfl ?_ ?_))
  rename_i g5 hg5 g8 hg8 g9 hg9
  have h16 : ∀ k, k ≤ 4 → 2 ^ k ≤ 16 := fun k hk => Nat.pow_le_pow_right (n := 2) (by decide) hk
  have hob := fun k => obits_lt before k
  refine XC.loopk [5, 8, 9, 16, 17] rfl (fun k : Nat => [(18, .int .i64 (k : Nat))]) (fun k => [(g9, cel 161 [.int .i64 (i : Nat), .int .i64 s.vol, .int .i64 (obits before k : Nat), .int .i64 0, .int .i64 0, .int .i64 0, .int .i64 0, .int .i64 0, .int .i64 0]), (g8, cel 161 [.int .i64 0, .int .i64 0, .int .i64 0, .int .i64 0, .int .i64 0, .int .i64 0, .int .i64 0, .int .i64 0, .int .i64 0]), (g5, cel 28 [.int .i64 s.vol, .slice Aq s.fil.length cq])]) (fun _ => w) (fun k => k ≤ before.length) (fun k => before.length - k) 0 (Nat.zero_le _) (by repeat (first | exact Sub.nil | refine Sub.cons rfl ?_)) (fun _ h => h) ?_
  intro k hk
  dsimp only [List.cons_append, List.nil_append]
  repeat (first | (refine M0 ?_; first | refine O0 ?_ | refine z1 tok rfl ?_ | refine O1 rfl ?_ rfl | refine O2 rfl ?_ | refine O3 rfl ?_ rfl | refine O4 rfl rfl rfl (fun _ _ => ?_) | refine O5 tok rfl rfl rfl (fun _ _ => ?_) | refine U0 _ (U2 rfl) rfl ?_ | refine U0 _ (U3 tok rfl rfl rfl rfl rfl) rfl ?_ | refine z3 tok rfl ?_ | refine U0 _ (U4 rfl rfl) rfl ?_ | refine U0 _ (U5 rfl rfl) rfl ?_) | (refine M1 ?_; first | refine J0 ?_ | refine J1 ?_ | refine J2 mixed rfl (by kernel_rfl) ?_ | refine J3 mixed rfl rfl (by kernel_rfl) ?_ | refine J4 ?_ | refine J5 ?_ | refine J6 ?_ | refine J7 ?_ | refine J8 rfl ?_ | refine J9 rfl ?_) | (refine M2 ?_; first | refine I0 ?_ | refine I1 ?_ | refine I2 ?_ | refine I3 ?_ | refine I4 ?_ | refine I5 ?_ | refine I6 rfl ?_ | refine I7 ?_ | refine I8 ?_ | refine z4 ?_) | (refine M3 ?_; first | refine O6 ?_ | refine z2 tok rfl ?_ | refine O8 rfl ?_ | refine O7 rfl ?_ rfl | refine O9 rfl ?_ rfl | refine U1 _ (U4 rfl rfl) rfl ?_ | refine U1 _ (U5 rfl rfl) rfl ?_ | refine U1 _ (U2 rfl) rfl ?_ | refine U1 _ (U3 tok rfl rfl rfl rfl rfl) rfl ?_) | (refine M4 ?_; first | refine M6 ?_ | refine U6 rfl (by kernel_rfl) ?_ | refine U7 (by kernel_rfl) ?_) | (refine M5 ?_; first | exact M7 | refine U8 rfl ?_ | refine U9 rfl rfl ?_ ?_))
  refine XC.cond _ rfl (fun h1 => ?_) (fun h1 => ?_)
  · have hkl : k < before.length := by have := of_decide_eq_true h1; omega
    obtain ⟨ap, rfl, hlp⟩ := hb.addr (by decide) (by omega)
    have hbk := boolAt hb (k := k) hkl
    have hk1 := hob k
    have hk2 := h16 k (by omega)
    repeat (first | (refine M0 ?_; first | refine O0 ?_ | refine z1 tok rfl ?_ | refine O1 rfl ?_ rfl | refine O2 rfl ?_ | refine O3 rfl ?_ rfl | refine U0 _ (Ev.load_old tok rfl rfl (add_lt hlp) hbk) rfl ?_ | refine O4 rfl rfl rfl (fun _ _ => ?_) | refine O5 tok rfl rfl rfl (fun _ _ => ?_) | refine U0 _ (U2 rfl) rfl ?_ | refine U0 _ (U3 tok rfl rfl rfl rfl rfl) rfl ?_ | refine z3 tok rfl ?_ | refine U0 _ (U4 rfl rfl) rfl ?_ | refine U0 _ (U5 rfl rfl) rfl ?_) | (refine M1 ?_; first | refine J0 ?_ | refine J1 ?_ | refine J2 mixed rfl (by kernel_rfl) ?_ | refine J3 mixed rfl rfl (by kernel_rfl) ?_ | refine J4 ?_ | refine J5 ?_ | refine J6 ?_ | refine J7 ?_ | refine J8 rfl ?_ | refine J9 rfl ?_) | (refine M2 ?_; first | refine I0 ?_ | refine I1 ?_ | refine I2 ?_ | refine I3 ?_ | refine I4 ?_ | refine I5 ?_ | refine I6 rfl ?_ | refine I7 ?_ | refine I8 ?_ | refine z4 ?_) | (refine M3 ?_; first | refine O6 ?_ | refine z2 tok rfl ?_ | refine O8 rfl ?_ | refine O7 rfl ?_ rfl | refine O9 rfl ?_ rfl | refine U1 _ (Ev.load_old tok rfl rfl (add_lt hlp) hbk) rfl ?_ | refine U1 _ (U4 rfl rfl) rfl ?_ | refine U1 _ (U5 rfl rfl) rfl ?_ | refine U1 _ (U2 rfl) rfl ?_ | refine U1 _ (U3 tok rfl rfl rfl rfl rfl) rfl ?_) | (refine M4 ?_; first | refine M6 ?_ | refine U6 rfl (by kernel_rfl) ?_ | refine U7 (by kernel_rfl) ?_) | (refine M5 ?_; first | exact M7 | refine U8 rfl ?_ | refine U9 rfl rfl ?_ ?_))
    refine XC.cond _ rfl (fun h2 => ?_) (fun h2 => ?_)
    · repeat (first | (refine M0 ?_; first | refine O0 ?_ | refine z1 tok rfl ?_ | refine O1 rfl ?_ rfl | refine O2 rfl ?_ | refine O3 rfl ?_ rfl | refine U0 _ (Ev.shl1 (n := k) rfl (by omega)) rfl ?_ | refine U0 _ (Ev.orN (a := obits before k) (b := 2 ^ k) rfl rfl (by omega) (by omega)) rfl ?_ | refine O4 rfl rfl rfl (fun _ _ => ?_) | refine O5 tok rfl rfl rfl (fun _ _ => ?_) | refine U0 _ (U2 rfl) rfl ?_ | refine U0 _ (U3 tok rfl rfl rfl rfl rfl) rfl ?_ | refine z3 tok rfl ?_ | refine U0 _ (U4 rfl rfl) rfl ?_ | refine U0 _ (U5 rfl rfl) rfl ?_) | (refine M1 ?_; first | refine J0 ?_ | refine J1 ?_ | refine J2 mixed rfl (by kernel_rfl) ?_ | refine J3 mixed rfl rfl (by kernel_rfl) ?_ | refine J4 ?_ | refine J5 ?_ | refine J6 ?_ | refine J7 ?_ | refine J8 rfl ?_ | refine J9 rfl ?_) | (refine M2 ?_; first | refine I0 ?_ | refine I1 ?_ | refine I2 ?_ | refine I3 ?_ | refine I4 ?_ | refine I5 ?_ | refine I6 rfl ?_ | refine I7 ?_ | refine I8 ?_ | refine z4 ?_) | (refine M3 ?_; first | refine O6 ?_ | refine z2 tok rfl ?_ | refine O8 rfl ?_ | refine O7 rfl ?_ rfl | refine O9 rfl ?_ rfl | refine U1 _ (Ev.shl1 (n := k) rfl (by omega)) rfl ?_ | refine U1 _ (Ev.orN (a := obits before k) (b := 2 ^ k) rfl rfl (by omega) (by omega)) rfl ?_ | refine U1 _ (U4 rfl rfl) rfl ?_ | refine U1 _ (U5 rfl rfl) rfl ?_ | refine U1 _ (U2 rfl) rfl ?_ | refine U1 _ (U3 tok rfl rfl rfl rfl rfl) rfl ?_) | (refine M4 ?_; first | refine M6 ?_ | refine U6 rfl (by kernel_rfl) ?_ | refine U7 (by kernel_rfl) ?_) | (refine M5 ?_; first | exact M7 | refine U8 rfl ?_ | refine U9 rfl rfl ?_ ?_))
      rw [← obits_on h2]
      exact XE.round (s := k) (k + 1) hkl (by omega) (by repeat (first | exact Sub.nil | refine Sub.cons rfl ?_)) (fun _ h => h)
    · repeat (first | (refine M0 ?_; first | refine O0 ?_ | refine z1 tok rfl ?_ | refine O1 rfl ?_ rfl | refine O2 rfl ?_ | refine O3 rfl ?_ rfl | refine O4 rfl rfl rfl (fun _ _ => ?_) | refine O5 tok rfl rfl rfl (fun _ _ => ?_) | refine U0 _ (U2 rfl) rfl ?_ | refine U0 _ (U3 tok rfl rfl rfl rfl rfl) rfl ?_ | refine z3 tok rfl ?_ | refine U0 _ (U4 rfl rfl) rfl ?_ | refine U0 _ (U5 rfl rfl) rfl ?_) | (refine M1 ?_; first | refine J0 ?_ | refine J1 ?_ | refine J2 mixed rfl (by kernel_rfl) ?_ | refine J3 mixed rfl rfl (by kernel_rfl) ?_ | refine J4 ?_ | refine J5 ?_ | refine J6 ?_ | refine J7 ?_ | refine J8 rfl ?_ | refine J9 rfl ?_) | (refine M2 ?_; first | refine I0 ?_ | refine I1 ?_ | refine I2 ?_ | refine I3 ?_ | refine I4 ?_ | refine I5 ?_ | refine I6 rfl ?_ | refine I7 ?_ | refine I8 ?_ | refine z4 ?_) | (refine M3 ?_; first | refine O6 ?_ | refine z2 tok rfl ?_ | refine O8 rfl ?_ | refine O7 rfl ?_ rfl | refine O9 rfl ?_ rfl | refine U1 _ (U4 rfl rfl) rfl ?_ | refine U1 _ (U5 rfl rfl) rfl ?_ | refine U1 _ (U2 rfl) rfl ?_ | refine U1 _ (U3 tok rfl rfl rfl rfl rfl) rfl ?_) | (refine M4 ?_; first | refine M6 ?_ | refine U6 rfl (by kernel_rfl) ?_ | refine U7 (by kernel_rfl) ?_) | (refine M5 ?_; first | exact M7 | refine U8 rfl ?_ | refine U9 rfl rfl ?_ ?_))
      rw [← obits_off h2]
      exact XE.round (s := k) (k + 1) hkl (by omega) (by repeat (first | exact Sub.nil | refine Sub.cons rfl ?_)) (fun _ h => h)
  have hkl : k = before.length := by have := of_decide_eq_false h1; omega
  rw [hkl]
  repeat (first | (refine M0 ?_; first | refine O0 ?_ | refine z1 tok rfl ?_ | refine O1 rfl ?_ rfl | refine O2 rfl ?_ | refine O3 rfl ?_ rfl | refine O4 rfl rfl rfl (fun _ _ => ?_) | refine O5 tok rfl rfl rfl (fun _ _ => ?_) | refine U0 _ (U2 rfl) rfl ?_ | refine U0 _ (U3 tok rfl rfl rfl rfl rfl) rfl ?_ | refine z3 tok rfl ?_ | refine U0 _ (U4 rfl rfl) rfl ?_ | refine U0 _ (U5 rfl rfl) rfl ?_) | (refine M1 ?_; first | refine J0 ?_ | refine J1 ?_ | refine J4 ?_ | refine J5 ?_ | refine J6 ?_ | refine J7 ?_ | refine J8 rfl ?_ | refine J9 rfl ?_) | (refine M2 ?_; first | refine I0 ?_ | refine I1 ?_ | refine I2 ?_ | refine I3 ?_ | refine I4 ?_ | refine I5 ?_ | refine I6 rfl ?_ | refine I7 ?_ | refine I8 ?_ | refine z4 ?_) | (refine M3 ?_; first | refine O6 ?_ | refine z2 tok rfl ?_ | refine O8 rfl ?_ | refine O7 rfl ?_ rfl | refine O9 rfl ?_ rfl | refine U1 _ (U4 rfl rfl) rfl ?_ | refine U1 _ (U5 rfl rfl) rfl ?_ | refine U1 _ (U2 rfl) rfl ?_ | refine U1 _ (U3 tok rfl rfl rfl rfl rfl) rfl ?_) | (refine M4 ?_; first | refine M6 ?_ | refine U6 rfl (by kernel_rfl) ?_ | refine U7 (by kernel_rfl) ?_) | (refine M5 ?_; first | exact M7 | refine U8 rfl ?_ | refine U9 rfl rfl ?_ ?_))
  refine XC.drawT mixed rfl rfl (by kernel_rfl) ?_
  repeat (first | (refine M0 ?_; first | refine O0 ?_ | refine z1 tok rfl ?_ | refine O1 rfl ?_ rfl | refine O2 rfl ?_ | refine O3 rfl ?_ rfl | refine U0 _ (Ev.sliceArr rfl arr6 int_sz (by decide)) rfl ?_ | refine O4 rfl rfl rfl (fun _ _ => ?_) | refine O5 tok rfl rfl rfl (fun _ _ => ?_) | refine U0 _ (U2 rfl) rfl ?_ | refine U0 _ (U3 tok rfl rfl rfl rfl rfl) rfl ?_ | refine z3 tok rfl ?_ | refine U0 _ (U4 rfl rfl) rfl ?_ | refine U0 _ (U5 rfl rfl) rfl ?_) | (refine M1 ?_; first | refine J0 ?_ | refine J1 ?_ | refine J4 ?_ | refine J5 ?_ | refine J6 ?_ | refine J7 ?_ | refine J8 rfl ?_ | refine J9 rfl ?_) | (refine M2 ?_; first | refine I0 ?_ | refine I1 ?_ | refine I2 ?_ | refine I3 ?_ | refine I4 ?_ | refine I5 ?_ | refine I6 rfl ?_ | refine I7 ?_ | refine I8 ?_ | refine z4 ?_) | (refine M3 ?_; first | refine O6 ?_ | refine z2 tok rfl ?_ | refine O8 rfl ?_ | refine O7 rfl ?_ rfl | refine O9 rfl ?_ rfl | refine U1 _ (Ev.sliceArr rfl arr6 int_sz (by decide)) rfl ?_ | refine U1 _ (U4 rfl rfl) rfl ?_ | refine U1 _ (U5 rfl rfl) rfl ?_ | refine U1 _ (U2 rfl) rfl ?_ | refine U1 _ (U3 tok rfl rfl rfl rfl rfl) rfl ?_) | (refine M4 ?_; first | refine M6 ?_ | refine U6 rfl (by kernel_rfl) ?_ | refine U7 (by kernel_rfl) ?_) | (refine M5 ?_; first | exact M7 | refine U8 rfl ?_ | refine U9 rfl rfl ?_ ?_))
  refine XL.copyIn 0 (o := 3) (vs := ints s.fil) ints_el6 rfl rfl rfl rfl (fun w5 S5 => (hq.arg S5).rd) h6 (by simp only [List.length_cons, List.length_nil]; omega) (fun v hv => by obtain ⟨x, _, rfl⟩ := List.mem_map.1 hv; rfl) rfl ?_
  have e9 : (([.int .i64 (i : Nat), .int .i64 s.vol, .int .i64 (obits before before.length : Nat), .int .i64 0, .int .i64 0, .int .i64 0, .int .i64 0, .int .i64 0, .int .i64 0] : List Value).take 3 ++ ints s.fil ++ ([.int .i64 (i : Nat), .int .i64 s.vol, .int .i64 (obits before before.length : Nat), .int .i64 0, .int .i64 0, .int .i64 0, .int .i64 0, .int .i64 0, .int .i64 0] : List Value).drop (3 + s.fil.length)) = placeC i s before := by
    have e1 : ([.int .i64 (i : Nat), .int .i64 s.vol, .int .i64 (obits before before.length : Nat), .int .i64 0, .int .i64 0, .int .i64 0, .int .i64 0, .int .i64 0, .int .i64 0] : List Value).drop (3 + s.fil.length) = List.replicate (6 - s.fil.length) (.int .i64 0) := by
      rw [← List.drop_drop, show ([.int .i64 (i : Nat), .int .i64 s.vol, .int .i64 (obits before before.length : Nat), .int .i64 0, .int .i64 0, .int .i64 0, .int .i64 0, .int .i64 0, .int .i64 0] : List Value).drop 3 = List.replicate 6 (.int .i64 0) from rfl, List.drop_replicate]
    rw [e1, List.append_assoc, pad_list h6]
    rfl
  rw [e9]
  simp only [placeC]
  repeat (first | (refine M0 ?_; first | refine O0 ?_ | refine z1 tok rfl ?_ | refine O1 rfl ?_ rfl | refine O2 rfl ?_ | refine O3 rfl ?_ rfl | refine O4 rfl rfl rfl (fun _ _ => ?_) | refine O5 tok rfl rfl rfl (fun _ _ => ?_) | refine U0 _ (U2 rfl) rfl ?_ | refine U0 _ (U3 tok rfl rfl rfl rfl rfl) rfl ?_ | refine z3 tok rfl ?_ | refine U0 _ (U4 rfl rfl) rfl ?_ | refine U0 _ (U5 rfl rfl) rfl ?_) | (refine M1 ?_; first | refine J0 ?_ | refine J1 ?_ | refine J4 ?_ | refine J5 ?_ | refine J6 ?_ | refine J7 ?_ | refine J8 rfl ?_ | refine J9 rfl ?_) | (refine M2 ?_; first | refine I0 ?_ | refine I1 ?_ | refine I2 ?_ | refine I3 ?_ | refine I4 ?_ | refine I5 ?_ | refine I6 rfl ?_ | refine I7 ?_ | refine I8 ?_ | refine z4 ?_) | (refine M3 ?_; first | refine O6 ?_ | refine z2 tok rfl ?_ | refine O8 rfl ?_ | refine O7 rfl ?_ rfl | refine O9 rfl ?_ rfl | refine U1 _ (U4 rfl rfl) rfl ?_ | refine U1 _ (U5 rfl rfl) rfl ?_ | refine U1 _ (U2 rfl) rfl ?_ | refine U1 _ (U3 tok rfl rfl rfl rfl rfl) rfl ?_) | (refine M4 ?_; first | refine M6 ?_ | refine U6 rfl (by kernel_rfl) ?_ | refine U7 (by kernel_rfl) ?_) | (refine M5 ?_; first | exact M7 | refine U8 rfl ?_ | refine U9 rfl rfl ?_ ?_))
  refine XE.retg tok Try.results90 rfl (by simp only [and_self, and_true]) (fun w' S => ?_)
  exact ⟨rfl, S.toBelow⟩
end Go.Proofs.Ytmodjcegmgjhoaa.X
