/-
  The walk of the document's Check, and of what returns its error alone (closure).
-/
import Derived.Test.YtmpaiphakjogjaaPart4
set_option linter.unusedVariables false
set_option linter.unusedSimpArgs false
namespace Go.Proofs.Ytmpaiphakjogjaa.Bs
open Go Go.Proofs.Ytmpaiphakjogjaa.X
set_option linter.unusedVariables false
theorem filB_take {t : CTk} {j : Nat} : ((List.range (j + 1)).all fun i => !outB (at0 t.fil i) 0 (t.b.pol i).room) = (((List.range j).all fun i => !outB (at0 t.fil i) 0 (t.b.pol i).room) && !outB (at0 t.fil j) 0 (t.b.pol j).room) := by
  rw [List.range_succ, List.all_append]; simp
theorem filB_all {t : CTk} : ((List.range t.fil.length).all fun i => !outB (at0 t.fil i) 0 (t.b.pol i).room) = !filBad t := by
  unfold filBad
  generalize List.range t.fil.length = l
  induction l with
  | nil => rfl
  | cons a l ih => simp [ih, Bool.not_or]
end Go.Proofs.Ytmpaiphakjogjaa.Bs
namespace Go.Proofs.Ytmpaiphakjogjaa.X
open Go Go.RowKit Go.Proofs.Ytmpaiphakjogjaa.Bs
set_option linter.unusedVariables false
set_option maxHeartbeats 16000000 in
theorem refCheck5_any {v : CTV} {t : CTk} {w : World} (h : CtAt w w.heap.size v t) :
    Calls Try.prog 12 #[ctkV v t] w fun e w' => e = .returned (chkCV t) ∧ Below w.heap.size w w' := by
  have hm := h.hn
  have hmax := h.hmax
  have hrn := h.river.len
  have hrm := h.river.max
  have hfn := h.fil.len
  have hfm := h.fil.max
  have hpn := h.bas.n2_eq
  have hrows := h.bas.n_eq
  have hbas := h.bas
  have hhis := fun k hk => h.hisAt (k := k) hk
  have hriv := h.river
  have hfil := h.fil
  have hh := h
  obtain ⟨⟨A1, n1, c1, A2, n2, c2⟩, ⟨Af, nf, cf⟩, ⟨Ah, nh, ch⟩, ⟨Ar, nr, cr⟩⟩ := v
  simp only at hm hrn hfn hpn hrows hmax hrm hfm
  subst hm hrn hfn hpn hrows
  have hchk := fun (w5 : World) (hB : Below w.heap.size w w5) => refCheck_any (p := ⟨A1, t.b.rows.length, c1, A2, t.b.pols.length, c2⟩) (b := t.b) (w := w5) ((hbas.below hB).more hB.size)
  simp only [basV, basC] at hchk
  simp only [ctkV, ctkC]
  refine enter Try.func12 rfl Try.ntmps12 rfl ?_; simp only [frame, Nat.zero_add, Nat.reduceAdd]
  repeat (first | (refine M0 ?_; first | refine SL ?_ | refine SB fun _ _ => ?_ | refine Y4 (Ev.call (f := 43) (ck rfl) rfl (fun w5 S5 => hchk w5 S5.toBelow)) ?_) | (refine M1 ?_; refine SC ?_) | (refine M2 ?_; refine SE ?_))
  rename_i g1 hg1
  by_cases hc : chkE t.b = 0
  rotate_left
  · rw [show decide ((chk t.b).2.2 ≠ 0) = true from decide_eq_true hc]
    repeat (first | (refine M0 ?_; first | refine SL ?_ | refine SB fun _ _ => ?_) | (refine M1 ?_; refine SC ?_) | (refine M2 ?_; refine SE ?_))
    refine XE.retg tok Try.results12 rfl (by simp only [and_self, and_true]) (fun w' S => ?_)
    exact ⟨chkCV_of (chkC_1 hc), S.toBelow⟩
  rw [show decide ((chk t.b).2.2 ≠ 0) = false from decide_eq_false (fun h => h hc)]
  repeat (first | (refine M0 ?_; first | refine SL ?_ | refine SB fun _ _ => ?_ | refine Y4 (Ev.call (f := 44) (ck rfl) rfl (fun w _ => in5_any _ _ _ w)) ?_) | (refine M1 ?_; refine SC ?_) | (refine M2 ?_; refine SE ?_))
  cases hm1 : outB (t.m : Int) 1 8
  rotate_left
  · repeat (first | (refine M0 ?_; first | refine SL ?_ | refine SB fun _ _ => ?_) | (refine M1 ?_; refine SC ?_) | (refine M2 ?_; refine SE ?_))
    refine XE.retg tok Try.results12 rfl (by simp only [and_self, and_true]) (fun w' S => ?_)
    exact ⟨chkCV_of (chkC_2 hc (by rw [hm1]; rfl)), S.toBelow⟩
  have hm2 := outB_f.1 hm1
  obtain ⟨ad, ⟨A0, n0, c0⟩, rfl, hlt, hcell0, hq0⟩ := hhis 0 (by omega)
  have hl0 := hq0.len
  have hn0 : n0 = t.n := hl0
  subst hn0
  have d01 : w.cell? ((ad.add (0 * 2)).add 1) = some (.slice A0 t.n c0) := hcell0 1 _ rfl
  repeat (first | (refine M0 ?_; first | refine SL ?_ | refine SB fun _ _ => ?_ | refine Y4 (Ev.load_old tok rfl rfl (add_lt2 hlt) d01) ?_ | refine Y4 (Ev.call (f := 44) (ck rfl) rfl (fun w _ => in5_any _ _ _ w)) ?_) | (refine M1 ?_; refine SC ?_) | (refine M2 ?_; refine SE ?_))
  cases hn1 : outB (t.n : Int) 1 60
  rotate_left
  · repeat (first | (refine M0 ?_; first | refine SL ?_ | refine SB fun _ _ => ?_) | (refine M1 ?_; refine SC ?_) | (refine M2 ?_; refine SE ?_))
    refine XE.retg tok Try.results12 rfl (by simp only [and_self, and_true]) (fun w' S => ?_)
    exact ⟨chkCV_of (chkC_2 hc (by rw [hm1, hn1]; rfl)), S.toBelow⟩
  have hn2 := outB_f.1 hn1
  have pA : PreA t := ⟨hc, hm1, hn1⟩
  have hhi := fun {L : Lo} (k : Nat) (hk : k < t.m) (w5 : World) (S5 : Sys w.heap.size w L w5) => refHis_any (hh.sys S5) hk (by omega) (by omega)
  simp only [ctkV, ctkC] at hhi
  repeat (first | (refine M0 ?_; first | refine SL ?_ | refine SB fun _ _ => ?_) | (refine M1 ?_; refine SC ?_) | (refine M2 ?_; refine SE ?_))
  refine XC.loopk [1] rfl (fun k : Nat => [(8, .int .i64 (k : Nat))]) (fun _ => [(g1, cel 29 (ctkC ⟨⟨A1, t.b.rows.length, c1, A2, t.b.pols.length, c2⟩, ⟨Af, t.fil.length, cf⟩, ⟨some ad, t.m, ch⟩, ⟨Ar, t.river.length, cr⟩⟩ t))]) (fun _ => w) (fun k => k ≤ t.m ∧ ∀ j, j < k → hisErr t j = 0) (fun k => t.m - k) 0 ⟨Nat.zero_le _, fun j h => absurd h (by omega)⟩ ZZSUB (fun _ h => h) ?_
  rintro k ⟨hk, h0⟩
  simp only [ctkC]
  dsimp only [List.cons_append, List.nil_append]
  repeat (first | (refine M0 ?_; first | refine SL ?_ | refine SB fun _ _ => ?_) | (refine M1 ?_; refine SC ?_) | (refine M2 ?_; refine SE ?_))
  refine XC.cond _ rfl (fun h3 => ?_) (fun h3 => ?_)
  · have hkn : k < t.m := by have := of_decide_eq_true h3; omega
    repeat (first | (refine M0 ?_; first | refine SL ?_ | refine SB fun _ _ => ?_ | refine Y4 (Ev.call (f := 45) (ck rfl) rfl (fun w5 S5 => hhi k hkn w5 S5)) ?_) | (refine M1 ?_; refine SC ?_) | (refine M2 ?_; refine SE ?_))
    by_cases he : hisErr t k = 0
    rotate_left
    · rw [show decide (hisErr t k ≠ 0) = true from decide_eq_true he]
      repeat (first | (refine M0 ?_; first | refine SL ?_ | refine SB fun _ _ => ?_) | (refine M1 ?_; refine SC ?_) | (refine M2 ?_; refine SE ?_))
      refine XE.retg tok Try.results12 rfl (by simp only [and_self, and_true]) (fun w' S => ?_)
      exact ⟨chkCV_of (chkC_3 pA hkn h0 rfl he), S.toBelow⟩
    rw [show decide (hisErr t k ≠ 0) = false from decide_eq_false (fun h => h he)]
    repeat (first | (refine M0 ?_; first | refine SL ?_ | refine SB fun _ _ => ?_) | (refine M1 ?_; refine SC ?_) | (refine M2 ?_; refine SE ?_))
    refine XE.round (s := k) (k + 1) ⟨hkn, fun j hj => ?_⟩ (by omega) ZZSUB (fun _ h => h)
    rcases Nat.lt_or_ge j k with h5 | h5
    · exact h0 j h5
    · have : j = k := by omega
      subst this
      exact he
  have hkn : k = t.m := by have := of_decide_eq_false h3; omega
  subst hkn
  have pB : PreB t := ⟨pA, h0⟩
  repeat (first | (refine M0 ?_; first | refine SL ?_ | refine SB fun _ _ => ?_ | refine Y4 (Ev.load_old tok rfl rfl (add_lt2 hlt) d01) ?_) | (refine M1 ?_; first | refine SC ?_ | refine SD ?_) | (refine M2 ?_; refine SE ?_) | (refine M3 ?_; first | refine SG ?_ | refine SF ?_ | refine YF (Ev.load_old tok rfl rfl (add_lt2 hlt) d01) ?_) | (refine M4 ?_; refine SR ?_) | (refine M5 ?_; first | exact M7 | refine YM ?_ | refine YN ?_ ?_))
  by_cases hr : t.river.length = t.n
  rotate_left
  · rw [show decide ((t.river.length : Int) ≠ (t.n : Int)) = true from decide_eq_true (by omega)]
    repeat (first | (refine M0 ?_; first | refine SL ?_ | refine SB fun _ _ => ?_) | (refine M1 ?_; refine SC ?_) | (refine M2 ?_; refine SE ?_))
    refine XE.retg tok Try.results12 rfl (by simp only [and_self, and_true]) (fun w' S => ?_)
    exact ⟨chkCV_of (chkC_4 pB hr), S.toBelow⟩
  rw [show decide ((t.river.length : Int) ≠ (t.n : Int)) = false from decide_eq_false (by omega)]
  repeat (first | (refine M0 ?_; first | refine SL ?_ | refine SB fun _ _ => ?_) | (refine M1 ?_; refine SC ?_) | (refine M2 ?_; refine SE ?_))
  refine XC.loopk [1] rfl (fun k : Nat => [(10, .int .i64 (k : Nat))]) (fun _ => [(g1, cel 29 (ctkC ⟨⟨A1, t.b.rows.length, c1, A2, t.b.pols.length, c2⟩, ⟨Af, t.fil.length, cf⟩, ⟨some ad, t.m, ch⟩, ⟨Ar, t.river.length, cr⟩⟩ t))]) (fun _ => w) (fun k => k ≤ t.river.length ∧ ∀ j, j < k → outB (at0 t.river j) 0 10000000 = false) (fun k => t.river.length - k) 0 ⟨Nat.zero_le _, fun j h => absurd h (by omega)⟩ ZZSUB (fun _ h => h) ?_
  rintro k ⟨hk, h1⟩
  simp only [ctkC]
  dsimp only [List.cons_append, List.nil_append]
  repeat (first | (refine M0 ?_; first | refine SL ?_ | refine SB fun _ _ => ?_) | (refine M1 ?_; refine SC ?_) | (refine M2 ?_; refine SE ?_))
  refine XC.cond _ rfl (fun h3 => ?_) (fun h3 => ?_)
  · have hkn : k < t.river.length := by have := of_decide_eq_true h3; omega
    obtain ⟨ar, rfl, hltr, hcr⟩ := hriv.at_ (by omega)
    have dr := hcr k hkn
    repeat (first | (refine M0 ?_; first | refine SL ?_ | refine SB fun _ _ => ?_ | refine Y4 (Ev.load_old tok rfl rfl (add_lt hltr) dr) ?_ | refine Y4 (Ev.call (f := 44) (ck rfl) rfl (fun w _ => in5_any _ _ _ w)) ?_) | (refine M1 ?_; refine SC ?_) | (refine M2 ?_; refine SE ?_))
    cases he : outB (at0 t.river k) 0 10000000
    rotate_left
    · repeat (first | (refine M0 ?_; first | refine SL ?_ | refine SB fun _ _ => ?_) | (refine M1 ?_; refine SC ?_) | (refine M2 ?_; refine SE ?_))
      refine XE.retg tok Try.results12 rfl (by simp only [and_self, and_true]) (fun w' S => ?_)
      refine ⟨chkCV_of (chkC_5 pB hr ?_), S.toBelow⟩
      rw [List.any_eq_true]
      exact ⟨t.river[k], List.getElem_mem hkn, by unfold at0 at he; rw [List.getElem?_eq_getElem hkn] at he; exact he⟩
    repeat (first | (refine M0 ?_; first | refine SL ?_ | refine SB fun _ _ => ?_) | (refine M1 ?_; refine SC ?_) | (refine M2 ?_; refine SE ?_))
    refine XE.round (s := k) (k + 1) ⟨hkn, fun j hj => ?_⟩ (by omega) ZZSUB (fun _ h => h)
    rcases Nat.lt_or_ge j k with h5 | h5
    · exact h1 j h5
    · have : j = k := by omega
      subst this
      exact he
  have hkn : k = t.river.length := by have := of_decide_eq_false h3; omega
  subst hkn
  have ha : (t.river.any fun v => outB v 0 10000000) = false := any_of (p := fun v => outB v 0 10000000) h1
  repeat (first | (refine M0 ?_; first | refine SL ?_ | refine SB fun _ _ => ?_) | (refine M1 ?_; refine SC ?_) | (refine M2 ?_; refine SE ?_))
  by_cases hfl : t.fil.length = t.b.pols.length
  rotate_left
  · rw [show decide ((t.fil.length : Int) ≠ (t.b.pols.length : Int)) = true from decide_eq_true (by omega)]
    repeat (first | (refine M0 ?_; first | refine SL ?_ | refine SB fun _ _ => ?_) | (refine M1 ?_; refine SC ?_) | (refine M2 ?_; refine SE ?_))
    refine XE.retg tok Try.results12 rfl (by simp only [and_self, and_true]) (fun w' S => ?_)
    exact ⟨chkCV_of (chkC_6 pB hr ha hfl), S.toBelow⟩
  rw [show decide ((t.fil.length : Int) ≠ (t.b.pols.length : Int)) = false from decide_eq_false (by omega)]
  have hOk := ok_of hc
  have hr2 := hOk.n2
  obtain ⟨a1, rfl, hlt1⟩ := hbas.rows.addr (by simp only; omega)
  have dlev : w.cell? ((a1.add (0 * 2)).add 0) = some (.int .i64 (t.b.row 0).level) := hbas.rowLevel (by omega)
  obtain ⟨b0, hb0⟩ : ∃ b0, b0 = !(outB t.out 0 10000000 || (outB t.limit (t.b.row 0).level 20000 || outB t.delay 0 30)) := ⟨_, rfl⟩
  repeat (first | (refine M0 ?_; first | refine SL ?_ | refine SB fun _ _ => ?_) | (refine M2 ?_; refine SE ?_) | (refine M3 ?_; first | refine SG ?_ | refine SF ?_) | (refine M4 ?_; refine SR ?_) | (refine M5 ?_; first | exact M7 | refine YM ?_ | refine YN ?_ ?_))
  refine SC ?_
  refine SC ?_
  refine SE ?_
  refine XC.seq ?_
  refine XC.cutn [1] rfl (fun _ : Unit => [(11, .bool b0)]) (fun _ => [(g1, cel 29 (ctkC ⟨⟨some a1, t.b.rows.length, c1, A2, t.b.pols.length, c2⟩, ⟨Af, t.fil.length, cf⟩, ⟨some ad, t.m, ch⟩, ⟨Ar, t.river.length, cr⟩⟩ t))]) (fun _ => w) (fun _ => True) ?_ (fun _ _ => ?_)
  · cases x1 : outB t.out 0 10000000
    rotate_left
    · repeat (first | (refine M0 ?_; first | refine SL ?_ | refine SB fun _ _ => ?_ | refine Y4 (Ev.call (f := 44) (ck rfl) rfl (fun w _ => in5_any _ _ _ w)) ?_) | (refine M1 ?_; first | refine SC ?_ | refine SD ?_) | (refine M2 ?_; refine SE ?_) | (refine M3 ?_; first | refine SG ?_ | refine SF ?_ | refine YF (Ev.call (f := 44) (ck rfl) rfl (fun w _ => in5_any _ _ _ w)) ?_) | (refine M4 ?_; refine SR ?_) | (refine M5 ?_; first | exact M7 | refine YM ?_ | refine YN ?_ ?_))
      rw [x1]
      repeat (first | (refine M0 ?_; first | refine SL ?_ | refine SB fun _ _ => ?_) | (refine M1 ?_; first | refine SC ?_ | refine SD ?_) | (refine M2 ?_; refine SE ?_) | (refine M3 ?_; first | refine SG ?_ | refine SF ?_) | (refine M4 ?_; refine SR ?_) | (refine M5 ?_; first | exact M7 | refine YM ?_ | refine YN ?_ ?_))
      exact XE.leaf () (Sub.cons (by rw [hb0, x1]; rfl) ZZSUB) (fun _ h => h) trivial
    cases x2 : outB t.limit (t.b.row 0).level 20000
    rotate_left
    · repeat (first | (refine M0 ?_; first | refine SL ?_ | refine SB fun _ _ => ?_ | refine Y4 (Ev.call (f := 44) (ck rfl) rfl (fun w _ => in5_any _ _ _ w)) ?_) | (refine M1 ?_; first | refine SC ?_ | refine SD ?_) | (refine M2 ?_; refine SE ?_) | (refine M3 ?_; first | refine SG ?_ | refine SF ?_ | refine YF (Ev.call (f := 44) (ck rfl) rfl (fun w _ => in5_any _ _ _ w)) ?_) | (refine M4 ?_; refine SR ?_) | (refine M5 ?_; first | exact M7 | refine YM ?_ | refine YN ?_ ?_))
      rw [x1]
      repeat (first | (refine M0 ?_; first | refine SL ?_ | refine SB fun _ _ => ?_ | refine Y4 (Ev.load_old tok rfl rfl (add_lt2 hlt1) dlev) ?_ | refine Y4 (Ev.call (f := 44) (ck rfl) rfl (fun w _ => in5_any _ _ _ w)) ?_) | (refine M1 ?_; first | refine SC ?_ | refine SD ?_) | (refine M2 ?_; refine SE ?_) | (refine M3 ?_; first | refine SG ?_ | refine SF ?_ | refine YF (Ev.load_old tok rfl rfl (add_lt2 hlt1) dlev) ?_ | refine YF (Ev.call (f := 44) (ck rfl) rfl (fun w _ => in5_any _ _ _ w)) ?_) | (refine M4 ?_; refine SR ?_) | (refine M5 ?_; first | exact M7 | refine YM ?_ | refine YN ?_ ?_))
      rw [x2]
      repeat (first | (refine M0 ?_; first | refine SL ?_ | refine SB fun _ _ => ?_) | (refine M1 ?_; first | refine SC ?_ | refine SD ?_) | (refine M2 ?_; refine SE ?_) | (refine M3 ?_; first | refine SG ?_ | refine SF ?_) | (refine M4 ?_; refine SR ?_) | (refine M5 ?_; first | exact M7 | refine YM ?_ | refine YN ?_ ?_))
      exact XE.leaf () (Sub.cons (by rw [hb0, x1, x2]; rfl) ZZSUB) (fun _ h => h) trivial
    repeat (first | (refine M0 ?_; first | refine SL ?_ | refine SB fun _ _ => ?_ | refine Y4 (Ev.call (f := 44) (ck rfl) rfl (fun w _ => in5_any _ _ _ w)) ?_) | (refine M1 ?_; first | refine SC ?_ | refine SD ?_) | (refine M2 ?_; refine SE ?_) | (refine M3 ?_; first | refine SG ?_ | refine SF ?_ | refine YF (Ev.call (f := 44) (ck rfl) rfl (fun w _ => in5_any _ _ _ w)) ?_) | (refine M4 ?_; refine SR ?_) | (refine M5 ?_; first | exact M7 | refine YM ?_ | refine YN ?_ ?_))
    rw [x1]
    repeat (first | (refine M0 ?_; first | refine SL ?_ | refine SB fun _ _ => ?_ | refine Y4 (Ev.load_old tok rfl rfl (add_lt2 hlt1) dlev) ?_ | refine Y4 (Ev.call (f := 44) (ck rfl) rfl (fun w _ => in5_any _ _ _ w)) ?_) | (refine M1 ?_; first | refine SC ?_ | refine SD ?_) | (refine M2 ?_; refine SE ?_) | (refine M3 ?_; first | refine SG ?_ | refine SF ?_ | refine YF (Ev.load_old tok rfl rfl (add_lt2 hlt1) dlev) ?_ | refine YF (Ev.call (f := 44) (ck rfl) rfl (fun w _ => in5_any _ _ _ w)) ?_) | (refine M4 ?_; refine SR ?_) | (refine M5 ?_; first | exact M7 | refine YM ?_ | refine YN ?_ ?_))
    rw [x2]
    repeat (first | (refine M0 ?_; first | refine SL ?_ | refine SB fun _ _ => ?_ | refine Y4 (Ev.call (f := 44) (ck rfl) rfl (fun w _ => in5_any _ _ _ w)) ?_) | (refine M1 ?_; first | refine SC ?_ | refine SD ?_) | (refine M2 ?_; refine SE ?_) | (refine M3 ?_; first | refine SG ?_ | refine SF ?_ | refine YF (Ev.call (f := 44) (ck rfl) rfl (fun w _ => in5_any _ _ _ w)) ?_) | (refine M4 ?_; refine SR ?_) | (refine M5 ?_; first | exact M7 | refine YM ?_ | refine YN ?_ ?_))
    exact XE.leaf () (Sub.cons (by rw [hb0, x1, x2]; rfl) ZZSUB) (fun _ h => h) trivial
  dsimp only [List.cons_append, List.nil_append]
  repeat (first | (refine M0 ?_; first | refine SL ?_ | refine SB fun _ _ => ?_) | (refine M1 ?_; refine SC ?_) | (refine M2 ?_; refine SE ?_))
  refine XC.loopk [1] rfl (fun j : Nat => [(11, .bool (b0 && (List.range j).all fun i => !outB (at0 t.fil i) 0 (t.b.pol i).room)), (12, .int .i64 (j : Nat))]) (fun _ => [(g1, cel 29 (ctkC ⟨⟨some a1, t.b.rows.length, c1, A2, t.b.pols.length, c2⟩, ⟨Af, t.fil.length, cf⟩, ⟨some ad, t.m, ch⟩, ⟨Ar, t.river.length, cr⟩⟩ t))]) (fun _ => w) (fun j => j ≤ t.fil.length) (fun j => t.fil.length - j) 0 (Nat.zero_le _) (Sub.cons (by show some _ = some _; simp) ZZSUB) (fun _ h => h) ?_
  intro j hj
  simp only [ctkC]
  dsimp only [List.cons_append, List.nil_append]
  repeat (first | (refine M0 ?_; first | refine SL ?_ | refine SB fun _ _ => ?_) | (refine M1 ?_; refine SC ?_) | (refine M2 ?_; refine SE ?_))
  refine XC.cond _ rfl (fun h2 => ?_) (fun h2 => ?_)
  rotate_left
  · have hjn : j = t.fil.length := by have := of_decide_eq_false h2; omega
    subst hjn
    rw [filB_all]
    cases b0 with
    | false =>
      repeat (first | (refine M0 ?_; first | refine SL ?_ | refine SB fun _ _ => ?_) | (refine M1 ?_; refine SC ?_) | (refine M2 ?_; refine SE ?_))
      refine XE.retg tok Try.results12 rfl (by simp only [and_self, and_true]) (fun w' S => ?_)
      refine ⟨chkCV_of (chkC_7 pB hr ha hfl ?_), S.toBelow⟩
      cases hx : (outB t.out 0 10000000 || (outB t.limit (t.b.row 0).level 20000 || outB t.delay 0 30)) with
      | true => rfl
      | false => rw [hx] at hb0; cases hb0
    | true =>
      have h7 : (outB t.out 0 10000000 || (outB t.limit (t.b.row 0).level 20000 || outB t.delay 0 30)) = false := by
        cases hx : (outB t.out 0 10000000 || (outB t.limit (t.b.row 0).level 20000 || outB t.delay 0 30)) with
        | false => rfl
        | true => rw [hx] at hb0; cases hb0
      cases hfb : filBad t
      · repeat (first | (refine M0 ?_; first | refine SL ?_ | refine SB fun _ _ => ?_) | (refine M1 ?_; refine SC ?_) | (refine M2 ?_; refine SE ?_))
        refine XE.retg tok Try.results12 rfl (by simp only [and_self, and_true]) (fun w' S => ?_)
        exact ⟨chkCV_of (chkC_9 pB hr ha hfl h7 hfb), S.toBelow⟩
      · repeat (first | (refine M0 ?_; first | refine SL ?_ | refine SB fun _ _ => ?_) | (refine M1 ?_; refine SC ?_) | (refine M2 ?_; refine SE ?_))
        refine XE.retg tok Try.results12 rfl (by simp only [and_self, and_true]) (fun w' S => ?_)
        exact ⟨chkCV_of (chkC_8 pB hr ha hfl h7 hfb), S.toBelow⟩
  have hjn : j < t.fil.length := by have := of_decide_eq_true h2; omega
  obtain ⟨af, rfl, hltf, hcf⟩ := hfil.at_ (by omega)
  have df := hcf j hjn
  obtain ⟨ap, rfl, hltp⟩ := hbas.pols.addr (by simp only; omega)
  have droom : w.cell? ((ap.add (j * 4)).add 3) = some (.int .i64 (t.b.pol j).room) := hbas.pol (by omega) 3 _ rfl
  have htk := filB_take (t := t) (j := j)
  cases hb : (b0 && (List.range j).all fun i => !outB (at0 t.fil i) 0 (t.b.pol i).room) with
  | false =>
    have htk2 : (b0 && (List.range (j + 1)).all fun i => !outB (at0 t.fil i) 0 (t.b.pol i).room) = false := by rw [htk, ← Bool.and_assoc, hb]; rfl
    repeat (first | (refine M0 ?_; first | refine SL ?_ | refine SB fun _ _ => ?_) | (refine M1 ?_; first | refine SC ?_ | refine SD ?_) | (refine M2 ?_; refine SE ?_) | (refine M3 ?_; first | refine SG ?_ | refine SF ?_) | (refine M4 ?_; refine SR ?_) | (refine M5 ?_; first | exact M7 | refine YM ?_ | refine YN ?_ ?_))
    exact XE.round (s := j) (j + 1) (by omega) (by omega) (Sub.cons (by simp only [htk2]; rfl) ZZSUB) (fun _ h => h)
  | true =>
    have htk2 : (b0 && (List.range (j + 1)).all fun i => !outB (at0 t.fil i) 0 (t.b.pol i).room) = !outB (at0 t.fil j) 0 (t.b.pol j).room := by rw [htk, ← Bool.and_assoc, hb]; rfl
    repeat (first | (refine M0 ?_; first | refine SL ?_ | refine SB fun _ _ => ?_ | refine Y4 (Ev.load_old tok rfl rfl (add_lt hltf) df) ?_ | refine Y4 (Ev.load_old tok rfl rfl (add_lt2 hltp) droom) ?_ | refine Y4 (Ev.call (f := 44) (ck rfl) rfl (fun w _ => in5_any _ _ _ w)) ?_) | (refine M1 ?_; first | refine SC ?_ | refine SD ?_) | (refine M2 ?_; refine SE ?_) | (refine M3 ?_; first | refine SG ?_ | refine SF ?_ | refine YF (Ev.load_old tok rfl rfl (add_lt hltf) df) ?_ | refine YF (Ev.load_old tok rfl rfl (add_lt2 hltp) droom) ?_ | refine YF (Ev.call (f := 44) (ck rfl) rfl (fun w _ => in5_any _ _ _ w)) ?_) | (refine M4 ?_; refine SR ?_) | (refine M5 ?_; first | exact M7 | refine YM ?_ | refine YN ?_ ?_))
    exact XE.round (s := j) (j + 1) (by omega) (by omega) (Sub.cons (by simp only [htk2]; rfl) ZZSUB) (fun _ h => h)
theorem good5_any {v : CTV} {t : CTk} {w : World} (h : CtAt w w.heap.size v t) :
    Calls Try.prog 47 #[ctkV v t] w fun e w' => e = .returned (.int .i64 (ctE t)) ∧ Below w.heap.size w w' := by
  have hchk := fun {L : Lo} (w5 : World) (S5 : Sys w.heap.size w L w5) => refCheck5_any (h.sys S5)
  simp only [ctkV, ctkC, chkCV] at hchk ⊢
  refine enter Try.func47 rfl Try.ntmps47 rfl ?_; simp only [frame, Nat.zero_add, Nat.reduceAdd]
  repeat (first | (refine M0 ?_; first | refine SL ?_ | refine SB fun _ _ => ?_ | refine Y4 (Ev.call (f := 12) (ck rfl) rfl (fun w5 S5 => hchk w5 S5)) ?_) | (refine M1 ?_; refine SC ?_) | (refine M2 ?_; refine SE ?_))
  refine XE.retg tok Try.results47 rfl (by simp only [and_self, and_true]) (fun w' S => ?_)
  exact ⟨rfl, S.toBelow⟩
end Go.Proofs.Ytmpaiphakjogjaa.X
/-
  The law ClosureOpens.
-/
namespace Go.Proofs.Ytmpaiphakjogjaa.Bs
open Go Go.Proofs.Ytmpaiphakjogjaa.X
set_option linter.unusedVariables false
end Go.Proofs.Ytmpaiphakjogjaa.Bs
namespace Go.Proofs.Ytmpaiphakjogjaa.X
open Go Go.RowKit Go.Proofs.Ytmpaiphakjogjaa.Bs
set_option linter.unusedVariables false
end Go.Proofs.Ytmpaiphakjogjaa.X
/-
  The walks of the document's from, end, can, high, quiet, Quiet, plan and Plan; the law ClosureChecks.
-/
namespace Go.Proofs.Ytmpaiphakjogjaa.Bs
open Go Go.Proofs.Ytmpaiphakjogjaa.X
set_option linter.unusedVariables false
/-- the quiet tick as it stands inside a round of the ticks: i ticks and k histories of the next seen. -/
def CTk.qIn (t : CTk) (i k : Nat) : Int := if (List.range k).any (fun j => decide (t.limit < t.v j i)) = true then (i : Int) + 1 else t.qTo i
theorem qIn_t {t : CTk} {i k : Nat} (h : t.limit < t.v k i) : t.qIn i (k + 1) = (i : Int) + 1 := by
  unfold CTk.qIn
  rw [List.range_succ, List.any_append, if_pos (by simp [h])]
theorem qIn_f {t : CTk} {i k : Nat} (h : ¬t.limit < t.v k i) : t.qIn i (k + 1) = t.qIn i k := by
  unfold CTk.qIn
  rw [List.range_succ, List.any_append]
  simp [h]
theorem qIn_m {t : CTk} {i : Nat} : t.qIn i t.m = t.qTo (i + 1) := by
  unfold CTk.qIn
  show (if t.highAt i = true then _ else _) = ((if t.highAt i = true then i + 1 else t.qTo i : Nat) : Int)
  split <;> simp
theorem qIn_b {t : CTk} {i k : Nat} : 0 ≤ t.qIn i k ∧ t.qIn i k ≤ i + 1 := by
  have := (qTo_spec t i).1
  unfold CTk.qIn
  split <;> omega
theorem plan_at {t : CTk} {i : Int} : (⟨i, max (t.from_ + (t.q : Int)) (i + t.delay + 1)⟩ : CPl) = t.plan (i - t.from_) := by
  unfold CTk.plan
  congr 1 <;> omega
theorem can_at {t : CTk} : t.from_ + (t.n : Int) - 1 - t.delay = t.from_ + t.last := by unfold CTk.last; omega
end Go.Proofs.Ytmpaiphakjogjaa.Bs
namespace Go.Proofs.Ytmpaiphakjogjaa.X
open Go Go.RowKit Go.Proofs.Ytmpaiphakjogjaa.Bs
set_option linter.unusedVariables false
section
variable {v : CTV} {t : CTk} {w : World}
theorem from5_any (hT : CtAt w w.heap.size v t) (ho : CtOk t) :
    Calls Try.prog 82 #[ctkV v t] w fun e w' => e = .returned (.int .i64 t.from_) ∧ Below w.heap.size w w' := by
  obtain ⟨ad, q, e1, hlt, hc, hq⟩ := hT.hisAt (k := 0) (by have := ho.m1; omega)
  have hhn := hT.hn
  have hm := ho.m1
  obtain ⟨vp, vf, ⟨Ah, nh, ch⟩, vr⟩ := v
  simp only at hhn e1
  subst hhn e1
  have c0 := hc 0 _ rfl
  simp only [ctkV, ctkC]
  refine enter Try.func82 rfl Try.ntmps82 rfl ?_; simp only [frame, Nat.zero_add, Nat.reduceAdd]
  repeat (first | (refine M0 ?_; first | refine SL ?_ | refine SB fun _ _ => ?_ | refine Y4 (Ev.load_old tok rfl rfl (add_lt2 hlt) c0) ?_) | (refine M1 ?_; refine SC ?_) | (refine M2 ?_; refine SE ?_))
  refine XE.retg tok Try.results82 rfl (by simp only [and_self, and_true]) (fun w' S => ?_)
  exact ⟨rfl, S.toBelow⟩
theorem end5_any (hT : CtAt w w.heap.size v t) (ho : CtOk t) :
    Calls Try.prog 83 #[ctkV v t] w fun e w' => e = .returned (.int .i64 (t.from_ + (t.n : Int))) ∧ Below w.heap.size w w' := by
  have hfr := fun {L : Lo} (w5 : World) (S5 : Sys w.heap.size w L w5) => from5_any (hT.sys S5) ho
  obtain ⟨ad, q, e1, hlt, hc, hq⟩ := hT.hisAt (k := 0) (by have := ho.m1; omega)
  have hhn := hT.hn
  have hm := ho.m1
  have h1 := ho.frm
  have h3 := ho.n60
  have hql := hq.len
  have hqm := hq.max
  obtain ⟨vp, vf, ⟨Ah, nh, ch⟩, vr⟩ := v
  obtain ⟨qA, qn, qc⟩ := q
  simp only at hhn e1 hql hqm
  subst hhn e1 hql
  have c0 := hc 1 _ rfl
  simp only [svV] at c0
  have en : (t.h 0).vals.length = t.n := rfl
  simp only [ctkV, ctkC] at hfr ⊢
  refine enter Try.func83 rfl Try.ntmps83 rfl ?_; simp only [frame, Nat.zero_add, Nat.reduceAdd]
  repeat (first | (refine M0 ?_; first | refine SL ?_ | refine SB fun _ _ => ?_ | refine Y4 (Ev.call (f := 82) (ck rfl) rfl (fun w5 S5 => hfr w5 S5)) ?_ | refine Y4 (Ev.load_old tok rfl rfl (add_lt2 hlt) c0) ?_) | (refine M1 ?_; first | refine SC ?_ | refine SD ?_) | (refine M2 ?_; refine SE ?_) | (refine M3 ?_; first | refine SG ?_ | refine SF ?_ | refine YF (Ev.call (f := 82) (ck rfl) rfl (fun w5 S5 => hfr w5 S5)) ?_ | refine YF (Ev.load_old tok rfl rfl (add_lt2 hlt) c0) ?_) | (refine M4 ?_; refine SR ?_) | (refine M5 ?_; first | exact M7 | refine YM ?_ | refine YN ?_ ?_))
  refine XE.retg tok Try.results83 rfl (by simp only [and_self, and_true]) (fun w' S => ?_)
  exact ⟨rfl, S.toBelow⟩
theorem can5_any {i : Int} (hT : CtAt w w.heap.size v t) (ho : CtOk t) :
    Calls Try.prog 51 #[ctkV v t, .int .i64 i] w fun e w' => e = .returned (.bool (!outB i t.from_ (t.from_ + t.last))) ∧ Below w.heap.size w w' := by
  have hfr := fun {L : Lo} (w5 : World) (S5 : Sys w.heap.size w L w5) => from5_any (hT.sys S5) ho
  have hen := fun {L : Lo} (w5 : World) (S5 : Sys w.heap.size w L w5) => end5_any (hT.sys S5) ho
  have h1 := ho.frm
  have h2 := ho.dly
  have h3 := ho.n60
  simp only [ctkV, ctkC] at hfr hen ⊢
  rw [← can_at]
  refine enter Try.func51 rfl Try.ntmps51 rfl ?_; simp only [frame, Nat.zero_add, Nat.reduceAdd]
  repeat (first | (refine M0 ?_; first | refine SL ?_ | refine SB fun _ _ => ?_ | refine Y4 (Ev.call (f := 82) (ck rfl) rfl (fun w5 S5 => hfr w5 S5)) ?_ | refine Y4 (Ev.call (f := 83) (ck rfl) rfl (fun w5 S5 => hen w5 S5)) ?_ | refine Y4 (Ev.call (f := 44) (ck rfl) rfl (fun w _ => in5_any _ _ _ w)) ?_) | (refine M1 ?_; first | refine SC ?_ | refine SD ?_) | (refine M2 ?_; refine SE ?_) | (refine M3 ?_; first | refine SG ?_ | refine SF ?_ | refine YF (Ev.call (f := 82) (ck rfl) rfl (fun w5 S5 => hfr w5 S5)) ?_ | refine YF (Ev.call (f := 83) (ck rfl) rfl (fun w5 S5 => hen w5 S5)) ?_ | refine YF (Ev.call (f := 44) (ck rfl) rfl (fun w _ => in5_any _ _ _ w)) ?_) | (refine M4 ?_; refine SR ?_) | (refine M5 ?_; first | exact M7 | refine YM ?_ | refine YN ?_ ?_))
  refine XE.retg tok Try.results51 rfl (by simp only [and_self, and_true]) (fun w' S => ?_)
  exact ⟨rfl, S.toBelow⟩
theorem high5_any {k i : Nat} {x : Int} (hT : CtAt w w.heap.size v t) (ho : CtOk t) (hk : k < t.m) (hi : i < t.n) (hx : x = t.from_ + (i : Int)) :
    Calls Try.prog 84 #[ctkV v t, .int .i64 (k : Nat), .int .i64 x] w fun e w' => e = .returned (.bool (decide (t.limit < t.v k i))) ∧ Below w.heap.size w w' := by
  subst hx
  have hfr := fun {L : Lo} (w5 : World) (S5 : Sys w.heap.size w L w5) => from5_any (hT.sys S5) ho
  obtain ⟨ad, q, e1, hlt, hc, hq⟩ := hT.hisAt (k := k) hk
  have hhn := hT.hn
  have hhm := hT.hmax
  have hm := ho.m8
  have h1 := ho.frm
  have h3 := ho.n60
  have hl := ho.len k hk
  have hql := hq.len
  have hqm := hq.max
  obtain ⟨aq, eq, hltq, hcq⟩ := hq.at_ (by omega)
  obtain ⟨vp, vf, ⟨Ah, nh, ch⟩, vr⟩ := v
  obtain ⟨qA, qn, qc⟩ := q
  simp only at hhn e1 hql eq hhm hqm
  subst hhn e1 hql eq
  have c0 := hc 1 _ rfl
  simp only [svV] at c0
  have e5 : (t.from_ + (i : Int) - t.from_).toNat = i := by omega
  have d0 : w.cell? (aq.add ((t.from_ + (i : Int) - t.from_).toNat * 1)) = some (.int .i64 (t.v k i)) := by rw [e5]; exact hcq i (by omega)
  simp only [ctkV, ctkC] at hfr ⊢
  refine enter Try.func84 rfl Try.ntmps84 rfl ?_; simp only [frame, Nat.zero_add, Nat.reduceAdd]
  repeat (first | (refine M0 ?_; first | refine SL ?_ | refine SB fun _ _ => ?_ | refine Y4 (Ev.call (f := 82) (ck rfl) rfl (fun w5 S5 => hfr w5 S5)) ?_ | refine Y4 (Ev.load_old tok rfl rfl (add_lt2 hlt) c0) ?_ | refine Y4 (Ev.load_old tok rfl rfl (add_lt hltq) d0) ?_) | (refine M1 ?_; first | refine SC ?_ | refine SD ?_) | (refine M2 ?_; refine SE ?_) | (refine M3 ?_; first | refine SG ?_ | refine SF ?_ | refine YF (Ev.call (f := 82) (ck rfl) rfl (fun w5 S5 => hfr w5 S5)) ?_ | refine YF (Ev.load_old tok rfl rfl (add_lt2 hlt) c0) ?_ | refine YF (Ev.load_old tok rfl rfl (add_lt hltq) d0) ?_) | (refine M4 ?_; refine SR ?_) | (refine M5 ?_; first | exact M7 | refine YM ?_ | refine YN ?_ ?_))
  refine XE.retg tok Try.results84 rfl (by simp only [and_self, and_true]) (fun w' S => ?_)
  exact ⟨rfl, S.toBelow⟩
set_option maxHeartbeats 8000000 in
theorem quiet5_any (hT : CtAt w w.heap.size v t) (ho : CtOk t) :
    Calls Try.prog 48 #[ctkV v t] w fun e w' => e = .returned (.int .i64 (t.from_ + (t.q : Int))) ∧ Below w.heap.size w w' := by
  have hfr := fun {L : Lo} (w5 : World) (S5 : Sys w.heap.size w L w5) => from5_any (hT.sys S5) ho
  have hen := fun {L : Lo} (w5 : World) (S5 : Sys w.heap.size w L w5) => end5_any (hT.sys S5) ho
  have hhi := fun (i k : Nat) (hi : i < t.n) (hk : k < t.m) {L : Lo} (w5 : World) (S5 : Sys w.heap.size w L w5) => high5_any (hT.sys S5) ho hk hi rfl
  have h1 := ho.frm
  have h3 := ho.n60
  have hm8 := ho.m8
  have hhn := hT.hn
  obtain ⟨vp, vf, ⟨Ah, nh, ch⟩, vr⟩ := v
  simp only at hhn
  subst hhn
  simp only [ctkV, ctkC] at hfr hen hhi ⊢
  refine enter Try.func48 rfl Try.ntmps48 rfl ?_; simp only [frame, Nat.zero_add, Nat.reduceAdd]
  repeat (first | (refine M0 ?_; first | refine SL ?_ | refine SB fun _ _ => ?_ | refine Y4 (Ev.call (f := 82) (ck rfl) rfl (fun w5 S5 => hfr w5 S5)) ?_) | (refine M1 ?_; refine SC ?_) | (refine M2 ?_; refine SE ?_))
  rename_i g1 hg1
  refine XC.loopk [1] rfl (fun i : Nat => [(3, .int .i64 (t.from_ + (t.qTo i : Int))), (4, .int .i64 (t.from_ + (i : Int)))]) (fun _ => [(g1, cel 29 (ctkC ⟨vp, vf, ⟨Ah, t.m, ch⟩, vr⟩ t))]) (fun _ => w) (fun i => i ≤ t.n) (fun i => t.n - i) 0 (Nat.zero_le _) (Sub.cons (by show some _ = some _; simp [CTk.qTo]) (Sub.cons (by show some _ = some _; simp) ZZSUB)) (fun _ h => h) ?_
  intro i hi
  simp only [ctkC]
  have hq := (qTo_spec t i).1
  dsimp only [List.cons_append, List.nil_append]
  repeat (first | (refine M0 ?_; first | refine SL ?_ | refine SB fun _ _ => ?_ | refine Y4 (Ev.call (f := 83) (ck rfl) rfl (fun w5 S5 => hen w5 S5)) ?_) | (refine M1 ?_; refine SC ?_) | (refine M2 ?_; refine SE ?_))
  refine XC.cond _ rfl (fun h2 => ?_) (fun h2 => ?_)
  rotate_left
  · have hin : i = t.n := by have := of_decide_eq_false h2; omega
    subst hin
    repeat (first | (refine M0 ?_; first | refine SL ?_ | refine SB fun _ _ => ?_) | (refine M1 ?_; refine SC ?_) | (refine M2 ?_; refine SE ?_))
    refine XE.retg tok Try.results48 rfl (by simp only [and_self, and_true]) (fun w' S => ?_)
    exact ⟨rfl, S.toBelow⟩
  have hin : i < t.n := by have := of_decide_eq_true h2; omega
  repeat (first | (refine M0 ?_; first | refine SL ?_ | refine SB fun _ _ => ?_) | (refine M1 ?_; refine SC ?_) | (refine M2 ?_; refine SE ?_))
  refine XC.loopk [1, 4] rfl (fun k : Nat => [(3, .int .i64 (t.from_ + t.qIn i k)), (5, .int .i64 (k : Nat))]) (fun _ => [(g1, cel 29 (ctkC ⟨vp, vf, ⟨Ah, t.m, ch⟩, vr⟩ t))]) (fun _ => w) (fun k => k ≤ t.m) (fun k => t.m - k) 0 (Nat.zero_le _) ZZSUB (fun _ h => h) ?_
  intro k hk
  simp only [ctkC]
  have hb := qIn_b (t := t) (i := i) (k := k)
  dsimp only [List.cons_append, List.nil_append]
  repeat (first | (refine M0 ?_; first | refine SL ?_ | refine SB fun _ _ => ?_) | (refine M1 ?_; refine SC ?_) | (refine M2 ?_; refine SE ?_))
  refine XC.cond _ rfl (fun h4 => ?_) (fun h4 => ?_)
  rotate_left
  · have hkm : k = t.m := by have := of_decide_eq_false h4; omega
    subst hkm
    rw [qIn_m]
    repeat (first | (refine M0 ?_; first | refine SL ?_ | refine SB fun _ _ => ?_) | (refine M1 ?_; refine SC ?_) | (refine M2 ?_; refine SE ?_))
    exact XE.round (s := i) (i + 1) (by omega) (by omega) (Sub.cons rfl (Sub.cons (by show some _ = some _; congr 2; omega) ZZSUB)) (fun _ h => h)
  have hkm : k < t.m := by have := of_decide_eq_true h4; omega
  repeat (first | (refine M0 ?_; first | refine SL ?_ | refine SB fun _ _ => ?_ | refine Y4 (Ev.call (f := 84) (ck rfl) rfl (fun w5 S5 => hhi i k hin hkm w5 S5)) ?_) | (refine M1 ?_; refine SC ?_) | (refine M2 ?_; refine SE ?_))
  refine XC.cond _ rfl (fun h5 => ?_) (fun h5 => ?_)
  · repeat (first | (refine M0 ?_; first | refine SL ?_ | refine SB fun _ _ => ?_) | (refine M1 ?_; refine SC ?_) | (refine M2 ?_; refine SE ?_))
    exact XE.round (s := k) (k + 1) (by omega) (by omega) (Sub.cons (by show some _ = some _; rw [qIn_t (of_decide_eq_true h5)]; congr 2; omega) ZZSUB) (fun _ h => h)
  · repeat (first | (refine M0 ?_; first | refine SL ?_ | refine SB fun _ _ => ?_) | (refine M1 ?_; refine SC ?_) | (refine M2 ?_; refine SE ?_))
    exact XE.round (s := k) (k + 1) (by omega) (by omega) (Sub.cons (by show some _ = some _; rw [qIn_f (of_decide_eq_false h5)]) ZZSUB) (fun _ h => h)
theorem refQuiet_any (hT : CtAt w w.heap.size v t) :
    Calls Try.prog 14 #[ctkV v t] w fun e w' => e = .returned (.tuple ⟨[.int .i64 t.quiN, .int .i64 (ctE t)]⟩) ∧ Below w.heap.size w w' := by
  have hgo := fun {L : Lo} (w5 : World) (S5 : Sys w.heap.size w L w5) => good5_any (hT.sys S5)
  have hqu := fun (ho : CtOk t) {L : Lo} (w5 : World) (S5 : Sys w.heap.size w L w5) => quiet5_any (hT.sys S5) ho
  simp only [ctkV, ctkC] at hgo hqu ⊢
  refine enter Try.func14 rfl Try.ntmps14 rfl ?_; simp only [frame, Nat.zero_add, Nat.reduceAdd]
  repeat (first | (refine M0 ?_; first | refine SL ?_ | refine SB fun _ _ => ?_ | refine Y4 (Ev.call (f := 47) (ck rfl) rfl (fun w5 S5 => hgo w5 S5)) ?_) | (refine M1 ?_; refine SC ?_) | (refine M2 ?_; refine SE ?_))
  by_cases hc : ctE t = 0
  rotate_left
  · rw [show decide (ctE t ≠ 0) = true from decide_eq_true hc]
    repeat (first | (refine M0 ?_; first | refine SL ?_ | refine SB fun _ _ => ?_) | (refine M1 ?_; refine SC ?_) | (refine M2 ?_; refine SE ?_))
    refine XE.retg tok Try.results14 rfl (by simp only [and_self, and_true]) (fun w' S => ?_)
    exact ⟨by unfold CTk.quiN; rw [if_pos hc]; rfl, S.toBelow⟩
  rw [show decide (ctE t ≠ 0) = false from decide_eq_false (fun h => h hc)]
  have ho := ctOk_of hc
  repeat (first | (refine M0 ?_; first | refine SL ?_ | refine SB fun _ _ => ?_ | refine Y4 (Ev.call (f := 48) (ck rfl) rfl (fun w5 S5 => hqu ho w5 S5)) ?_) | (refine M1 ?_; refine SC ?_) | (refine M2 ?_; refine SE ?_))
  refine XE.retg tok Try.results14 rfl (by simp only [and_self, and_true]) (fun w' S => ?_)
  exact ⟨by unfold CTk.quiN; rw [if_neg (by simp [hc]), hc]; rfl, S.toBelow⟩
theorem refplan_any {i : Int} (hT : CtAt w w.heap.size v t) (ho : CtOk t) (hi : 0 ≤ i ∧ i ≤ 300000) :
    Calls Try.prog 52 #[ctkV v t, .int .i64 i] w fun e w' => e = .returned (plnV (t.plan (i - t.from_))) ∧ Below w.heap.size w w' := by
  have hqu := fun {L : Lo} (w5 : World) (S5 : Sys w.heap.size w L w5) => quiet5_any (hT.sys S5) ho
  have h2 := ho.dly
  simp only [ctkV, ctkC] at hqu ⊢
  rw [← plan_at]
  simp only [plnV]
  refine enter Try.func52 rfl Try.ntmps52 rfl ?_; simp only [frame, Nat.zero_add, Nat.reduceAdd]
  repeat (first | (refine M0 ?_; first | refine SL ?_ | refine SB fun _ _ => ?_ | refine Y4 (Ev.call (f := 48) (ck rfl) rfl (fun w5 S5 => hqu w5 S5)) ?_) | (refine M1 ?_; first | refine SC ?_ | refine SD ?_) | (refine M2 ?_; refine SE ?_) | (refine M3 ?_; first | refine SG ?_ | refine SF ?_ | refine YF (Ev.call (f := 48) (ck rfl) rfl (fun w5 S5 => hqu w5 S5)) ?_) | (refine M4 ?_; refine SR ?_) | (refine M5 ?_; first | exact M7 | refine YM ?_ | refine YN ?_ ?_))
  refine XE.retg tok Try.results52 rfl (by simp only [and_self, and_true]) (fun w' S => ?_)
  exact ⟨rfl, S.toBelow⟩
theorem refPlan_any {i : Int} (hT : CtAt w w.heap.size v t) :
    Calls Try.prog 16 #[ctkV v t, .int .i64 i] w fun e w' => e = .returned (.tuple ⟨[plnV (t.plnP i), .int .i64 (t.plnE i)]⟩) ∧ Below w.heap.size w w' := by
  have hgo := fun {L : Lo} (w5 : World) (S5 : Sys w.heap.size w L w5) => good5_any (hT.sys S5)
  have hca := fun (ho : CtOk t) {L : Lo} (w5 : World) (S5 : Sys w.heap.size w L w5) => can5_any (i := i) (hT.sys S5) ho
  have hpl := fun (ho : CtOk t) (hi : 0 ≤ i ∧ i ≤ 300000) {L : Lo} (w5 : World) (S5 : Sys w.heap.size w L w5) => refplan_any (hT.sys S5) ho hi
  simp only [ctkV, ctkC, plnV] at hgo hca hpl ⊢
  refine enter Try.func16 rfl Try.ntmps16 rfl ?_; simp only [frame, Nat.zero_add, Nat.reduceAdd]
  repeat (first | (refine M0 ?_; first | refine SL ?_ | refine SB fun _ _ => ?_ | refine Y4 (Ev.call (f := 47) (ck rfl) rfl (fun w5 S5 => hgo w5 S5)) ?_) | (refine M1 ?_; refine SC ?_) | (refine M2 ?_; refine SE ?_))
  by_cases hc : ctE t = 0
  rotate_left
  · rw [show decide (ctE t = 0) = false from decide_eq_false hc]
    repeat (first | (refine M0 ?_; first | refine SL ?_ | refine SB fun _ _ => ?_) | (refine M1 ?_; refine SC ?_) | (refine M2 ?_; refine SE ?_))
    rw [show decide (ctE t ≠ 0) = true from decide_eq_true hc]
    repeat (first | (refine M0 ?_; first | refine SL ?_ | refine SB fun _ _ => ?_) | (refine M1 ?_; refine SC ?_) | (refine M2 ?_; refine SE ?_))
    refine XE.retg tok Try.results16 rfl (by simp only [and_self, and_true]) (fun w' S => ?_)
    have e1 : t.plnE i = ctE t := by unfold CTk.plnE; rw [if_pos hc]
    exact ⟨by unfold CTk.plnP; rw [e1, if_pos hc]; rfl, S.toBelow⟩
  rw [show decide (ctE t = 0) = true from decide_eq_true hc]
  have ho := ctOk_of hc
  have h1 := ho.frm
  have h3 := ho.n60
  have hd := ho.dly
  have hl1 : -31 ≤ t.last ∧ t.last ≤ 60 := by unfold CTk.last; omega
  repeat (first | (refine M0 ?_; first | refine SL ?_ | refine SB fun _ _ => ?_ | refine Y4 (Ev.call (f := 51) (ck rfl) rfl (fun w5 S5 => hca ho w5 S5)) ?_) | (refine M1 ?_; refine SC ?_) | (refine M2 ?_; refine SE ?_))
  cases ho1 : outB i t.from_ (t.from_ + t.last)
  rotate_left
  · repeat (first | (refine M0 ?_; first | refine SL ?_ | refine SB fun _ _ => ?_) | (refine M1 ?_; refine SC ?_) | (refine M2 ?_; refine SE ?_))
    refine XE.retg tok Try.results16 rfl (by simp only [and_self, and_true]) (fun w' S => ?_)
    have e1 : t.plnE i = 7 := by unfold CTk.plnE; rw [if_neg (by simp [hc]), if_pos ho1]
    exact ⟨by unfold CTk.plnP; rw [e1, if_pos (by decide)]; rfl, S.toBelow⟩
  have hi := outB_f.1 ho1
  repeat (first | (refine M0 ?_; first | refine SL ?_ | refine SB fun _ _ => ?_) | (refine M1 ?_; refine SC ?_) | (refine M2 ?_; refine SE ?_))
  rw [show decide (ctE t ≠ 0) = false from decide_eq_false (fun h => h hc)]
  repeat (first | (refine M0 ?_; first | refine SL ?_ | refine SB fun _ _ => ?_ | refine Y4 (Ev.call (f := 52) (ck rfl) rfl (fun w5 S5 => hpl ho (by omega) w5 S5)) ?_) | (refine M1 ?_; refine SC ?_) | (refine M2 ?_; refine SE ?_))
  refine XE.retg tok Try.results16 rfl (by simp only [and_self, and_true]) (fun w' S => ?_)
  have e1 : t.plnE i = 0 := by unfold CTk.plnE; rw [if_neg (by simp [hc]), if_neg (by simp [ho1])]
  exact ⟨by unfold CTk.plnP; rw [e1, if_neg (by decide)]; rfl, S.toBelow⟩
set_option maxHeartbeats 8000000 in
theorem ClosureChecks_any {i : Int} (hT : CtAt w w.heap.size v t) :
    Calls Try.prog 3 #[ctkV v t, .int .i64 i] w fun e w' => e = .returned (.bool true) ∧ Below w.heap.size w w' := by
  have haw := fun {L : Lo} {W : World} (w5 : World) (S5 : Sys w.heap.size W L w5) => Awake5_any (w := w5)
  have a1 := fun {L : Lo} (w5 : World) (S5 : Sys w.heap.size w L w5) => ctCheck_any (hT.sys S5)
  have a2 := fun {L : Lo} (w5 : World) (S5 : Sys w.heap.size w L w5) => refCheck5_any (hT.sys S5)
  have a3 := fun {L : Lo} (w5 : World) (S5 : Sys w.heap.size w L w5) => Quiet_any (hT.sys S5)
  have a4 := fun {L : Lo} (w5 : World) (S5 : Sys w.heap.size w L w5) => refQuiet_any (hT.sys S5)
  have a5 := fun {L : Lo} (w5 : World) (S5 : Sys w.heap.size w L w5) => Plan_any (i := i) (hT.sys S5)
  have a6 := fun {L : Lo} (w5 : World) (S5 : Sys w.heap.size w L w5) => refPlan_any (i := i) (hT.sys S5)
  simp only [ctkV, ctkC, plnV, chkCV] at a1 a2 a3 a4 a5 a6 ⊢
  refine enter Try.func3 rfl Try.ntmps3 rfl ?_; simp only [frame, Nat.zero_add, Nat.reduceAdd]
  repeat (first | (refine M0 ?_; first | refine SL ?_ | refine SB fun _ _ => ?_ | refine Y4 (Ev.call (f := 11) (ck rfl) rfl (fun w5 S5 => a1 w5 S5)) ?_ | refine Y4 (Ev.call (f := 12) (ck rfl) rfl (fun w5 S5 => a2 w5 S5)) ?_) | (refine M1 ?_; refine SC ?_) | (refine M2 ?_; refine SE ?_))
  rw [show decide ((chkC t).1 ≠ (chkC t).1) = false from decide_eq_false (fun h => h rfl)]
  repeat (first | (refine M0 ?_; first | refine SL ?_ | refine SB fun _ _ => ?_) | (refine M1 ?_; refine SC ?_) | (refine M2 ?_; refine SE ?_))
  rw [show decide ((chkC t).2.1 ≠ (chkC t).2.1) = false from decide_eq_false (fun h => h rfl)]
  repeat (first | (refine M0 ?_; first | refine SL ?_ | refine SB fun _ _ => ?_) | (refine M1 ?_; refine SC ?_) | (refine M2 ?_; refine SE ?_))
  rw [show decide ((chkC t).2.2 ≠ (chkC t).2.2) = false from decide_eq_false (fun h => h rfl)]
  repeat (first | (refine M0 ?_; first | refine SL ?_ | refine SB fun _ _ => ?_ | refine Y4 (Ev.call (f := 13) (ck rfl) rfl (fun w5 S5 => a3 w5 S5)) ?_ | refine Y4 (Ev.call (f := 14) (ck rfl) rfl (fun w5 S5 => a4 w5 S5)) ?_) | (refine M1 ?_; refine SC ?_) | (refine M2 ?_; refine SE ?_))
  rw [show decide (t.quiN ≠ t.quiN) = false from decide_eq_false (fun h => h rfl)]
  repeat (first | (refine M0 ?_; first | refine SL ?_ | refine SB fun _ _ => ?_) | (refine M1 ?_; refine SC ?_) | (refine M2 ?_; refine SE ?_))
  rw [show decide (ctE t ≠ ctE t) = false from decide_eq_false (fun h => h rfl)]
  repeat (first | (refine M0 ?_; first | refine SL ?_ | refine SB fun _ _ => ?_ | refine Y4 (Ev.call (f := 15) (ck rfl) rfl (fun w5 S5 => a5 w5 S5)) ?_ | refine Y4 (Ev.call (f := 16) (ck rfl) rfl (fun w5 S5 => a6 w5 S5)) ?_) | (refine M1 ?_; refine SC ?_) | (refine M2 ?_; refine SE ?_))
  repeat (first | (refine M0 ?_; first | refine SL ?_ | refine SB fun _ _ => ?_ | refine Y4 (Ev.plnEql rfl rfl) ?_) | (refine M1 ?_; refine SC ?_) | (refine M2 ?_; refine SE ?_))
  rw [show (decide ((t.plnP i).close = (t.plnP i).close) && decide ((t.plnP i).open_ = (t.plnP i).open_)) = true from by rw [decide_eq_true rfl, decide_eq_true rfl]; rfl]
  repeat (first | (refine M0 ?_; first | refine SL ?_ | refine SB fun _ _ => ?_) | (refine M1 ?_; refine SC ?_) | (refine M2 ?_; refine SE ?_))
  rw [show decide (t.plnE i = t.plnE i) = true from decide_eq_true rfl]
  repeat (first | (refine M0 ?_; first | refine SL ?_ | refine SB fun _ _ => ?_ | refine Y4 (Ev.call (f := 17) (ck rfl) rfl (fun w5 S5 => haw w5 S5)) ?_) | (refine M1 ?_; refine SC ?_) | (refine M2 ?_; refine SE ?_))
  refine XE.retg tok Try.results3 rfl (by simp only [and_self, and_true]) (fun w' S => ?_)
  exact ⟨rfl, S.toBelow⟩
end
end Go.Proofs.Ytmpaiphakjogjaa.X
