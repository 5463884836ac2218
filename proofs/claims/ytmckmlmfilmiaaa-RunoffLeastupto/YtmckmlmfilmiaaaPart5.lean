/-
  The walks of the document's Check (runoff).
-/
import Derived.Test.YtmckmlmfilmiaaaPart4
import Derived.Test.YtmckmlmfilmiaaaPart2
import Derived.Test.YtmckmlmfilmiaaaPart3
set_option linter.unusedVariables false
set_option linter.unusedSimpArgs false
namespace Go.Proofs.Ytmckmlmfilmiaaa.X
open Go Go.RowKit Go.Proofs.Ytmckmlmfilmiaaa.Bs
set_option linter.unusedVariables false
theorem in7_any (n lo hi : Int) (w : World) :
    Calls Try.prog 63 #[.int .i64 n, .int .i64 lo, .int .i64 hi] w fun e w' => e = .returned (.bool (!outB n lo hi)) ∧ Below w.heap.size w w' := by
  refine enter Try.func63 rfl Try.ntmps63 rfl ?_; simp only [frame, Nat.zero_add, Nat.reduceAdd]
  repeat (first | (refine M0 ?_; first | refine SL ?_ | refine SB fun _ _ => ?_) | (refine M1 ?_; first | refine SC ?_ | refine SD ?_) | (refine M2 ?_; refine SE ?_) | (refine M3 ?_; first | refine SG ?_ | refine SF ?_) | (refine M4 ?_; refine SR ?_) | (refine M5 ?_; first | exact M7 | refine YM ?_ | refine YN ?_ ?_))
  refine XL.split _ _ rfl (fun h => ?_) (fun h => ?_) <;> rw [h]
  · repeat (first | (refine M0 ?_; first | refine SL ?_ | refine SB fun _ _ => ?_) | (refine M1 ?_; first | refine SC ?_ | refine SD ?_) | (refine M2 ?_; refine SE ?_) | (refine M3 ?_; first | refine SG ?_ | refine SF ?_) | (refine M4 ?_; refine SR ?_) | (refine M5 ?_; first | exact M7 | refine YM ?_ | refine YN ?_ ?_))
    refine XE.retg tok Try.results63 rfl (by simp only [and_self, and_true]) (fun w' S => ?_)
    refine ⟨?_, S.toBelow⟩
    have h1 := of_decide_eq_true h
    have : (!outB n lo hi) = decide (n ≤ hi) := by
      unfold outB
      rw [decide_eq_false (by omega : ¬ n < lo), Bool.false_or]
      by_cases h2 : n ≤ hi
      · rw [decide_eq_true h2, decide_eq_false (by omega : ¬ hi < n)]; rfl
      · rw [decide_eq_false h2, decide_eq_true (by omega : hi < n)]; rfl
    rw [this]; rfl
  · repeat (first | (refine M0 ?_; first | refine SL ?_ | refine SB fun _ _ => ?_) | (refine M1 ?_; first | refine SC ?_ | refine SD ?_) | (refine M2 ?_; refine SE ?_) | (refine M3 ?_; first | refine SG ?_ | refine SF ?_) | (refine M4 ?_; refine SR ?_) | (refine M5 ?_; first | exact M7 | refine YM ?_ | refine YN ?_ ?_))
    refine XE.retg tok Try.results63 rfl (by simp only [and_self, and_true]) (fun w' S => ?_)
    refine ⟨?_, S.toBelow⟩
    have h1 := of_decide_eq_false h
    have : (!outB n lo hi) = false := by
      unfold outB
      rw [decide_eq_true (by omega : n < lo)]; rfl
    rw [this]; rfl
theorem inP {n lo hi : Int} {b : Bool} (e : outB n lo hi = b) (w : World) :
    Calls Try.prog 63 #[.int .i64 n, .int .i64 lo, .int .i64 hi] w fun e w' => e = .returned (.bool (!b)) ∧ Below w.heap.size w w' := by
  subst e; exact in7_any n lo hi w
theorem many_any {v : RTV} {t : RTk} {w : World} (h1 : v.su.n = t.slu.length) (h2 : v.pu.n = t.pmp.length) (hn : t.slu.length + t.pmp.length ≤ 5000000) :
    Calls Try.prog 60 #[tskV v t] w fun e w' => e = .returned (.int .i64 (t.many : Nat)) ∧ Below w.heap.size w w' := by
  obtain ⟨p, q, o, r, c, ⟨As, ns, cs⟩, ⟨Ap, np, cp⟩, on⟩ := v
  simp only at h1 h2
  subst h1 h2
  simp only [tskV, tskC]
  refine enter Try.func60 rfl Try.ntmps60 rfl ?_; simp only [frame, Nat.zero_add, Nat.reduceAdd]
  repeat (first | (refine M0 ?_; first | refine SL ?_ | refine SB fun _ _ => ?_) | (refine M1 ?_; first | refine SC ?_ | refine SD ?_) | (refine M2 ?_; refine SE ?_) | (refine M3 ?_; first | refine SG ?_ | refine SF ?_) | (refine M4 ?_; refine SR ?_) | (refine M5 ?_; first | exact M7 | refine YM ?_ | refine YN ?_ ?_))
  refine XE.retg tok Try.results60 rfl (by simp only [and_self, and_true]) (fun w' S => ?_)
  exact ⟨by unfold RTk.many; rw [Int.natCast_add]; rfl, S.toBelow⟩
def strK : Kind ByteArray := ⟨9, 1, fun s => [.string s], fun _ => [], fun _ => rfl⟩
theorem str_el : elemOk Try.prog 198 strK.ty strK.m 16 = true := by kernel_rfl
theorem take_map_succ' {α β : Type} (f : α → β) {l : List α} {k : Nat} (h : k < l.length) : (l.take (k + 1)).map f = (l.take k).map f ++ [f l[k]] := by
  rw [List.take_add_one, List.getElem?_eq_getElem h, List.map_append]; rfl
theorem devs_slu {t : RTk} {k : Nat} (h : k < t.slu.length) : t.devs[k]? = some (.slu t.slu[k]) := by
  unfold RTk.devs
  rw [List.getElem?_append_left (by simpa using h), List.getElem?_map, List.getElem?_eq_getElem h]; rfl
theorem devs_pmp {t : RTk} {k : Nat} (h : k < t.pmp.length) : t.devs[t.slu.length + k]? = some (.pmp t.pmp[k]) := by
  unfold RTk.devs
  rw [List.getElem?_append_right (by simp), List.length_map, Nat.add_sub_cancel_left, List.getElem?_map, List.getElem?_eq_getElem h]; rfl
def RTk.names (t : RTk) : List ByteArray := t.devs.map Dev.name
theorem RTk.names_eq (t : RTk) : RTk.names t = t.slu.map Slu.name ++ t.pmp.map Pmp.name := by
  unfold RTk.names RTk.devs
  rw [List.map_append, List.map_map, List.map_map]; rfl
set_option maxHeartbeats 16000000 in
theorem refDev_any {v : RTV} {t : RTk} {i : Nat} {w : World} (ht : TskAt w w.heap.size v t) (hn : t.slu.length + t.pmp.length ≤ 5000000) (hi : i < t.devs.length) :
    Calls Try.prog 102 #[tskV v t, .int .i64 (i : Nat)] w fun e w' => e = .returned (.int .i64 (devErr t.devs i)) ∧ Below w.heap.size w w' := by
  obtain ⟨p, q, o, r, c, ⟨As, ns, cs⟩, ⟨Ap, np, cp⟩, on⟩ := v
  have hls := ht.slu.len (by decide)
  have hlp := ht.pmp.len (by decide)
  simp only at hls hlp
  subst hls hlp
  have hsl := ht.slu
  have hpl := ht.pmp
  simp only at hsl hpl
  have hm : t.devs.length = t.slu.length + t.pmp.length := t.devs_len
  simp only [tskV, tskC]
  refine enter Try.func102 rfl Try.ntmps102 rfl ?_; simp only [frame, Nat.zero_add, Nat.reduceAdd]
  repeat (first | (refine M0 ?_; first | refine SL ?_ | refine SB fun _ _ => ?_) | (refine M1 ?_; first | refine SC ?_ | refine SD ?_) | (refine M2 ?_; refine SE ?_) | (refine M3 ?_; first | refine SG ?_ | refine SF ?_) | (refine M4 ?_; refine SR ?_) | (refine M5 ?_; first | exact M7 | refine YM ?_ | refine YN ?_ ?_))
  rename_i g2 hg2
  refine XC.rebase (List.Sublist.refl _) (fun W0 S0 => ?_)
  have ha1 : ∀ (d : ByteArray) x, x ∈ strK.sl d → x ∈ ([] : List Held) := fun d x hx => hx
  refine XC.loopk [1, 2] rfl (fun s : Nat × World × Value => [(6, .int .i64 (s.1 : Nat)), (5, s.2.2)]) (fun s => [(g2, _)]) (fun s => s.2.1)
    (fun s => s.1 ≤ t.slu.length ∧ Fam s.2.1 w.heap.size [g2] [⟨ByteArray, strK, s.2.2, (t.slu.take s.1).map Slu.name⟩] [] ∧ Below w.heap.size w s.2.1 ∧ g2 < s.2.1.heap.size)
    (fun s => t.slu.length - s.1) (0, W0, .slice none 0 0) ⟨Nat.zero_le _, (Fam.start (ks := [g2]) S0.size).nil strK, S0.toBelow, S0.keyLt g2 (by simp)⟩ ZZSUB (fun _ h => h) ?_
  rintro ⟨k, W, v⟩ ⟨hk, hF, hBW, hgW⟩
  simp only at hk hF hBW hgW
  dsimp only [List.cons_append, List.nil_append]
  repeat (first | (refine M0 ?_; first | refine SL ?_ | refine SB fun _ _ => ?_) | (refine M1 ?_; first | refine SC ?_ | refine SD ?_) | (refine M2 ?_; refine SE ?_) | (refine M3 ?_; first | refine SG ?_ | refine SF ?_) | (refine M4 ?_; refine SR ?_) | (refine M5 ?_; first | exact M7 | refine YM ?_ | refine YN ?_ ?_))
  refine XC.cond _ rfl (fun h1 => ?_) (fun h1 => ?_)
  · have hkn : k < t.slu.length := by simpa using h1
    obtain ⟨ad, rfl, hlt⟩ := hsl.addr (by decide) (by omega)
    obtain ⟨x, hx⟩ : ∃ x, x = t.slu[k] := ⟨_, rfl⟩
    have hcell : W.cell? ((ad.add (k * 3)).add 0) = some (.string x.name) := by rw [hx]; exact (hsl.below hBW).elem (List.getElem?_eq_getElem hkn) 0 _ rfl
    have hks : ∀ j, j ∈ [g2] → j < W.heap.size := fun j hj => by rw [List.mem_singleton.1 hj]; exact hgW
    repeat (first | (refine M0 ?_; first | refine SL ?_ | refine SB fun _ _ => ?_ | refine Y4 (Ev.load_old tok rfl rfl (add_lt2 hlt) hcell) ?_ | refine XL.buildSlice tok rfl rfl rfl rfl rfl rfl rfl rfl rfl (fun _ _ => ?_)) | (refine M1 ?_; first | refine SC ?_ | refine SD ?_) | (refine M2 ?_; refine SE ?_) | (refine M3 ?_; first | refine SG ?_ | refine SF ?_ | refine YF (Ev.load_old tok rfl rfl (add_lt2 hlt) hcell) ?_) | (refine M4 ?_; refine SR ?_) | (refine M5 ?_; first | exact M7 | refine YM ?_ | refine YN ?_ ?_))
    refine XL.push (K := strK) (a := x.name) (wE := w) 0 str_el (by decide) rfl rfl rfl hF rfl hks hBW (Nat.le_refl _) rfl (by rw [List.length_map, List.length_take]; omega) (by decide) (ha1 _) (fun W1 u1 hF1 hB1 hk1 => ?_)
    repeat (first | (refine M0 ?_; first | refine SL ?_ | refine SB fun _ _ => ?_) | (refine M1 ?_; first | refine SC ?_ | refine SD ?_) | (refine M2 ?_; refine SE ?_) | (refine M3 ?_; first | refine SG ?_ | refine SF ?_) | (refine M4 ?_; refine SR ?_) | (refine M5 ?_; first | exact M7 | refine YM ?_ | refine YN ?_ ?_))
    refine XE.roundW (s := (k, W, v)) (fun w6 S6 => ⟨(k + 1, w6, u1), ⟨hkn, ?_, hB1.trans S6.toBelow, S6.keyLt g2 (by simp)⟩, by simp only; omega, ZZSUB, S6.rebase ZZSL⟩)
    simp only [take_map_succ' Slu.name hkn, ← hx]
    exact Fam.add (Fam.sys hF1 S6 ZZHL) ZZHK
  have hkn : k = t.slu.length := by have : ¬ (k < t.slu.length) := by simpa using h1
                                    omega
  subst hkn
  rw [List.take_length] at hF
  repeat (first | (refine M0 ?_; first | refine SL ?_ | refine SB fun _ _ => ?_) | (refine M1 ?_; first | refine SC ?_ | refine SD ?_) | (refine M2 ?_; refine SE ?_) | (refine M3 ?_; first | refine SG ?_ | refine SF ?_) | (refine M4 ?_; refine SR ?_) | (refine M5 ?_; first | exact M7 | refine YM ?_ | refine YN ?_ ?_))
  refine XC.rebase (List.Sublist.refl _) (fun W2 S2 => ?_)
  refine XC.loopk [1, 2] rfl (fun s : Nat × World × Value => [(7, .int .i64 (s.1 : Nat)), (5, s.2.2)]) (fun s => [(g2, _)]) (fun s => s.2.1)
    (fun s => s.1 ≤ t.pmp.length ∧ Fam s.2.1 w.heap.size [g2] [⟨ByteArray, strK, s.2.2, t.slu.map Slu.name ++ (t.pmp.take s.1).map Pmp.name⟩] [] ∧ Below w.heap.size w s.2.1 ∧ g2 < s.2.1.heap.size)
    (fun s => t.pmp.length - s.1) (0, W2, v) ⟨Nat.zero_le _, by simpa using hF.sys S2 ZZHL, hBW.trans S2.toBelow, S2.keyLt g2 (by simp)⟩ ZZSUB (fun _ h => h) ?_
  clear hF hBW hgW h1 hk
  rintro ⟨k, W, v⟩ ⟨hk, hF, hBW, hgW⟩
  simp only at hk hF hBW hgW
  dsimp only [List.cons_append, List.nil_append]
  repeat (first | (refine M0 ?_; first | refine SL ?_ | refine SB fun _ _ => ?_) | (refine M1 ?_; first | refine SC ?_ | refine SD ?_) | (refine M2 ?_; refine SE ?_) | (refine M3 ?_; first | refine SG ?_ | refine SF ?_) | (refine M4 ?_; refine SR ?_) | (refine M5 ?_; first | exact M7 | refine YM ?_ | refine YN ?_ ?_))
  refine XC.cond _ rfl (fun h1 => ?_) (fun h1 => ?_)
  · have hkn : k < t.pmp.length := by simpa using h1
    obtain ⟨ad, rfl, hlt⟩ := hpl.addr (by decide) (by omega)
    obtain ⟨x, hx⟩ : ∃ x, x = t.pmp[k] := ⟨_, rfl⟩
    have hcell : W.cell? ((ad.add (k * 5)).add 0) = some (.string x.name) := by rw [hx]; exact (hpl.below hBW).elem (List.getElem?_eq_getElem hkn) 0 _ rfl
    have hks : ∀ j, j ∈ [g2] → j < W.heap.size := fun j hj => by rw [List.mem_singleton.1 hj]; exact hgW
    repeat (first | (refine M0 ?_; first | refine SL ?_ | refine SB fun _ _ => ?_ | refine Y4 (Ev.load_old tok rfl rfl (add_lt2 hlt) hcell) ?_ | refine XL.buildSlice tok rfl rfl rfl rfl rfl rfl rfl rfl rfl (fun _ _ => ?_)) | (refine M1 ?_; first | refine SC ?_ | refine SD ?_) | (refine M2 ?_; refine SE ?_) | (refine M3 ?_; first | refine SG ?_ | refine SF ?_ | refine YF (Ev.load_old tok rfl rfl (add_lt2 hlt) hcell) ?_) | (refine M4 ?_; refine SR ?_) | (refine M5 ?_; first | exact M7 | refine YM ?_ | refine YN ?_ ?_))
    refine XL.push (K := strK) (a := x.name) (wE := w) 0 str_el (by decide) rfl rfl rfl hF rfl hks hBW (Nat.le_refl _) rfl (by rw [List.length_append, List.length_map, List.length_map, List.length_take]; omega) (by decide) (ha1 _) (fun W1 u1 hF1 hB1 hk1 => ?_)
    repeat (first | (refine M0 ?_; first | refine SL ?_ | refine SB fun _ _ => ?_) | (refine M1 ?_; first | refine SC ?_ | refine SD ?_) | (refine M2 ?_; refine SE ?_) | (refine M3 ?_; first | refine SG ?_ | refine SF ?_) | (refine M4 ?_; refine SR ?_) | (refine M5 ?_; first | exact M7 | refine YM ?_ | refine YN ?_ ?_))
    refine XE.roundW (s := (k, W, v)) (fun w6 S6 => ⟨(k + 1, w6, u1), ⟨hkn, ?_, hB1.trans S6.toBelow, S6.keyLt g2 (by simp)⟩, by simp only; omega, ZZSUB, S6.rebase ZZSL⟩)
    simp only [take_map_succ' Pmp.name hkn, ← hx, ← List.append_assoc]
    exact Fam.add (Fam.sys hF1 S6 ZZHL) ZZHK
  have hkn : k = t.pmp.length := by have : ¬ (k < t.pmp.length) := by simpa using h1
                                    omega
  subst hkn
  rw [List.take_length, ← RTk.names_eq] at hF
  obtain ⟨⟨An, nn, cn⟩, rfl, hnn⟩ := hF.sv (.head _)
  have hnl : (RTk.names t).length = t.devs.length := by simp [RTk.names]
  simp only at hnn
  rw [hnl] at hnn
  subst hnn
  have hF2 := hF.freeze
  have hlF : ListAt strK W (Free W w.heap.size [g2] []) ⟨An, t.devs.length, cn⟩ (RTk.names t) := hF2.held _ (.head _)
  obtain ⟨an, rfl, hfn⟩ := ListAt.addr hlF (by decide) (by omega)
  have hget : ∀ j, (hj : j < t.devs.length) → (t.devs[j]?.getD d0).name = t.devs[j].name := fun j hj => by rw [List.getElem?_eq_getElem hj]; rfl
  have hnc : ∀ j, (hj : j < t.devs.length) → W.cell? (an.add (j * 1)) = some (.string t.devs[j].name) := fun j hj => by
    have h9 := ListAt.elem hlF (k := j) (a := t.devs[j].name) (by unfold RTk.names; rw [List.getElem?_map, List.getElem?_eq_getElem hj]; rfl) 0 _ rfl
    rw [add_add, Nat.add_zero] at h9
    exact h9
  have hci := hnc i hi
  obtain ⟨d, hd⟩ : ∃ d, d = t.devs[i] := ⟨_, rfl⟩
  have hgd : t.devs[i]?.getD d0 = d := by rw [List.getElem?_eq_getElem hi, hd]; rfl
  have hdn := ht.names t.devs[i] (List.getElem_mem hi)
  rw [← hd] at hci hdn
  simp only [svV]
  repeat (first | (refine M0 ?_; first | refine SL ?_ | refine SB fun _ _ => ?_ | refine Y4 (Ev.load_far tok rfl rfl (add_lt hfn.2.1) (Free.far hfn (by intro e he; left; rw [List.mem_singleton.1 he]; exact .head _)) hci) ?_ | refine Y4 (Ev.call (f := 117) (ck rfl) rfl (fun w _ => refName_any _ hdn w)) ?_) | (refine M1 ?_; first | refine SC ?_ | refine SD ?_) | (refine M2 ?_; refine SE ?_) | (refine M3 ?_; first | refine SG ?_ | refine SF ?_ | refine YF (Ev.load_far tok rfl rfl (add_lt hfn.2.1) (Free.far hfn (by intro e he; left; rw [List.mem_singleton.1 he]; exact .head _)) hci) ?_ | refine YF (Ev.call (f := 117) (ck rfl) rfl (fun w _ => refName_any _ hdn w)) ?_) | (refine M4 ?_; refine SR ?_) | (refine M5 ?_; first | exact M7 | refine YM ?_ | refine YN ?_ ?_))
  refine XC.cond _ rfl (fun h2 => ?_) (fun h2 => ?_)
  · repeat (first | (refine M0 ?_; first | refine SL ?_ | refine SB fun _ _ => ?_) | (refine M1 ?_; first | refine SC ?_ | refine SD ?_) | (refine M2 ?_; refine SE ?_) | (refine M3 ?_; first | refine SG ?_ | refine SF ?_) | (refine M4 ?_; refine SR ?_) | (refine M5 ?_; first | exact M7 | refine YM ?_ | refine YN ?_ ?_))
    refine XE.retg tok Try.results102 rfl (by simp only [and_self, and_true]) (fun w' S => ?_)
    exact ⟨by rw [devErr_6 (by rw [hgd]; simpa using h2)]; rfl, hBW.trans S.toBelow⟩
  have h3 : nameB d.name = true := by simpa using h2
  repeat (first | (refine M0 ?_; first | refine SL ?_ | refine SB fun _ _ => ?_) | (refine M1 ?_; first | refine SC ?_ | refine SD ?_) | (refine M2 ?_; refine SE ?_) | (refine M3 ?_; first | refine SG ?_ | refine SF ?_) | (refine M4 ?_; refine SR ?_) | (refine M5 ?_; first | exact M7 | refine YM ?_ | refine YN ?_ ?_))
  refine XC.loopk [1, 2, 5] rfl (fun k : Nat => [(8, .int .i64 (k : Nat))]) (fun _ => [(g2, _)]) (fun _ => W) (fun k => k ≤ i ∧ ∀ j, j < k → (t.devs[j]?.getD d0).name ≠ (t.devs[i]?.getD d0).name) (fun k => i - k) 0 ⟨Nat.zero_le _, fun j h => absurd h (by omega)⟩ ZZSUB (fun _ h => h) ?_
  rintro k ⟨hki, hno⟩
  dsimp only [List.cons_append, List.nil_append]
  repeat (first | (refine M0 ?_; first | refine SL ?_ | refine SB fun _ _ => ?_) | (refine M1 ?_; first | refine SC ?_ | refine SD ?_) | (refine M2 ?_; refine SE ?_) | (refine M3 ?_; first | refine SG ?_ | refine SF ?_) | (refine M4 ?_; refine SR ?_) | (refine M5 ?_; first | exact M7 | refine YM ?_ | refine YN ?_ ?_))
  refine XC.cond _ rfl (fun h4 => ?_) (fun h4 => ?_)
  · have hkn : k < i := by simpa using h4
    have hck := hnc k (by omega)
    have hgk := hget k (by omega)
    repeat (first | (refine M0 ?_; first | refine SL ?_ | refine SB fun _ _ => ?_ | refine Y4 (Ev.load_far tok rfl rfl (add_lt hfn.2.1) (Free.far hfn (by intro e he; left; rw [List.mem_singleton.1 he]; exact .head _)) hck) ?_ | refine Y4 (Ev.load_far tok rfl rfl (add_lt hfn.2.1) (Free.far hfn (by intro e he; left; rw [List.mem_singleton.1 he]; exact .head _)) hci) ?_ | refine Y4 (Ev.eql_str rfl rfl) ?_) | (refine M1 ?_; first | refine SC ?_ | refine SD ?_) | (refine M2 ?_; refine SE ?_) | (refine M3 ?_; first | refine SG ?_ | refine SF ?_ | refine YF (Ev.load_far tok rfl rfl (add_lt hfn.2.1) (Free.far hfn (by intro e he; left; rw [List.mem_singleton.1 he]; exact .head _)) hck) ?_ | refine YF (Ev.load_far tok rfl rfl (add_lt hfn.2.1) (Free.far hfn (by intro e he; left; rw [List.mem_singleton.1 he]; exact .head _)) hci) ?_ | refine YF (Ev.eql_str rfl rfl) ?_) | (refine M4 ?_; refine SR ?_) | (refine M5 ?_; first | exact M7 | refine YM ?_ | refine YN ?_ ?_))
    refine XC.cond _ rfl (fun h5 => ?_) (fun h5 => ?_)
    · repeat (first | (refine M0 ?_; first | refine SL ?_ | refine SB fun _ _ => ?_) | (refine M1 ?_; first | refine SC ?_ | refine SD ?_) | (refine M2 ?_; refine SE ?_) | (refine M3 ?_; first | refine SG ?_ | refine SF ?_) | (refine M4 ?_; refine SR ?_) | (refine M5 ?_; first | exact M7 | refine YM ?_ | refine YN ?_ ?_))
      refine XE.retg tok Try.results102 rfl (by simp only [and_self, and_true]) (fun w' S => ?_)
      exact ⟨by rw [devErr_5 (by rw [hgd]; exact h3) k hkn (by rw [hgk, hgd]; exact of_decide_eq_true h5)]; rfl, hBW.trans S.toBelow⟩
    · repeat (first | (refine M0 ?_; first | refine SL ?_ | refine SB fun _ _ => ?_) | (refine M1 ?_; first | refine SC ?_ | refine SD ?_) | (refine M2 ?_; refine SE ?_) | (refine M3 ?_; first | refine SG ?_ | refine SF ?_) | (refine M4 ?_; refine SR ?_) | (refine M5 ?_; first | exact M7 | refine YM ?_ | refine YN ?_ ?_))
      refine XE.round (k + 1) ⟨hkn, fun j hj => ?_⟩ (by omega) ZZSUB (fun _ h => h)
      by_cases e : j = k
      · subst e; rw [hgk, hgd]; exact of_decide_eq_false h5
      · exact hno j (by omega)
  have hkn : k = i := by have : ¬ (k < i) := by simpa using h4
                         omega
  subst hkn
  repeat (first | (refine M0 ?_; first | refine SL ?_ | refine SB fun _ _ => ?_) | (refine M1 ?_; first | refine SC ?_ | refine SD ?_) | (refine M2 ?_; refine SE ?_) | (refine M3 ?_; first | refine SG ?_ | refine SF ?_) | (refine M4 ?_; refine SR ?_) | (refine M5 ?_; first | exact M7 | refine YM ?_ | refine YN ?_ ?_))
  have e7 : d.wild = true → devErr t.devs k = 7 := fun h => devErr_7 (by rw [hgd]; exact h3) hno (by rw [hgd]; exact h)
  have e0 : d.wild = false → devErr t.devs k = 0 := fun h => devErr_0 (by rw [hgd]; exact h3) hno (by rw [hgd]; exact h)
  refine XC.cutln [] rfl (fun b : Bool => [(9, .bool b)]) (fun _ => []) (fun b => b = !d.wild) ?_ (fun b hb => ?_)
  rotate_left
  · subst hb
    dsimp only [List.cons_append, List.nil_append]
    cases hw : d.wild with
    | true =>
      repeat (first | (refine M0 ?_; first | refine SL ?_ | refine SB fun _ _ => ?_) | (refine M1 ?_; first | refine SC ?_ | refine SD ?_) | (refine M2 ?_; refine SE ?_) | (refine M3 ?_; first | refine SG ?_ | refine SF ?_) | (refine M4 ?_; refine SR ?_) | (refine M5 ?_; first | exact M7 | refine YM ?_ | refine YN ?_ ?_))
      refine XE.retg tok Try.results102 rfl (by simp only [and_self, and_true]) (fun w' S => ?_)
      exact ⟨by rw [e7 hw]; rfl, hBW.trans S.toBelow⟩
    | false =>
      repeat (first | (refine M0 ?_; first | refine SL ?_ | refine SB fun _ _ => ?_) | (refine M1 ?_; first | refine SC ?_ | refine SD ?_) | (refine M2 ?_; refine SE ?_) | (refine M3 ?_; first | refine SG ?_ | refine SF ?_) | (refine M4 ?_; refine SR ?_) | (refine M5 ?_; first | exact M7 | refine YM ?_ | refine YN ?_ ?_))
      refine XE.retg tok Try.results102 rfl (by simp only [and_self, and_true]) (fun w' S => ?_)
      exact ⟨by rw [e0 hw]; rfl, hBW.trans S.toBelow⟩
  refine XC.cond _ rfl (fun h6 => ?_) (fun h6 => ?_)
  · have hks : k < t.slu.length := by simpa using h6
    obtain ⟨ad, rfl, hlt⟩ := hsl.addr (by decide) (by omega)
    obtain ⟨x, hx⟩ : ∃ x, x = t.slu[k] := ⟨_, rfl⟩
    have hdx : d = .slu x := by
      have := devs_slu (t := t) hks
      rw [List.getElem?_eq_getElem hi] at this
      rw [hd, hx]; exact Option.some.inj this
    have hcell : ∀ j u, (sluC x)[j]? = some u → W.cell? ((ad.add (k * 3)).add j) = some u := by rw [hx]; exact (hsl.below hBW).elem (List.getElem?_eq_getElem hks)
    simp only [sluC] at hcell
    have hwd : d.wild = sluWild x := by rw [hdx]; rfl
    repeat (first | (refine M0 ?_; first | refine SL ?_ | refine SB fun _ _ => ?_ | refine Y4 (Ev.load_old_agg tok _ rfl rfl rfl (add_lt hlt) hcell) ?_) | (refine M1 ?_; first | refine SC ?_ | refine SD ?_) | (refine M2 ?_; refine SE ?_) | (refine M3 ?_; first | refine SG ?_ | refine SF ?_ | refine YF (Ev.load_old_agg tok _ rfl rfl rfl (add_lt hlt) hcell) ?_) | (refine M4 ?_; refine SR ?_) | (refine M5 ?_; first | exact M7 | refine YM ?_ | refine YN ?_ ?_))
    rename_i g10 hg10
    cases e1 : outB x.width 0 10000 with
    | true =>
      repeat (first | (refine M0 ?_; first | refine SL ?_ | refine SB fun _ _ => ?_ | refine Y4 (Ev.call (f := 63) (vs := [.int .i64 x.width, .int .i64 0, .int .i64 10000]) (ck rfl) rfl (fun w S => inP e1 w)) ?_) | (refine M1 ?_; first | refine SC ?_ | refine SD ?_) | (refine M2 ?_; refine SE ?_) | (refine M3 ?_; first | refine SG ?_ | refine SF ?_ | refine YF (Ev.call (f := 63) (vs := [.int .i64 x.width, .int .i64 0, .int .i64 10000]) (ck rfl) rfl (fun w S => inP e1 w)) ?_) | (refine M4 ?_; refine SR ?_) | (refine M5 ?_; first | exact M7 | refine YM ?_ | refine YN ?_ ?_))
      refine XE.leaf _ ZZSUB (fun _ S' => S'.pop hg10) ?_
      rw [hwd]; simp [sluWild, e1]
    | false =>
      repeat (first | (refine M0 ?_; first | refine SL ?_ | refine SB fun _ _ => ?_ | refine Y4 (Ev.call (f := 63) (vs := [.int .i64 x.width, .int .i64 0, .int .i64 10000]) (ck rfl) rfl (fun w S => inP e1 w)) ?_ | refine Y4 (Ev.call (f := 63) (vs := [.int .i64 x.move, .int .i64 0, .int .i64 100000]) (ck rfl) rfl (fun w S => in7_any _ _ _ w)) ?_) | (refine M1 ?_; first | refine SC ?_ | refine SD ?_) | (refine M2 ?_; refine SE ?_) | (refine M3 ?_; first | refine SG ?_ | refine SF ?_ | refine YF (Ev.call (f := 63) (vs := [.int .i64 x.width, .int .i64 0, .int .i64 10000]) (ck rfl) rfl (fun w S => inP e1 w)) ?_ | refine YF (Ev.call (f := 63) (vs := [.int .i64 x.move, .int .i64 0, .int .i64 100000]) (ck rfl) rfl (fun w S => in7_any _ _ _ w)) ?_) | (refine M4 ?_; refine SR ?_) | (refine M5 ?_; first | exact M7 | refine YM ?_ | refine YN ?_ ?_))
      refine XE.leaf _ ZZSUB (fun _ S' => S'.pop hg10) ?_
      rw [hwd]; simp [sluWild, e1]
  · have hks : ¬ k < t.slu.length := by simpa using h6
    obtain ⟨ad, rfl, hlt⟩ := hpl.addr (by decide) (by omega)
    have hkp : k - t.slu.length < t.pmp.length := by omega
    obtain ⟨x, hx⟩ : ∃ x, x = t.pmp[k - t.slu.length] := ⟨_, rfl⟩
    have hdx : d = .pmp x := by
      have := devs_pmp (t := t) hkp
      rw [show t.slu.length + (k - t.slu.length) = k by omega, List.getElem?_eq_getElem hi] at this
      rw [hd, hx]; exact Option.some.inj this
    have hcell : ∀ j u, (pmpC x)[j]? = some u → W.cell? ((ad.add (((k : Int) - t.slu.length).toNat * 5)).add j) = some u := by
      rw [hx, show ((k : Int) - t.slu.length).toNat = k - t.slu.length by omega]
      exact (hpl.below hBW).elem (List.getElem?_eq_getElem hkp)
    simp only [pmpC] at hcell
    have hwd : d.wild = pmpWild x := by rw [hdx]; rfl
    repeat (first | (refine M0 ?_; first | refine SL ?_ | refine SB fun _ _ => ?_ | refine Y4 (Ev.load_old_agg tok _ rfl rfl rfl (add_lt hlt) hcell) ?_) | (refine M1 ?_; first | refine SC ?_ | refine SD ?_) | (refine M2 ?_; refine SE ?_) | (refine M3 ?_; first | refine SG ?_ | refine SF ?_ | refine YF (Ev.load_old_agg tok _ rfl rfl rfl (add_lt hlt) hcell) ?_) | (refine M4 ?_; refine SR ?_) | (refine M5 ?_; first | exact M7 | refine YM ?_ | refine YN ?_ ?_))
    rename_i g11 hg11
    cases e1 : outB x.rate 0 10000000 with
    | true =>
      repeat (first | (refine M0 ?_; first | refine SL ?_ | refine SB fun _ _ => ?_ | refine Y4 (Ev.call (f := 63) (vs := [.int .i64 x.rate, .int .i64 0, .int .i64 10000000]) (ck rfl) rfl (fun w S => inP e1 w)) ?_) | (refine M1 ?_; first | refine SC ?_ | refine SD ?_) | (refine M2 ?_; refine SE ?_) | (refine M3 ?_; first | refine SG ?_ | refine SF ?_ | refine YF (Ev.call (f := 63) (vs := [.int .i64 x.rate, .int .i64 0, .int .i64 10000000]) (ck rfl) rfl (fun w S => inP e1 w)) ?_) | (refine M4 ?_; refine SR ?_) | (refine M5 ?_; first | exact M7 | refine YM ?_ | refine YN ?_ ?_))
      refine XE.leaf _ ZZSUB (fun _ S' => S'.pop hg11) ?_
      rw [hwd]; simp [pmpWild, e1]
    | false =>
    repeat (first | (refine M0 ?_; first | refine SL ?_ | refine SB fun _ _ => ?_ | refine Y4 (Ev.call (f := 63) (vs := [.int .i64 x.rate, .int .i64 0, .int .i64 10000000]) (ck rfl) rfl (fun w S => inP e1 w)) ?_) | (refine M1 ?_; first | refine SC ?_ | refine SD ?_) | (refine M2 ?_; refine SE ?_) | (refine M3 ?_; first | refine SG ?_ | refine SF ?_ | refine YF (Ev.call (f := 63) (vs := [.int .i64 x.rate, .int .i64 0, .int .i64 10000000]) (ck rfl) rfl (fun w S => inP e1 w)) ?_) | (refine M4 ?_; refine SR ?_) | (refine M5 ?_; first | exact M7 | refine YM ?_ | refine YN ?_ ?_))
    cases e2 : outB x.base 0 100000 with
    | true =>
      repeat (first | (refine M0 ?_; first | refine SL ?_ | refine SB fun _ _ => ?_ | refine Y4 (Ev.call (f := 63) (vs := [.int .i64 x.base, .int .i64 0, .int .i64 100000]) (ck rfl) rfl (fun w S => inP e2 w)) ?_) | (refine M1 ?_; first | refine SC ?_ | refine SD ?_) | (refine M2 ?_; refine SE ?_) | (refine M3 ?_; first | refine SG ?_ | refine SF ?_ | refine YF (Ev.call (f := 63) (vs := [.int .i64 x.base, .int .i64 0, .int .i64 100000]) (ck rfl) rfl (fun w S => inP e2 w)) ?_) | (refine M4 ?_; refine SR ?_) | (refine M5 ?_; first | exact M7 | refine YM ?_ | refine YN ?_ ?_))
      refine XE.leaf _ ZZSUB (fun _ S' => S'.pop hg11) ?_
      rw [hwd]; simp [pmpWild, e1, e2]
    | false =>
    repeat (first | (refine M0 ?_; first | refine SL ?_ | refine SB fun _ _ => ?_ | refine Y4 (Ev.call (f := 63) (vs := [.int .i64 x.base, .int .i64 0, .int .i64 100000]) (ck rfl) rfl (fun w S => inP e2 w)) ?_) | (refine M1 ?_; first | refine SC ?_ | refine SD ?_) | (refine M2 ?_; refine SE ?_) | (refine M3 ?_; first | refine SG ?_ | refine SF ?_ | refine YF (Ev.call (f := 63) (vs := [.int .i64 x.base, .int .i64 0, .int .i64 100000]) (ck rfl) rfl (fun w S => inP e2 w)) ?_) | (refine M4 ?_; refine SR ?_) | (refine M5 ?_; first | exact M7 | refine YM ?_ | refine YN ?_ ?_))
    cases e3 : outB x.lift 0 100000 with
    | true =>
      repeat (first | (refine M0 ?_; first | refine SL ?_ | refine SB fun _ _ => ?_ | refine Y4 (Ev.call (f := 63) (vs := [.int .i64 x.lift, .int .i64 0, .int .i64 100000]) (ck rfl) rfl (fun w S => inP e3 w)) ?_) | (refine M1 ?_; first | refine SC ?_ | refine SD ?_) | (refine M2 ?_; refine SE ?_) | (refine M3 ?_; first | refine SG ?_ | refine SF ?_ | refine YF (Ev.call (f := 63) (vs := [.int .i64 x.lift, .int .i64 0, .int .i64 100000]) (ck rfl) rfl (fun w S => inP e3 w)) ?_) | (refine M4 ?_; refine SR ?_) | (refine M5 ?_; first | exact M7 | refine YM ?_ | refine YN ?_ ?_))
      refine XE.leaf _ ZZSUB (fun _ S' => S'.pop hg11) ?_
      rw [hwd]; simp [pmpWild, e1, e2, e3]
    | false =>
      repeat (first | (refine M0 ?_; first | refine SL ?_ | refine SB fun _ _ => ?_ | refine Y4 (Ev.call (f := 63) (vs := [.int .i64 x.lift, .int .i64 0, .int .i64 100000]) (ck rfl) rfl (fun w S => inP e3 w)) ?_ | refine Y4 (Ev.call (f := 63) (vs := [.int .i64 x.start, .int .i64 0, .int .i64 100000]) (ck rfl) rfl (fun w S => in7_any _ _ _ w)) ?_) | (refine M1 ?_; first | refine SC ?_ | refine SD ?_) | (refine M2 ?_; refine SE ?_) | (refine M3 ?_; first | refine SG ?_ | refine SF ?_ | refine YF (Ev.call (f := 63) (vs := [.int .i64 x.lift, .int .i64 0, .int .i64 100000]) (ck rfl) rfl (fun w S => inP e3 w)) ?_ | refine YF (Ev.call (f := 63) (vs := [.int .i64 x.start, .int .i64 0, .int .i64 100000]) (ck rfl) rfl (fun w S => in7_any _ _ _ w)) ?_) | (refine M4 ?_; refine SR ?_) | (refine M5 ?_; first | exact M7 | refine YM ?_ | refine YN ?_ ?_))
      refine XE.leaf _ ZZSUB (fun _ S' => S'.pop hg11) ?_
      rw [hwd]; simp [pmpWild, e1, e2, e3]
set_option maxHeartbeats 16000000 in
theorem refCheck7_any {v : RTV} {t : RTk} {w : World} (ht : TskAt w w.heap.size v t) (hn : t.slu.length + t.pmp.length ≤ 5000000) :
    Calls Try.prog 72 #[tskV v t] w fun e w' => e = .returned (chkTV t) ∧ Below w.heap.size w w' := by
  obtain ⟨⟨Ab, nb, cb, Ab2, nb2, cb2⟩, q, ⟨Ao, no, co⟩, ⟨Ar, nr, cr⟩, ⟨Ac, nc, cc⟩, ⟨As, ns, cs⟩, ⟨Ap, np, cp⟩, ⟨An, nn, cn⟩⟩ := v
  have ht0 := ht
  obtain ⟨hbas, hfil, hout, hriv, hpri, hslu, hpmp, hon, hnam⟩ := ht
  have lo := hout.len
  have lr := hriv.len
  have lc := hpri.len
  have ln := hon.len (by decide)
  have lb := hbas.n_eq
  have lsu := hslu.len (by decide)
  have lpu := hpmp.len (by decide)
  simp only at lo lr lc ln lb lsu lpu hout hriv hpri hslu hpmp hon hbas
  subst lo lr lc ln lb lsu lpu
  have hV : tskV ⟨⟨Ab, t.b.rows.length, cb, Ab2, nb2, cb2⟩, q, ⟨Ao, t.outer.length, co⟩, ⟨Ar, t.river.length, cr⟩, ⟨Ac, t.prices.length, cc⟩, ⟨As, t.slu.length, cs⟩, ⟨Ap, t.pmp.length, cp⟩, ⟨An, t.on.length, cn⟩⟩ t = _ := rfl
  have hmany := fun (w : World) => many_any (v := ⟨⟨Ab, t.b.rows.length, cb, Ab2, nb2, cb2⟩, q, ⟨Ao, t.outer.length, co⟩, ⟨Ar, t.river.length, cr⟩, ⟨Ac, t.prices.length, cc⟩, ⟨As, t.slu.length, cs⟩, ⟨Ap, t.pmp.length, cp⟩, ⟨An, t.on.length, cn⟩⟩) (t := t) (w := w) rfl rfl hn
  have hm : t.devs.length = t.slu.length + t.pmp.length := t.devs_len
  have hmm : t.many = t.devs.length := t.devs_len.symm
  simp only [tskV, tskC] at hmany ⊢
  clear hV
  refine enter Try.func72 rfl Try.ntmps72 rfl ?_; simp only [frame, Nat.zero_add, Nat.reduceAdd]
  repeat (first | (refine M0 ?_; first | refine SL ?_ | refine SB fun _ _ => ?_ | refine Y4 (Ev.call (f := 101) (ck rfl) rfl (fun w S => (refCheck_any (p := ⟨Ab, t.b.rows.length, cb, Ab2, nb2, cb2⟩) (b := t.b) (hbas.sys S) :))) ?_) | (refine M1 ?_; first | refine SC ?_ | refine SD ?_) | (refine M2 ?_; refine SE ?_) | (refine M3 ?_; first | refine SG ?_ | refine SF ?_ | refine YF (Ev.call (f := 101) (ck rfl) rfl (fun w S => (refCheck_any (p := ⟨Ab, t.b.rows.length, cb, Ab2, nb2, cb2⟩) (b := t.b) (hbas.sys S) :))) ?_) | (refine M4 ?_; refine SR ?_) | (refine M5 ?_; first | exact M7 | refine YM ?_ | refine YN ?_ ?_))
  rename_i g1 hg1
  refine XC.cond _ rfl (fun h0 => ?_) (fun h0 => ?_)
  · repeat (first | (refine M0 ?_; first | refine SL ?_ | refine SB fun _ _ => ?_) | (refine M1 ?_; first | refine SC ?_ | refine SD ?_) | (refine M2 ?_; refine SE ?_) | (refine M3 ?_; first | refine SG ?_ | refine SF ?_) | (refine M4 ?_; refine SR ?_) | (refine M5 ?_; first | exact M7 | refine YM ?_ | refine YN ?_ ?_))
    refine XE.retg tok Try.results72 rfl (by simp only [and_self, and_true]) (fun w' S => ?_)
    exact ⟨chkTV_of (chkT_1 (by simpa [chkE] using h0)), S.toBelow⟩
  have hE : chkE t.b = 0 := by simpa [chkE] using h0
  repeat (first | (refine M0 ?_; first | refine SL ?_ | refine SB fun _ _ => ?_ | refine Y4 (Ev.call (f := 84) (ck rfl) rfl (fun w S => (refCheckState_any (p := ⟨Ab, t.b.rows.length, cb, Ab2, nb2, cb2⟩) (q := q) (hbas.sys S) (hfil.arg S) :))) ?_) | (refine M1 ?_; first | refine SC ?_ | refine SD ?_) | (refine M2 ?_; refine SE ?_) | (refine M3 ?_; first | refine SG ?_ | refine SF ?_ | refine YF (Ev.call (f := 84) (ck rfl) rfl (fun w S => (refCheckState_any (p := ⟨Ab, t.b.rows.length, cb, Ab2, nb2, cb2⟩) (q := q) (hbas.sys S) (hfil.arg S) :))) ?_) | (refine M4 ?_; refine SR ?_) | (refine M5 ?_; first | exact M7 | refine YM ?_ | refine YN ?_ ?_))
  refine XC.cond _ rfl (fun h1 => ?_) (fun h1 => ?_)
  · repeat (first | (refine M0 ?_; first | refine SL ?_ | refine SB fun _ _ => ?_) | (refine M1 ?_; first | refine SC ?_ | refine SD ?_) | (refine M2 ?_; refine SE ?_) | (refine M3 ?_; first | refine SG ?_ | refine SF ?_) | (refine M4 ?_; refine SR ?_) | (refine M5 ?_; first | exact M7 | refine YM ?_ | refine YN ?_ ?_))
    refine XE.retg tok Try.results72 rfl (by simp only [and_self, and_true]) (fun w' S => ?_)
    exact ⟨chkTV_of (chkT_2 hE (by simpa using h1)), S.toBelow⟩
  have hS : staErr t.b t.s = 0 := by simpa using h1
  repeat (first | (refine M0 ?_; first | refine SL ?_ | refine SB fun _ _ => ?_) | (refine M1 ?_; first | refine SC ?_ | refine SD ?_) | (refine M2 ?_; refine SE ?_) | (refine M3 ?_; first | refine SG ?_ | refine SF ?_) | (refine M4 ?_; refine SR ?_) | (refine M5 ?_; first | exact M7 | refine YM ?_ | refine YN ?_ ?_))
  refine XC.cond _ rfl (fun h2 => ?_) (fun h2 => ?_)
  · repeat (first | (refine M0 ?_; first | refine SL ?_ | refine SB fun _ _ => ?_) | (refine M1 ?_; first | refine SC ?_ | refine SD ?_) | (refine M2 ?_; refine SE ?_) | (refine M3 ?_; first | refine SG ?_ | refine SF ?_) | (refine M4 ?_; refine SR ?_) | (refine M5 ?_; first | exact M7 | refine YM ?_ | refine YN ?_ ?_))
    refine XE.retg tok Try.results72 rfl (by simp only [and_self, and_true]) (fun w' S => ?_)
    exact ⟨chkTV_of (chkT_3 hE hS (by have := of_decide_eq_true h2; omega)), S.toBelow⟩
  have h6 : ¬ 6 < t.outer.length := by have := of_decide_eq_false h2; omega
  cases e4 : decide ((t.river.length : Int) ≠ (t.outer.length : Int)) with
  | true =>
    have e4' := of_decide_eq_true e4
    repeat (first | (refine M0 ?_; first | refine SL ?_ | refine SB fun _ _ => ?_) | (refine M1 ?_; first | refine SC ?_ | refine SD ?_) | (refine M2 ?_; refine SE ?_) | (refine M3 ?_; first | refine SG ?_ | refine SF ?_) | (refine M4 ?_; refine SR ?_) | (refine M5 ?_; first | exact M7 | refine YM ?_ | refine YN ?_ ?_))
    rw [e4]
    repeat (first | (refine M0 ?_; first | refine SL ?_ | refine SB fun _ _ => ?_) | (refine M1 ?_; first | refine SC ?_ | refine SD ?_) | (refine M2 ?_; refine SE ?_) | (refine M3 ?_; first | refine SG ?_ | refine SF ?_) | (refine M4 ?_; refine SR ?_) | (refine M5 ?_; first | exact M7 | refine YM ?_ | refine YN ?_ ?_))
    refine XE.retg tok Try.results72 rfl (by simp only [and_self, and_true]) (fun w' S => ?_)
    exact ⟨chkTV_of (chkT_4 hE hS h6 (.inl (by omega))), S.toBelow⟩
  | false =>
  have e4' := of_decide_eq_false e4
  repeat (first | (refine M0 ?_; first | refine SL ?_ | refine SB fun _ _ => ?_) | (refine M1 ?_; first | refine SC ?_ | refine SD ?_) | (refine M2 ?_; refine SE ?_) | (refine M3 ?_; first | refine SG ?_ | refine SF ?_) | (refine M4 ?_; refine SR ?_) | (refine M5 ?_; first | exact M7 | refine YM ?_ | refine YN ?_ ?_))
  rw [e4]
  repeat (first | (refine M0 ?_; first | refine SL ?_ | refine SB fun _ _ => ?_) | (refine M1 ?_; first | refine SC ?_ | refine SD ?_) | (refine M2 ?_; refine SE ?_) | (refine M3 ?_; first | refine SG ?_ | refine SF ?_) | (refine M4 ?_; refine SR ?_) | (refine M5 ?_; first | exact M7 | refine YM ?_ | refine YN ?_ ?_))
  refine XC.cond _ rfl (fun h3 => ?_) (fun h3 => ?_)
  · repeat (first | (refine M0 ?_; first | refine SL ?_ | refine SB fun _ _ => ?_) | (refine M1 ?_; first | refine SC ?_ | refine SD ?_) | (refine M2 ?_; refine SE ?_) | (refine M3 ?_; first | refine SG ?_ | refine SF ?_) | (refine M4 ?_; refine SR ?_) | (refine M5 ?_; first | exact M7 | refine YM ?_ | refine YN ?_ ?_))
    refine XE.retg tok Try.results72 rfl (by simp only [and_self, and_true]) (fun w' S => ?_)
    exact ⟨chkTV_of (chkT_4 hE hS h6 (.inr (by have := of_decide_eq_true h3; omega))), S.toBelow⟩
  have hp4 : Pre4 t := ⟨hE, hS, h6, fun h => h.elim (fun h => h (by omega)) (fun h => h (by have := of_decide_eq_false h3; omega))⟩
  have e5' : t.prices.length = t.outer.length := by have := of_decide_eq_false h3; omega
  repeat (first | (refine M0 ?_; first | refine SL ?_ | refine SB fun _ _ => ?_) | (refine M1 ?_; first | refine SC ?_ | refine SD ?_) | (refine M2 ?_; refine SE ?_) | (refine M3 ?_; first | refine SG ?_ | refine SF ?_) | (refine M4 ?_; refine SR ?_) | (refine M5 ?_; first | exact M7 | refine YM ?_ | refine YN ?_ ?_))
  refine XC.loopk [1] rfl (fun k : Nat => [(8, .int .i64 (k : Nat))]) (fun _ => [(g1, _)]) (fun _ => w) (fun k => k ≤ t.outer.length ∧ ∀ j, j < k → tickErr t j = 0) (fun k => t.outer.length - k) 0 ⟨Nat.zero_le _, fun j h => absurd h (by omega)⟩ ZZSUB (fun _ h => h) ?_
  rintro k ⟨hk, h0⟩
  dsimp only [List.cons_append, List.nil_append]
  repeat (first | (refine M0 ?_; first | refine SL ?_ | refine SB fun _ _ => ?_) | (refine M1 ?_; first | refine SC ?_ | refine SD ?_) | (refine M2 ?_; refine SE ?_) | (refine M3 ?_; first | refine SG ?_ | refine SF ?_) | (refine M4 ?_; refine SR ?_) | (refine M5 ?_; first | exact M7 | refine YM ?_ | refine YN ?_ ?_))
  refine XC.cond _ rfl (fun h7 => ?_) (fun h7 => ?_)
  · have hkn : k < t.outer.length := by simpa using h7
    obtain ⟨a1, rfl, hl1, hc1⟩ := hout.at_ (by omega)
    obtain ⟨a2, rfl, hl2, hc2⟩ := hriv.at_ (by omega)
    obtain ⟨a3, rfl, hl3, hc3⟩ := hpri.at_ (by omega)
    have d1 := hc1 k hkn
    have d2 := hc2 k (by omega)
    have d3 := hc3 k (by omega)
    repeat (first | (refine M0 ?_; first | refine SL ?_ | refine SB fun _ _ => ?_ | refine Y4 (Ev.load_old tok rfl rfl (add_lt hl1) d1) ?_) | (refine M1 ?_; first | refine SC ?_ | refine SD ?_) | (refine M2 ?_; refine SE ?_) | (refine M3 ?_; first | refine SG ?_ | refine SF ?_ | refine YF (Ev.load_old tok rfl rfl (add_lt hl1) d1) ?_) | (refine M4 ?_; refine SR ?_) | (refine M5 ?_; first | exact M7 | refine YM ?_ | refine YN ?_ ?_))
    cases e0 : outB (at0 t.outer k) (-20000) 20000 with
    | true =>
      repeat (first | (refine M0 ?_; first | refine SL ?_ | refine SB fun _ _ => ?_ | refine Y4 (Ev.call (f := 63) (vs := [.int .i64 (at0 t.outer k), .int .i64 (-20000), .int .i64 20000]) (ck rfl) rfl (fun w S => inP e0 w)) ?_) | (refine M1 ?_; first | refine SC ?_ | refine SD ?_) | (refine M2 ?_; refine SE ?_) | (refine M3 ?_; first | refine SG ?_ | refine SF ?_ | refine YF (Ev.call (f := 63) (vs := [.int .i64 (at0 t.outer k), .int .i64 (-20000), .int .i64 20000]) (ck rfl) rfl (fun w S => inP e0 w)) ?_) | (refine M4 ?_; refine SR ?_) | (refine M5 ?_; first | exact M7 | refine YM ?_ | refine YN ?_ ?_))
      refine XE.retg tok Try.results72 rfl (by simp only [and_self, and_true]) (fun w' S => ?_)
      exact ⟨chkTV_of (chkT_5 hp4 hkn h0 (by simp [tickErr, e0])), S.toBelow⟩
    | false =>
    repeat (first | (refine M0 ?_; first | refine SL ?_ | refine SB fun _ _ => ?_ | refine Y4 (Ev.call (f := 63) (vs := [.int .i64 (at0 t.outer k), .int .i64 (-20000), .int .i64 20000]) (ck rfl) rfl (fun w S => inP e0 w)) ?_ | refine Y4 (Ev.load_old tok rfl rfl (add_lt hl2) d2) ?_) | (refine M1 ?_; first | refine SC ?_ | refine SD ?_) | (refine M2 ?_; refine SE ?_) | (refine M3 ?_; first | refine SG ?_ | refine SF ?_ | refine YF (Ev.call (f := 63) (vs := [.int .i64 (at0 t.outer k), .int .i64 (-20000), .int .i64 20000]) (ck rfl) rfl (fun w S => inP e0 w)) ?_ | refine YF (Ev.load_old tok rfl rfl (add_lt hl2) d2) ?_) | (refine M4 ?_; refine SR ?_) | (refine M5 ?_; first | exact M7 | refine YM ?_ | refine YN ?_ ?_))
    cases e1 : outB (at0 t.river k) 0 10000000 with
    | true =>
      repeat (first | (refine M0 ?_; first | refine SL ?_ | refine SB fun _ _ => ?_ | refine Y4 (Ev.call (f := 63) (vs := [.int .i64 (at0 t.river k), .int .i64 0, .int .i64 10000000]) (ck rfl) rfl (fun w S => inP e1 w)) ?_) | (refine M1 ?_; first | refine SC ?_ | refine SD ?_) | (refine M2 ?_; refine SE ?_) | (refine M3 ?_; first | refine SG ?_ | refine SF ?_ | refine YF (Ev.call (f := 63) (vs := [.int .i64 (at0 t.river k), .int .i64 0, .int .i64 10000000]) (ck rfl) rfl (fun w S => inP e1 w)) ?_) | (refine M4 ?_; refine SR ?_) | (refine M5 ?_; first | exact M7 | refine YM ?_ | refine YN ?_ ?_))
      refine XE.retg tok Try.results72 rfl (by simp only [and_self, and_true]) (fun w' S => ?_)
      exact ⟨chkTV_of (chkT_5 hp4 hkn h0 (by simp [tickErr, e1])), S.toBelow⟩
    | false =>
    repeat (first | (refine M0 ?_; first | refine SL ?_ | refine SB fun _ _ => ?_ | refine Y4 (Ev.call (f := 63) (vs := [.int .i64 (at0 t.river k), .int .i64 0, .int .i64 10000000]) (ck rfl) rfl (fun w S => inP e1 w)) ?_ | refine Y4 (Ev.load_old tok rfl rfl (add_lt hl3) d3) ?_) | (refine M1 ?_; first | refine SC ?_ | refine SD ?_) | (refine M2 ?_; refine SE ?_) | (refine M3 ?_; first | refine SG ?_ | refine SF ?_ | refine YF (Ev.call (f := 63) (vs := [.int .i64 (at0 t.river k), .int .i64 0, .int .i64 10000000]) (ck rfl) rfl (fun w S => inP e1 w)) ?_ | refine YF (Ev.load_old tok rfl rfl (add_lt hl3) d3) ?_) | (refine M4 ?_; refine SR ?_) | (refine M5 ?_; first | exact M7 | refine YM ?_ | refine YN ?_ ?_))
    cases e2 : outB (at0 t.prices k) 0 10000 with
    | true =>
      repeat (first | (refine M0 ?_; first | refine SL ?_ | refine SB fun _ _ => ?_ | refine Y4 (Ev.call (f := 63) (vs := [.int .i64 (at0 t.prices k), .int .i64 0, .int .i64 10000]) (ck rfl) rfl (fun w S => inP e2 w)) ?_) | (refine M1 ?_; first | refine SC ?_ | refine SD ?_) | (refine M2 ?_; refine SE ?_) | (refine M3 ?_; first | refine SG ?_ | refine SF ?_ | refine YF (Ev.call (f := 63) (vs := [.int .i64 (at0 t.prices k), .int .i64 0, .int .i64 10000]) (ck rfl) rfl (fun w S => inP e2 w)) ?_) | (refine M4 ?_; refine SR ?_) | (refine M5 ?_; first | exact M7 | refine YM ?_ | refine YN ?_ ?_))
      refine XE.retg tok Try.results72 rfl (by simp only [and_self, and_true]) (fun w' S => ?_)
      exact ⟨chkTV_of (chkT_5 hp4 hkn h0 (by simp [tickErr, e2])), S.toBelow⟩
    | false =>
    repeat (first | (refine M0 ?_; first | refine SL ?_ | refine SB fun _ _ => ?_ | refine Y4 (Ev.call (f := 63) (vs := [.int .i64 (at0 t.prices k), .int .i64 0, .int .i64 10000]) (ck rfl) rfl (fun w S => inP e2 w)) ?_) | (refine M1 ?_; first | refine SC ?_ | refine SD ?_) | (refine M2 ?_; refine SE ?_) | (refine M3 ?_; first | refine SG ?_ | refine SF ?_ | refine YF (Ev.call (f := 63) (vs := [.int .i64 (at0 t.prices k), .int .i64 0, .int .i64 10000]) (ck rfl) rfl (fun w S => inP e2 w)) ?_) | (refine M4 ?_; refine SR ?_) | (refine M5 ?_; first | exact M7 | refine YM ?_ | refine YN ?_ ?_))
    refine XE.round (k + 1) ⟨hkn, fun j hj => ?_⟩ (by omega) ZZSUB (fun _ h => h)
    by_cases e : j = k
    · subst e; simp [tickErr, e0, e1, e2]
    · exact h0 j (by omega)
  have hkn : k = t.outer.length := by have : ¬ (k < t.outer.length) := by simpa using h7
                                      omega
  subst hkn
  clear hk h7
  obtain ⟨ab, rfl, hlb⟩ := hbas.rows.addr (by have := rows_len hE; simp only; omega)
  have hr2 := rows_len hE
  have db := hbas.rowLevel (i := 0) (by omega)
  have hlv := (ok_of hE).level 0 (by omega)
  have hbad : (outB t.high (-20000) 20000 || outB t.low (t.b.row 0).level t.high) = (outB t.low (t.b.row 0).level 20000 || outB t.high t.low 20000) := by
    apply Bool.eq_iff_iff.2
    simp only [Bool.or_eq_true, outB_t]
    omega
  cases e6 : outB t.low (t.b.row 0).level 20000 with
  | true =>
    repeat (first | (refine M0 ?_; first | refine SL ?_ | refine SB fun _ _ => ?_ | refine Y4 (Ev.load_old tok rfl rfl (add_lt2 hlb) db) ?_ | refine Y4 (Ev.call (f := 63) (vs := [.int .i64 t.low, .int .i64 (t.b.row 0).level, .int .i64 20000]) (ck rfl) rfl (fun w S => inP e6 w)) ?_) | (refine M1 ?_; first | refine SC ?_ | refine SD ?_) | (refine M2 ?_; refine SE ?_) | (refine M3 ?_; first | refine SG ?_ | refine SF ?_ | refine YF (Ev.load_old tok rfl rfl (add_lt2 hlb) db) ?_ | refine YF (Ev.call (f := 63) (vs := [.int .i64 t.low, .int .i64 (t.b.row 0).level, .int .i64 20000]) (ck rfl) rfl (fun w S => inP e6 w)) ?_) | (refine M4 ?_; refine SR ?_) | (refine M5 ?_; first | exact M7 | refine YM ?_ | refine YN ?_ ?_))
    refine XE.retg tok Try.results72 rfl (by simp only [and_self, and_true]) (fun w' S => ?_)
    exact ⟨chkTV_of (chkT_6 hp4 h0 (by rw [hbad]; simp [e6])), S.toBelow⟩
  | false =>
  repeat (first | (refine M0 ?_; first | refine SL ?_ | refine SB fun _ _ => ?_ | refine Y4 (Ev.load_old tok rfl rfl (add_lt2 hlb) db) ?_ | refine Y4 (Ev.call (f := 63) (vs := [.int .i64 t.low, .int .i64 (t.b.row 0).level, .int .i64 20000]) (ck rfl) rfl (fun w S => inP e6 w)) ?_ | refine Y4 (Ev.call (f := 63) (vs := [.int .i64 t.high, .int .i64 t.low, .int .i64 20000]) (ck rfl) rfl (fun w S => in7_any _ _ _ w)) ?_) | (refine M1 ?_; first | refine SC ?_ | refine SD ?_) | (refine M2 ?_; refine SE ?_) | (refine M3 ?_; first | refine SG ?_ | refine SF ?_ | refine YF (Ev.load_old tok rfl rfl (add_lt2 hlb) db) ?_ | refine YF (Ev.call (f := 63) (vs := [.int .i64 t.low, .int .i64 (t.b.row 0).level, .int .i64 20000]) (ck rfl) rfl (fun w S => inP e6 w)) ?_ | refine YF (Ev.call (f := 63) (vs := [.int .i64 t.high, .int .i64 t.low, .int .i64 20000]) (ck rfl) rfl (fun w S => in7_any _ _ _ w)) ?_) | (refine M4 ?_; refine SR ?_) | (refine M5 ?_; first | exact M7 | refine YM ?_ | refine YN ?_ ?_))
  refine XC.cond _ rfl (fun h8 => ?_) (fun h8 => ?_)
  · repeat (first | (refine M0 ?_; first | refine SL ?_ | refine SB fun _ _ => ?_) | (refine M1 ?_; first | refine SC ?_ | refine SD ?_) | (refine M2 ?_; refine SE ?_) | (refine M3 ?_; first | refine SG ?_ | refine SF ?_) | (refine M4 ?_; refine SR ?_) | (refine M5 ?_; first | exact M7 | refine YM ?_ | refine YN ?_ ?_))
    refine XE.retg tok Try.results72 rfl (by simp only [and_self, and_true]) (fun w' S => ?_)
    exact ⟨chkTV_of (chkT_6 hp4 h0 (by rw [hbad]; simpa [e6] using h8)), S.toBelow⟩
  have h9 : (outB t.high (-20000) 20000 || outB t.low (t.b.row 0).level t.high) = false := by rw [hbad, e6]; simpa using h8
  repeat (first | (refine M0 ?_; first | refine SL ?_ | refine SB fun _ _ => ?_) | (refine M1 ?_; first | refine SC ?_ | refine SD ?_) | (refine M2 ?_; refine SE ?_) | (refine M3 ?_; first | refine SG ?_ | refine SF ?_) | (refine M4 ?_; refine SR ?_) | (refine M5 ?_; first | exact M7 | refine YM ?_ | refine YN ?_ ?_))
  cases e7 : decide ((2 : Int) < (t.slu.length : Int)) with
  | true =>
    have e7' := of_decide_eq_true e7
    repeat (first | (refine M0 ?_; first | refine SL ?_ | refine SB fun _ _ => ?_) | (refine M1 ?_; first | refine SC ?_ | refine SD ?_) | (refine M2 ?_; refine SE ?_) | (refine M3 ?_; first | refine SG ?_ | refine SF ?_) | (refine M4 ?_; refine SR ?_) | (refine M5 ?_; first | exact M7 | refine YM ?_ | refine YN ?_ ?_))
    refine XE.retg tok Try.results72 rfl (by simp only [and_self, and_true]) (fun w' S => ?_)
    exact ⟨chkTV_of (chkT_7 hp4 h0 h9 (.inl (by omega))), S.toBelow⟩
  | false =>
  have e7' := of_decide_eq_false e7
  repeat (first | (refine M0 ?_; first | refine SL ?_ | refine SB fun _ _ => ?_) | (refine M1 ?_; first | refine SC ?_ | refine SD ?_) | (refine M2 ?_; refine SE ?_) | (refine M3 ?_; first | refine SG ?_ | refine SF ?_) | (refine M4 ?_; refine SR ?_) | (refine M5 ?_; first | exact M7 | refine YM ?_ | refine YN ?_ ?_))
  refine XC.cond _ rfl (fun h7 => ?_) (fun h7 => ?_)
  · repeat (first | (refine M0 ?_; first | refine SL ?_ | refine SB fun _ _ => ?_) | (refine M1 ?_; first | refine SC ?_ | refine SD ?_) | (refine M2 ?_; refine SE ?_) | (refine M3 ?_; first | refine SG ?_ | refine SF ?_) | (refine M4 ?_; refine SR ?_) | (refine M5 ?_; first | exact M7 | refine YM ?_ | refine YN ?_ ?_))
    refine XE.retg tok Try.results72 rfl (by simp only [and_self, and_true]) (fun w' S => ?_)
    exact ⟨chkTV_of (chkT_7 hp4 h0 h9 (.inr (by have := of_decide_eq_true h7; omega))), S.toBelow⟩
  have h22 : ¬ (2 < t.slu.length ∨ 2 < t.pmp.length) := by have := of_decide_eq_false h7; omega
  repeat (first | (refine M0 ?_; first | refine SL ?_ | refine SB fun _ _ => ?_) | (refine M1 ?_; first | refine SC ?_ | refine SD ?_) | (refine M2 ?_; refine SE ?_) | (refine M3 ?_; first | refine SG ?_ | refine SF ?_) | (refine M4 ?_; refine SR ?_) | (refine M5 ?_; first | exact M7 | refine YM ?_ | refine YN ?_ ?_))
  refine XC.loopk [1] rfl (fun k : Nat => [(9, .int .i64 (k : Nat))]) (fun _ => [(g1, _)]) (fun _ => w) (fun k => k ≤ t.devs.length ∧ ∀ j, j < k → devErr t.devs j = 0) (fun k => t.devs.length - k) 0 ⟨Nat.zero_le _, fun j h => absurd h (by omega)⟩ ZZSUB (fun _ h => h) ?_
  rintro k ⟨hk, hd0⟩
  dsimp only [List.cons_append, List.nil_append]
  repeat (first | (refine M0 ?_; first | refine SL ?_ | refine SB fun _ _ => ?_ | refine Y4 (Ev.call (f := 60) (ck rfl) rfl (fun w S => hmany w)) ?_) | (refine M1 ?_; first | refine SC ?_ | refine SD ?_) | (refine M2 ?_; refine SE ?_) | (refine M3 ?_; first | refine SG ?_ | refine SF ?_ | refine YF (Ev.call (f := 60) (ck rfl) rfl (fun w S => hmany w)) ?_) | (refine M4 ?_; refine SR ?_) | (refine M5 ?_; first | exact M7 | refine YM ?_ | refine YN ?_ ?_))
  refine XC.cond _ rfl (fun h10 => ?_) (fun h10 => ?_)
  · have hkn : k < t.devs.length := by have := of_decide_eq_true h10; omega
    have hdev := fun {L : Lo} (w5 : World) (S5 : Sys w.heap.size w L w5) => refDev_any (i := k) (ht0.sys S5) hn hkn
    simp only [tskV, tskC] at hdev
    repeat (first | (refine M0 ?_; first | refine SL ?_ | refine SB fun _ _ => ?_ | refine Y4 (Ev.call (f := 102) (ck rfl) rfl (fun w5 S5 => hdev w5 S5)) ?_) | (refine M1 ?_; first | refine SC ?_ | refine SD ?_) | (refine M2 ?_; refine SE ?_) | (refine M3 ?_; first | refine SG ?_ | refine SF ?_ | refine YF (Ev.call (f := 102) (ck rfl) rfl (fun w5 S5 => hdev w5 S5)) ?_) | (refine M4 ?_; refine SR ?_) | (refine M5 ?_; first | exact M7 | refine YM ?_ | refine YN ?_ ?_))
    refine XC.cond _ rfl (fun h12 => ?_) (fun h12 => ?_)
    · repeat (first | (refine M0 ?_; first | refine SL ?_ | refine SB fun _ _ => ?_) | (refine M1 ?_; first | refine SC ?_ | refine SD ?_) | (refine M2 ?_; refine SE ?_) | (refine M3 ?_; first | refine SG ?_ | refine SF ?_) | (refine M4 ?_; refine SR ?_) | (refine M5 ?_; first | exact M7 | refine YM ?_ | refine YN ?_ ?_))
      refine XE.retg tok Try.results72 rfl (by simp only [and_self, and_true]) (fun w' S => ?_)
      exact ⟨chkTV_of (chkT_8 hp4 h0 h9 h22 hkn hd0 rfl (by simpa using h12)), S.toBelow⟩
    repeat (first | (refine M0 ?_; first | refine SL ?_ | refine SB fun _ _ => ?_) | (refine M1 ?_; first | refine SC ?_ | refine SD ?_) | (refine M2 ?_; refine SE ?_) | (refine M3 ?_; first | refine SG ?_ | refine SF ?_) | (refine M4 ?_; refine SR ?_) | (refine M5 ?_; first | exact M7 | refine YM ?_ | refine YN ?_ ?_))
    refine XE.round (k + 1) ⟨hkn, fun j hj => ?_⟩ (by omega) ZZSUB (fun _ h => h)
    by_cases e : j = k
    · subst e; simpa using h12
    · exact hd0 j (by omega)
  have hkn : k = t.devs.length := by have := of_decide_eq_false h10; omega
  subst hkn
  repeat (first | (refine M0 ?_; first | refine SL ?_ | refine SB fun _ _ => ?_ | refine Y4 (Ev.call (f := 60) (ck rfl) rfl (fun w S => hmany w)) ?_) | (refine M1 ?_; first | refine SC ?_ | refine SD ?_) | (refine M2 ?_; refine SE ?_) | (refine M3 ?_; first | refine SG ?_ | refine SF ?_ | refine YF (Ev.call (f := 60) (ck rfl) rfl (fun w S => hmany w)) ?_) | (refine M4 ?_; refine SR ?_) | (refine M5 ?_; first | exact M7 | refine YM ?_ | refine YN ?_ ?_))
  refine XC.cond _ rfl (fun h11 => ?_) (fun h11 => ?_)
  · repeat (first | (refine M0 ?_; first | refine SL ?_ | refine SB fun _ _ => ?_) | (refine M1 ?_; first | refine SC ?_ | refine SD ?_) | (refine M2 ?_; refine SE ?_) | (refine M3 ?_; first | refine SG ?_ | refine SF ?_) | (refine M4 ?_; refine SR ?_) | (refine M5 ?_; first | exact M7 | refine YM ?_ | refine YN ?_ ?_))
    refine XE.retg tok Try.results72 rfl (by simp only [and_self, and_true]) (fun w' S => ?_)
    exact ⟨chkTV_of (chkT_9 hp4 h0 h9 h22 hd0 (by have := of_decide_eq_true h11; omega)), S.toBelow⟩
  · repeat (first | (refine M0 ?_; first | refine SL ?_ | refine SB fun _ _ => ?_) | (refine M1 ?_; first | refine SC ?_ | refine SD ?_) | (refine M2 ?_; refine SE ?_) | (refine M3 ?_; first | refine SG ?_ | refine SF ?_) | (refine M4 ?_; refine SR ?_) | (refine M5 ?_; first | exact M7 | refine YM ?_ | refine YN ?_ ?_))
    refine XE.retg tok Try.results72 rfl (by simp only [and_self, and_true]) (fun w' S => ?_)
    exact ⟨chkTV_of (chkT_0 hp4 h0 h9 h22 hd0 (by have := of_decide_eq_false h11; omega)), S.toBelow⟩
set_option maxHeartbeats 4000000 in
theorem good7_any {v : RTV} {t : RTk} {w : World} (ht : TskAt w w.heap.size v t) (hn : t.slu.length + t.pmp.length ≤ 5000000) :
    Calls Try.prog 39 #[tskV v t] w fun e w' => e = .returned (.int .i64 (rtE t)) ∧ Below w.heap.size w w' := by
  have hc := fun {L : Lo} (w5 : World) (S5 : Sys w.heap.size w L w5) => refCheck7_any (ht.sys S5) hn
  simp only [tskV, tskC] at hc ⊢
  refine enter Try.func39 rfl Try.ntmps39 rfl ?_; simp only [frame, Nat.zero_add, Nat.reduceAdd]
  repeat (first | (refine M0 ?_; first | refine SL ?_ | refine SB fun _ _ => ?_ | refine Y4 (Ev.call (f := 72) (ck rfl) rfl (fun w5 S5 => hc w5 S5)) ?_) | (refine M1 ?_; first | refine SC ?_ | refine SD ?_) | (refine M2 ?_; refine SE ?_) | (refine M3 ?_; first | refine SG ?_ | refine SF ?_ | refine YF (Ev.call (f := 72) (ck rfl) rfl (fun w5 S5 => hc w5 S5)) ?_) | (refine M4 ?_; refine SR ?_) | (refine M5 ?_; first | exact M7 | refine YM ?_ | refine YN ?_ ?_))
  refine XE.retg tok Try.results39 rfl (by simp only [and_self, and_true]) (fun w' S => ?_)
  exact ⟨rfl, S.toBelow⟩
end Go.Proofs.Ytmckmlmfilmiaaa.X
/-
  What is great; the law RunoffBest, walked.
-/
namespace Go.Proofs.Ytmckmlmfilmiaaa.Bs
open Go.Proofs.Ytmckmlmfilmiaaa.X
set_option linter.unusedVariables false
section
variable {t : RTk}
theorem costE_0 {q : Plan} (h : costE t q = 0) : rtE t = 0 ∧ t.shaped q = true ∧ (t.flw 0 t.s t.on q).2 = 0 ∧ costN t q = costs (t.flw 0 t.s t.on q).1 := by
  have h' := h
  unfold costE at h'
  split at h'
  · rename_i h1; exact absurd h' h1
  · rename_i h1
    split at h'
    · cases h'
    · rename_i h2
      exact ⟨by simpa using h1, by simpa using h2, h', by unfold costN; rw [if_pos h]⟩
theorem bst_none (h0 : rtE t = 0) (h : t.rest t.n t.s t.on = none) : bst t = none ∧ bstE t = 9 := by
  refine ⟨?_, ?_⟩
  · unfold bst; rw [if_pos h0, h]
  · unfold bstE; rw [if_pos h0, h]; rfl
theorem bst_some (h0 : rtE t = 0) {x : Int × Plan} (h : t.rest t.n t.s t.on = some x) : bst t = some x ∧ bstE t = 0 := by
  refine ⟨?_, ?_⟩
  · unfold bst; rw [if_pos h0, h]
  · unfold bstE; rw [if_pos h0, h]; rfl
theorem bst_err (h0 : rtE t ≠ 0) : bst t = none ∧ bstE t = rtE t := by
  refine ⟨?_, ?_⟩
  · unfold bst; rw [if_neg h0]
  · unfold bstE; rw [if_neg h0]
end
def greatB (t : RTk) : Bool := decide (9 < (t.slu.length + t.pmp.length) * t.outer.length) && (decide (t.slu.length + t.pmp.length ≤ 4) && decide (t.outer.length ≤ 6))
end Go.Proofs.Ytmckmlmfilmiaaa.Bs
namespace Go.Proofs.Ytmckmlmfilmiaaa.X
open Go Go.RowKit Go.Proofs.Ytmckmlmfilmiaaa.Bs
set_option linter.unusedVariables false
set_option maxHeartbeats 4000000 in
theorem Great_any {v : RTV} {t : RTk} {w : World} (ht : TskAt w w.heap.size v t) (hn : t.slu.length + t.pmp.length ≤ 5000000) (hno : t.outer.length ≤ 5000000) :
    Calls Try.prog 11 #[tskV v t] w fun e w' => e = .returned (.bool (greatB t)) ∧ Below w.heap.size w w' := by
  have l1 := ht.outer.len
  have l2 := ht.slu.len (by decide)
  have l3 := ht.pmp.len (by decide)
  obtain ⟨p, q, ⟨Ao, no, co⟩, r, c, ⟨As, ns, cs⟩, ⟨Ap, np, cp⟩, on⟩ := v
  simp only at l1 l2 l3
  subst l1 l2 l3
  have hm := mul_bd (X := 5000000) (Y := 5000000) (x := (t.slu.length : Int) + t.pmp.length) (y := t.outer.length) (by omega) (by omega)
  have hc : (((t.slu.length + t.pmp.length) * t.outer.length : Nat) : Int) = ((t.slu.length : Int) + t.pmp.length) * t.outer.length := by rw [Int.natCast_mul, Int.natCast_add]
  have hg : greatB t = (decide (9 < ((t.slu.length : Int) + t.pmp.length) * t.outer.length) && (decide ((t.slu.length : Int) + t.pmp.length ≤ 4) && decide ((t.outer.length : Int) ≤ 6))) := by
    unfold greatB
    rw [← hc]
    congr 1
    · simp only [decide_eq_decide]; omega
    · congr 1 <;> (simp only [decide_eq_decide]; omega)
  rw [hg]
  simp only [tskV, tskC]
  obtain ⟨M, hM⟩ : ∃ M, M = ((t.slu.length : Int) + t.pmp.length) * t.outer.length := ⟨_, rfl⟩
  refine enter Try.func11 rfl Try.ntmps11 rfl ?_; simp only [frame, Nat.zero_add, Nat.reduceAdd]
  repeat (first | (refine M0 ?_; first | refine SL ?_ | refine SB fun _ _ => ?_) | (refine M1 ?_; refine SC ?_) | (refine M2 ?_; refine SE ?_))
  rw [← hM]
  by_cases a1 : 9 < M
  · rw [decide_eq_true a1]
    repeat (first | (refine M0 ?_; first | refine SL ?_ | refine SB fun _ _ => ?_) | (refine M1 ?_; refine SC ?_) | (refine M2 ?_; refine SE ?_))
    by_cases a2 : (t.slu.length : Int) + t.pmp.length ≤ 4
    · rw [decide_eq_true a2]
      repeat (first | (refine M0 ?_; first | refine SL ?_ | refine SB fun _ _ => ?_) | (refine M1 ?_; refine SC ?_) | (refine M2 ?_; refine SE ?_))
      refine XE.retg tok Try.results11 rfl (by simp only [and_self, and_true]) (fun w' S => ?_)
      exact ⟨rfl, S.toBelow⟩
    · rw [decide_eq_false a2]
      repeat (first | (refine M0 ?_; first | refine SL ?_ | refine SB fun _ _ => ?_) | (refine M1 ?_; refine SC ?_) | (refine M2 ?_; refine SE ?_))
      refine XE.retg tok Try.results11 rfl (by simp only [and_self, and_true]) (fun w' S => ?_)
      exact ⟨rfl, S.toBelow⟩
  · rw [decide_eq_false a1]
    repeat (first | (refine M0 ?_; first | refine SL ?_ | refine SB fun _ _ => ?_) | (refine M1 ?_; refine SC ?_) | (refine M2 ?_; refine SE ?_))
    refine XE.retg tok Try.results11 rfl (by simp only [and_self, and_true]) (fun w' S => ?_)
    exact ⟨rfl, S.toBelow⟩
end Go.Proofs.Ytmckmlmfilmiaaa.X
/-
  The walks of both Windows, and the law (runoff).
-/
namespace Go.Proofs.Ytmckmlmfilmiaaa.Bs
open Go.Proofs.Ytmckmlmfilmiaaa.X
structure Spn where
  lo : Int
  hi : Int
def spn (l : List Spn) (k : Nat) : Spn := l[k]?.getD ⟨0, 0⟩
/-- of the first k spans those whose Lo, whose Hi is below the level. -/
def winP (lv : Int) (l : List Spn) : Nat → List Int
  | 0 => []
  | k + 1 => if (spn l k).lo < lv then winP lv l k ++ [(k : Int)] else winP lv l k
def winS (lv : Int) (l : List Spn) : Nat → List Int
  | 0 => []
  | k + 1 => if (spn l k).hi < lv then winS lv l k ++ [(k : Int)] else winS lv l k
def spnBad (l : List Spn) : Bool := l.any fun x => decide (x.hi < x.lo)
def winE (lv : Int) (l : List Spn) : Int := if 400 < l.length then 3 else if spnBad l = true then 2 else if outB lv (-20000) 20000 = true then 7 else 0
end Go.Proofs.Ytmckmlmfilmiaaa.Bs
namespace Go.Proofs.Ytmckmlmfilmiaaa.X
open Go Go.RowKit Go.Proofs.Ytmckmlmfilmiaaa.Bs
set_option linter.unusedVariables false
def spnC (x : Spn) : List Value := [.int .i64 x.lo, .int .i64 x.hi]
def spnV (x : Spn) : Value := .agg ⟨spnC x⟩
def spnK : Kind Spn := ⟨65, 2, spnC, fun _ => [], fun _ => rfl⟩
def winK : Kind Int := ⟨3, 1, fun n => [.int .i64 n], fun _ => [], fun _ => rfl⟩
theorem win_flat (l : List Int) : l.flatMap winK.c = ints l := by
  unfold ints
  induction l with
  | nil => rfl
  | cons a l ih => rw [List.flatMap_cons, ih]; rfl
theorem winInts {W : World} {ok : Nat → Prop} {r : SV} {l : List Int} (h : ListAt winK W ok r l) : IntsAt W ok r l := ⟨by have := h.rd; rw [win_flat] at this; exact this, h.max⟩
def WinV (lv : Int) (l : List Spn) (x : Value) (new : List Held) : Prop := ∃ q1 q2 : SV, x = .tuple ⟨[svV q1, svV q2, .int .i64 (winE lv l)]⟩ ∧ new = [hInts q1 (if winE lv l = 0 then winS lv l l.length else []), hInts q2 (if winE lv l = 0 then winP lv l l.length else [])]
/-- how far the windows were told. -/
structure WSt where
  k : Nat
  W : World
  q1 : SV
  q2 : SV
structure WInv (w : World) (lv : Int) (l : List Spn) (z : WSt) : Prop where
  le : z.k ≤ l.length
  bel : Below w.heap.size w z.W
  fam : Fam z.W w.heap.size [] [⟨Int, winK, svV z.q1, winS lv l z.k⟩, ⟨Int, winK, svV z.q2, winP lv l z.k⟩] []
end Go.Proofs.Ytmckmlmfilmiaaa.X
/-
  The walks of asked and Use (runoff).
-/
namespace Go.Proofs.Ytmckmlmfilmiaaa.Bs
open Go.Proofs.Ytmckmlmfilmiaaa.X
noncomputable def askE (t : RTk) (s : Sta) (i : Int) (n : Nat) : Int := if rtE t ≠ 0 then rtE t else if staErr t.b s ≠ 0 then staErr t.b s else if outB i 0 ((t.outer.length : Int) - 1) = true then 4 else if n ≠ t.m then 2 else 0
/-- the error of Use; what runs off, and the energy. -/
noncomputable def useE (t : RTk) (s : Sta) (i : Int) (b f : List Bool) : Int := if askE t s i b.length ≠ 0 then askE t s i b.length else if f.length ≠ t.m then 2 else match t.use s.vol i.toNat b f with
  | none => 170
  | some _ => 0
noncomputable def useN (t : RTk) (s : Sta) (i : Int) (b f : List Bool) : Int × Int := if useE t s i b f = 0 then (t.use s.vol i.toNat b f).getD (0, 0) else (0, 0)
theorem askE_0 {t : RTk} {s : Sta} {i : Int} {n : Nat} (h : askE t s i n = 0) : rtE t = 0 ∧ StaOk t.b s ∧ (0 ≤ i ∧ i < t.outer.length) ∧ n = t.m := by
  unfold askE at h
  split at h
  · rename_i h1; exact absurd h h1
  rename_i h1
  split at h
  · rename_i h2; exact absurd h h2
  rename_i h2
  split at h
  · cases h
  rename_i h3
  split at h
  · cases h
  rename_i h4
  have h3' := outB_f.1 (Bool.not_eq_true _ ▸ h3)
  exact ⟨by simpa using h1, (staOk_of (by simpa using h2)).2, by omega, by simpa using h4⟩
end Go.Proofs.Ytmckmlmfilmiaaa.Bs
namespace Go.Proofs.Ytmckmlmfilmiaaa.X
open Go Go.RowKit Go.Proofs.Ytmckmlmfilmiaaa.Bs
set_option linter.unusedVariables false
theorem far2 {g a b : Nat} {x y : Obj} (h1 : g ≠ a) (h2 : g ≠ b) : ∀ e, e ∈ [(a, x), (b, y)] → e.1 ≠ g := fun e he => by
  rcases List.mem_cons.1 he with rfl | he
  · exact fun e => h1 e.symm
  · rw [List.mem_singleton.1 he]; exact fun e => h2 e.symm
def AskV (v : RTV) (t : RTk) (s : Sta) (i : Int) (n : Nat) (x : Value) (new : List Held) : Prop :=
  (askE t s i n ≠ 0 ∧ x = .tuple ⟨[.pointer none, .int .i64 (askE t s i n)]⟩ ∧ new = []) ∨
  (askE t s i n = 0 ∧ ∃ (g gt gm : Nat) (r : SV), x = .tuple ⟨[.pointer (some ⟨g, 0, none⟩), .int .i64 0]⟩ ∧ new = [hPln g gt gm v r t])
theorem ask_no {v : RTV} {t : RTk} {s : Sta} {i : Int} {n : Nat} {e : Int} (h : askE t s i n = e) (h0 : e ≠ 0) {w w' : World} (hB : Below w.heap.size w w') : Made w (AskV v t s i n) (.returned (.tuple ⟨[.pointer none, .int .i64 e]⟩)) w' :=
  ⟨_, [], rfl, .inl ⟨by rw [h]; exact h0, by rw [h], rfl⟩, fun x hx => (by cases hx), hB⟩
set_option maxHeartbeats 8000000 in
theorem asked_made {v : RTV} {t : RTk} {sq p : SV} {s : Sta} {i : Int} {n : Nat} {w : World} (ht : TskAt w w.heap.size v t) (hn : t.slu.length + t.pmp.length ≤ 5000000) (hq : IntsAt w (Lt w.heap.size) sq s.fil) (hpn : p.n = n) :
    Calls Try.prog 57 #[tskV v t, staV sq s, .int .i64 i, svV p] w (Made w (AskV v t s i n)) := by
  have hbeg := fun (w5 : World) (hB : Below w.heap.size w w5) => begin_made (v := v) (t := t) (w := w5) (ht.sys (Sys.ofBelow hB)) hn
  have hsta := fun (w5 : World) (hB : Below w.heap.size w w5) => checkState_any (p := v.p) (b := t.b) (q := sq) (s := s) (w := w5) (ht.sys (Sys.ofBelow hB)).bas ((hq.keep fun k hk => hB.block k hk).mono fun k hk => Nat.lt_of_lt_of_le hk hB.size)
  have lo := ht.outer.len
  have mo := ht.outer.max
  have hE : askE t s i n = if rtE t ≠ 0 then rtE t else if staErr t.b s ≠ 0 then staErr t.b s else if outB i 0 ((t.outer.length : Int) - 1) = true then 4 else if n ≠ t.m then 2 else 0 := rfl
  obtain ⟨Ap, np, cp⟩ := p
  simp only at hpn
  subst hpn
  simp only [tskV, tskC, svV, staV, staC, basV, basC] at hbeg hsta ⊢
  refine enter Try.func57 rfl Try.ntmps57 rfl ?_; simp only [frame, Nat.zero_add, Nat.reduceAdd]
  repeat (first | (refine M0 ?_; first | refine SL ?_ | refine SB fun _ _ => ?_) | (refine M1 ?_; refine SC ?_) | (refine M2 ?_; refine SE ?_))
  rename_i g4 hg4 g5 hg5
  refine XL.rebase (List.Sublist.refl _) (fun W0 S0 => ?_)
  refine XL.callF (ks := [g5, g4]) (rs := []) (hs := []) (b0 := w.heap.size) (wE := w) (BegV v t) (ck rfl) rfl rfl (Fam.start S0.size) (fun k hk => S0.keyLt k hk) S0.toBelow (fun w1 S1 _ hB1 => hbeg w1 hB1) (fun w2 x new hR hF2 hB2 hk2 => ?_) ZZHL
  rcases hR with ⟨h0, rfl, rfl⟩ | ⟨h0, g, gt, gm, r, rfl, rfl⟩
  · rw [if_pos h0] at hE
    repeat (first | (refine M0 ?_; first | refine SL ?_ | refine SB fun _ _ => ?_) | (refine M1 ?_; refine SC ?_) | (refine M2 ?_; refine SE ?_))
    rw [show decide (rtE t = 0) = false from decide_eq_false h0]
    repeat (first | (refine M0 ?_; first | refine SL ?_ | refine SB fun _ _ => ?_) | (refine M1 ?_; refine SC ?_) | (refine M2 ?_; refine SE ?_))
    rw [show decide (rtE t ≠ 0) = true from decide_eq_true h0]
    repeat (first | (refine M0 ?_; first | refine SL ?_ | refine SB fun _ _ => ?_) | (refine M1 ?_; refine SC ?_) | (refine M2 ?_; refine SE ?_))
    refine XE.retg tok Try.results57 rfl (by simp only [and_self, and_true]) (fun w' S => ?_)
    exact ask_no hE h0 (hB2.trans S.toBelow)
  rw [if_neg (by simp [h0])] at hE
  repeat (first | (refine M0 ?_; first | refine SL ?_ | refine SB fun _ _ => ?_ | refine Y4 (Ev.call (f := 26) (ck rfl) rfl (fun w5 S5 => hsta w5 (hB2.trans S5.toBelow))) ?_) | (refine M1 ?_; refine SC ?_) | (refine M2 ?_; refine SE ?_))
  by_cases h1 : staErr t.b s = 0
  rotate_left
  · rw [if_pos h1] at hE
    rw [show decide (staErr t.b s ≠ 0) = true from decide_eq_true h1]
    repeat (first | (refine M0 ?_; first | refine SL ?_ | refine SB fun _ _ => ?_) | (refine M1 ?_; refine SC ?_) | (refine M2 ?_; refine SE ?_))
    refine XE.retg tok Try.results57 rfl (by simp only [and_self, and_true]) (fun w' S => ?_)
    exact ask_no hE h1 (hB2.trans S.toBelow)
  rw [if_neg (by simp [h1])] at hE
  rw [show decide (staErr t.b s ≠ 0) = false from decide_eq_false (fun h => h h1)]
  cases h2 : outB i 0 ((t.outer.length : Int) - 1) with
  | true =>
    rw [h2, if_pos rfl] at hE
    rw [← lo] at h2
    repeat (first | (refine M0 ?_; first | refine SL ?_ | refine SB fun _ _ => ?_ | refine Y4 (Ev.call (f := 42) (ck rfl) rfl (fun w5 S5 => outP h2 w5)) ?_) | (refine M1 ?_; refine SC ?_) | (refine M2 ?_; refine SE ?_))
    refine XE.retg tok Try.results57 rfl (by simp only [and_self, and_true]) (fun w' S => ?_)
    exact ask_no hE (by decide) (hB2.trans S.toBelow)
  | false =>
  rw [h2, if_neg (by decide)] at hE
  rw [← lo] at h2
  have hp2 : Pln0 w2 _ g gt gm v r t := hF2.held (hPln g gt gm v r t) (.head _)
  obtain ⟨hlg, hc⟩ := plnCell hp2.p
  have hn15 : r.n = t.m := hp2.p.all.len (by decide)
  have c15 : w2.cell? ⟨g, 15, none⟩ = some (.slice r.A r.n r.c) := hc 15 _ rfl
  have hge := hp2.p.kg.1
  have hg5' : g ≠ g5 := fun e => hge.2.2.1 (by rw [e]; simp)
  have hg4' : g ≠ g4 := fun e => hge.2.2.1 (by rw [e]; simp)
  repeat (first | (refine M0 ?_; first | refine SL ?_ | refine SB fun _ _ => ?_ | refine Y4 (Ev.call (f := 42) (ck rfl) rfl (fun w5 S5 => outP h2 w5)) ?_ | refine Y4 (Ev.load_far tok rfl rfl hlg (far2 hg5' hg4') c15) ?_) | (refine M1 ?_; refine SC ?_) | (refine M2 ?_; refine SE ?_))
  refine XC.cond _ rfl (fun h3 => ?_) (fun h3 => ?_)
  · have h3' : np ≠ t.m := by have := of_decide_eq_true h3; omega
    rw [if_pos h3'] at hE
    repeat (first | (refine M0 ?_; first | refine SL ?_ | refine SB fun _ _ => ?_) | (refine M1 ?_; refine SC ?_) | (refine M2 ?_; refine SE ?_))
    refine XE.retg tok Try.results57 rfl (by simp only [and_self, and_true]) (fun w' S => ?_)
    exact ask_no hE (by decide) (hB2.trans S.toBelow)
  have h3' : np = t.m := by have := of_decide_eq_false h3; omega
  rw [if_neg (by simp [h3'])] at hE
  repeat (first | (refine M0 ?_; first | refine SL ?_ | refine SB fun _ _ => ?_) | (refine M1 ?_; refine SC ?_) | (refine M2 ?_; refine SE ?_))
  refine XE.retg tok Try.results57 rfl (by simp only [and_self, and_true]) (fun w' S => ?_)
  refine ⟨_, _, rfl, .inr ⟨hE, g, gt, gm, r, rfl, rfl⟩, fun x hx => ?_, hB2.trans S.toBelow⟩
  rw [List.mem_singleton.1 hx]
  exact (hF2.sys S ZZHL).get (.head _)
set_option maxHeartbeats 8000000 in
theorem Use_any {v : RTV} {t : RTk} {sq p q : SV} {s : Sta} {i : Int} {b f : List Bool} {w : World} (ht : TskAt w w.heap.size v t) (hn : t.slu.length + t.pmp.length ≤ 5000000) (hq : IntsAt w (Lt w.heap.size) sq s.fil) (hb : ListAt boolK w (Lt w.heap.size) p b) (hf : ListAt boolK w (Lt w.heap.size) q f) :
    Calls Try.prog 28 #[tskV v t, staV sq s, .int .i64 i, svV p, svV q] w fun e w' => e = .returned (.tuple ⟨[.int .i64 (useN t s i b f).1, .int .i64 (useN t s i b f).2, .int .i64 (useE t s i b f)]⟩) ∧ Below w.heap.size w w' := by
  have hpn := hb.len (by decide)
  have hqn := hf.len (by decide)
  have hask := fun (w5 : World) (hB : Below w.heap.size w w5) => asked_made (v := v) (t := t) (w := w5) (sq := sq) (s := s) (i := i) (p := p) (n := b.length) (ht.sys (Sys.ofBelow hB)) hn ((hq.keep fun k hk => hB.block k hk).mono fun k hk => Nat.lt_of_lt_of_le hk hB.size) hpn
  have huse := fun (w5 : World) (hB : Below w.heap.size w w5) {g gt gm : Nat} {r : SV} (h0 : RtOk t) (hp : PlnAt w5 (Lt w5.heap.size) g gt gm v r t) (hx : (t.b.row 0).vol ≤ s.vol ∧ s.vol ≤ 1000000000) {j : Nat} (hj : j < t.outer.length) (h1 : b.length = t.devs.length) (h2 : f.length = t.devs.length) => use_any (x := s.vol) (i := j) hp (ht.sys (Sys.ofBelow hB)) h0 hx hj ((hb.keep fun k hk => hB.block k hk).mono fun k hk => Nat.lt_of_lt_of_le hk hB.size) h1 ((hf.keep fun k hk => hB.block k hk).mono fun k hk => Nat.lt_of_lt_of_le hk hB.size) h2
  have hE : useE t s i b f = if askE t s i b.length ≠ 0 then askE t s i b.length else if f.length ≠ t.m then 2 else match t.use s.vol i.toNat b f with
    | none => 170
    | some _ => 0 := rfl
  have hN : useN t s i b f = if useE t s i b f = 0 then (t.use s.vol i.toNat b f).getD (0, 0) else (0, 0) := rfl
  obtain ⟨Ap, np, cp⟩ := p
  obtain ⟨Aq, nq, cq⟩ := q
  simp only at hpn hqn
  subst hpn hqn
  simp only [tskV, tskC, svV, staV, staC] at hask huse ⊢
  refine enter Try.func28 rfl Try.ntmps28 rfl ?_; simp only [frame, Nat.zero_add, Nat.reduceAdd]
  repeat (first | (refine M0 ?_; first | refine SL ?_ | refine SB fun _ _ => ?_) | (refine M1 ?_; refine SC ?_) | (refine M2 ?_; refine SE ?_))
  rename_i g5 hg5 g6 hg6
  refine XL.rebase (List.Sublist.refl _) (fun W0 S0 => ?_)
  refine XL.callF (ks := [g6, g5]) (rs := []) (hs := []) (b0 := w.heap.size) (wE := w) (AskV v t s i b.length) (ck rfl) rfl rfl (Fam.start S0.size) (fun k hk => S0.keyLt k hk) S0.toBelow (fun w1 S1 _ hB1 => hask w1 hB1) (fun w2 x new hR hF2 hB2 hk2 => ?_) ZZHL
  rcases hR with ⟨h0, rfl, rfl⟩ | ⟨h0, g, gt, gm, r, rfl, rfl⟩
  · rw [if_pos h0] at hE
    rw [if_neg (by rw [hE]; exact h0)] at hN
    repeat (first | (refine M0 ?_; first | refine SL ?_ | refine SB fun _ _ => ?_) | (refine M1 ?_; refine SC ?_) | (refine M2 ?_; refine SE ?_))
    refine XC.cond _ rfl (fun h1 => ?_) (fun h1 => absurd (by simpa using h1) h0)
    repeat (first | (refine M0 ?_; first | refine SL ?_ | refine SB fun _ _ => ?_) | (refine M1 ?_; refine SC ?_) | (refine M2 ?_; refine SE ?_))
    refine XE.retg tok Try.results28 rfl (by simp only [and_self, and_true]) (fun w' S => ?_)
    rw [hN, hE]
    exact ⟨rfl, hB2.trans S.toBelow⟩
  rw [if_neg (by simp [h0])] at hE
  obtain ⟨hr0, hst, hi, hbl⟩ := askE_0 h0
  have ho := rtOk_of hr0
  have hp2 : Pln0 w2 _ g gt gm v r t := hF2.held (hPln g gt gm v r t) (.head _)
  obtain ⟨hlg, hc⟩ := plnCell hp2.p
  have hn15 : r.n = t.m := hp2.p.all.len (by decide)
  have c15 : w2.cell? ⟨g, 15, none⟩ = some (.slice r.A r.n r.c) := hc 15 _ rfl
  have hge := hp2.p.kg.1
  have hg5' : g ≠ g6 := fun e => hge.2.2.1 (by rw [e]; simp)
  have hg4' : g ≠ g5 := fun e => hge.2.2.1 (by rw [e]; simp)
  repeat (first | (refine M0 ?_; first | refine SL ?_ | refine SB fun _ _ => ?_ | refine Y4 (Ev.load_far tok rfl rfl hlg (far2 hg5' hg4') c15) ?_) | (refine M1 ?_; refine SC ?_) | (refine M2 ?_; refine SE ?_))
  refine XC.cond _ rfl (fun h1 => ?_) (fun h1 => ?_)
  · have h1' : f.length ≠ t.m := by have := of_decide_eq_true h1; omega
    rw [if_pos h1'] at hE
    rw [if_neg (by rw [hE]; decide)] at hN
    repeat (first | (refine M0 ?_; first | refine SL ?_ | refine SB fun _ _ => ?_) | (refine M1 ?_; refine SC ?_) | (refine M2 ?_; refine SE ?_))
    refine XE.retg tok Try.results28 rfl (by simp only [and_self, and_true]) (fun w' S => ?_)
    rw [hN, hE]
    exact ⟨rfl, hB2.trans S.toBelow⟩
  have h1' : f.length = t.m := by have := of_decide_eq_false h1; omega
  rw [if_neg (by simp [h1'])] at hE
  obtain ⟨j, rfl⟩ : ∃ j : Nat, i = j := ⟨i.toNat, by omega⟩
  have hj : j < t.outer.length := by omega
  rw [Int.toNat_natCast] at hE hN
  have hu := fun {L : Lo} (w5 : World) (S5 : Sys w.heap.size w2 L w5) (hL5 : ∀ e, e ∈ L → e.1 ∈ [g6, g5] ∨ w2.heap.size ≤ e.1) => huse w5 (hB2.trans S5.toBelow) (r := r) ho (((hF2.sys S5 (fun e he => (hL5 e he).imp (fun h => List.mem_append_right _ h) id)).get (x := hPln g gt gm v r t) (.head _)).p.mono fun k hk => hk.1.2) hst.vol hj hbl h1'
  repeat (first | (refine M0 ?_; first | refine SL ?_ | refine SB fun _ _ => ?_) | (refine M1 ?_; refine SC ?_) | (refine M2 ?_; refine SE ?_))
  refine XL.step _ (Ev.call (f := 58) (ck rfl) rfl (fun w5 S5 => hu w5 S5 ZZHL)) rfl ?_
  cases hU : t.use s.vol j b f with
  | none =>
    rw [hU] at hE
    simp only at hE
    rw [if_neg (by rw [hE]; decide)] at hN
    simp only [useV]
    repeat (first | (refine M0 ?_; first | refine SL ?_ | refine SB fun _ _ => ?_) | (refine M1 ?_; refine SC ?_) | (refine M2 ?_; refine SE ?_))
    refine XE.retg tok Try.results28 rfl (by simp only [and_self, and_true]) (fun w' S => ?_)
    rw [hN, hE]
    exact ⟨rfl, hB2.trans S.toBelow⟩
  | some y =>
    rw [hU] at hE hN
    simp only at hE
    rw [if_pos hE] at hN
    simp only [useV]
    repeat (first | (refine M0 ?_; first | refine SL ?_ | refine SB fun _ _ => ?_) | (refine M1 ?_; refine SC ?_) | (refine M2 ?_; refine SE ?_))
    refine XE.retg tok Try.results28 rfl (by simp only [and_self, and_true]) (fun w' S => ?_)
    rw [hN, hE]
    exact ⟨rfl, hB2.trans S.toBelow⟩
end Go.Proofs.Ytmckmlmfilmiaaa.X
/-
  The walk of Cheapest (runoff).
-/
namespace Go.Proofs.Ytmckmlmfilmiaaa.Bs
open Go.Proofs.Ytmckmlmfilmiaaa.X
/-- a choice and its energy. -/
abbrev Ch := Option (Int × List Bool)
def chE (x : Ch) : Int := (x.map (·.1)).getD 0
def chL (x : Ch) : List Bool := (x.map (·.2)).getD []
def cheU (ls : Int) (best : Ch) (u : Option (Int × Int)) (f : List Bool) : Ch :=
  match u with
  | none => best
  | some y => if ls ≤ y.1 ∧ (best.isSome = true → y.2 < chE best) then some (y.2, f) else best
/-- the cheapest of the first i choices. -/
def cheB (t : RTk) (s : Sta) (j : Nat) (b : List Bool) (ls : Int) : Nat → Ch
  | 0 => none
  | i + 1 => cheU ls (cheB t s j b ls i) (t.use s.vol j b (chc t.m i)) (chc t.m i)
noncomputable def cheE (t : RTk) (s : Sta) (i : Int) (b : List Bool) (ls : Int) : Int := if askE t s i b.length ≠ 0 then askE t s i b.length else if outB ls 0 10000000 = true then 7 else if (cheB t s i.toNat b ls (2 ^ t.m)).isSome = true then 0 else 9
noncomputable def cheR (t : RTk) (s : Sta) (i : Int) (b : List Bool) (ls : Int) : Ch := if cheE t s i b ls = 0 then cheB t s i.toNat b ls (2 ^ t.m) else none
end Go.Proofs.Ytmckmlmfilmiaaa.Bs
namespace Go.Proofs.Ytmckmlmfilmiaaa.X
open Go Go.RowKit Go.Proofs.Ytmckmlmfilmiaaa.Bs
set_option linter.unusedVariables false
def CheV (t : RTk) (s : Sta) (i : Int) (b : List Bool) (ls : Int) (x : Value) (new : List Held) : Prop := ∃ q : SV, x = .tuple ⟨[svV q, .int .i64 (chE (cheR t s i b ls)), .int .i64 (cheE t s i b ls)]⟩ ∧ new = [hList boolK q (chL (cheR t s i b ls))]
theorem che_no {t : RTk} {s : Sta} {i : Int} {b : List Bool} {ls e : Int} (h : cheE t s i b ls = e) (h0 : e ≠ 0) {w w' : World} (hB : Below w.heap.size w w') : Made w (CheV t s i b ls) (.returned (.tuple ⟨[.slice none 0 0, .int .i64 0, .int .i64 e]⟩)) w' :=
  ⟨_, _, rfl, ⟨⟨none, 0, 0⟩, by unfold cheR; rw [h, if_neg h0]; rfl, rfl⟩, fun x hx => by
    rw [List.mem_singleton.1 hx]; unfold cheR; rw [h, if_neg h0]; exact ListAt.nil, hB⟩
abbrev KC (l D g14 g13 g11 g10 g9 g8 g7 g6 g5 : Nat) : List Nat := [l, D, g14, g13, g11, g10, g9, g8, g7, g6, g5]
abbrev LC (l D g14 g13 g11 g10 g9 g8 g7 g6 g5 : Nat) (r0 : Loop) (o5 : Obj) (g : Nat) (best : Ch) (q p : SV) (ls : Int) (j : Nat) (sq : SV) (s : Sta) : Lo :=
  [(l, .loop r0), (D, .deferred (some [])), (g14, cel 4 [.bool best.isSome]), (g13, cel 91 [.pointer (some ⟨g, 0, none⟩)]), (g11, cel 3 [.int .i64 (chE best)]), (g10, cel 31 [svV q]), (g9, cel 3 [.int .i64 ls]), (g8, cel 31 [svV p]), (g7, cel 3 [.int .i64 (j : Nat)]), (g6, cel 28 (staC sq s)), (g5, o5)]
abbrev oneC (tmps : Array Value) (v : Value) : Array Value := ((#[36] : Array Tmp).zip #[v]).foldl (fun s (p, y) => s.setIfInBounds p y) tmps
theorem LC_key {l D g14 g13 g11 g10 g9 g8 g7 g6 g5 : Nat} {r0 : Loop} {o5 : Obj} {g : Nat} {best : Ch} {q p : SV} {ls : Int} {j : Nat} {sq : SV} {s : Sta} {e : Nat × Obj} (he : e ∈ LC l D g14 g13 g11 g10 g9 g8 g7 g6 g5 r0 o5 g best q p ls j sq s) : e.1 ∈ KC l D g14 g13 g11 g10 g9 g8 g7 g6 g5 := by
  have := List.mem_map_of_mem (f := Prod.fst) he
  exact this
set_option maxHeartbeats 16000000 in
set_option maxRecDepth 10000 in
theorem che_round {l D g14 g13 g11 g10 g9 g8 g7 g6 g5 g gt gm j gn n : Nat} {t : RTk} {v : RTV} {r sq p q : SV} {s : Sta} {before on : List Bool} {best : Ch} {ls : Int} {w W w1 : World} {fn : FuncId} {a : Act} {assign body : Code} {o5 : Obj} {c : Code}
    (ho : RtOk t) (hx : (t.b.row 0).vol ≤ s.vol ∧ s.vol ≤ 1000000000) (hj : j < t.outer.length) (hbl : before.length = t.m) (hon : on.length = t.m)
    (hT : TskAt w w.heap.size v t) (hb : ListAt boolK w (Lt w.heap.size) p before) (hB : Below w.heap.size w W)
    (hF : Fam W w.heap.size (KC l D g14 g13 g11 g10 g9 g8 g7 g6 g5) [] [hList boolK ⟨some ⟨gn, 0, none⟩, t.m, t.m⟩ on, hPln g gt gm v r t, hList boolK q (chL best)]) (hks : ∀ x, x ∈ KC l D g14 g13 g11 g10 g9 g8 g7 g6 g5 → x < W.heap.size)
    (hc : Try.f31.body = some c) (hr : rfOf2 c = some (assign, body))
    (hf : Fits 69 [] [(13, .pointer (some ⟨g13, 0, none⟩)), (6, .pointer (some ⟨g6, 0, none⟩)), (7, .pointer (some ⟨g7, 0, none⟩)), (8, .pointer (some ⟨g8, 0, none⟩)), (9, .pointer (some ⟨g9, 0, none⟩)), (10, .pointer (some ⟨g10, 0, none⟩)), (11, .pointer (some ⟨g11, 0, none⟩)), (14, .pointer (some ⟨g14, 0, none⟩))] a)
    (S : Sys w.heap.size W (LC l D g14 g13 g11 g10 g9 g8 g7 g6 g5 (recO fn a.tmps #[36] assign body D .ready none) o5 g best q p ls j sq s) w1) :
    (Instr.yield l (#[.slice (some ⟨gn, 0, none⟩) t.m t.m] : Array Value)).run Try.prog w1 = .ok (.round l fn (oneC a.tmps (.slice (some ⟨gn, 0, none⟩) t.m t.m)) assign body) w1 ∧
    RoundIn Fence.wide n Try.prog l fn (oneC a.tmps (.slice (some ⟨gn, 0, none⟩) t.m t.m)) assign body w1 fun e1 w' => ∃ u, e1 = .returned u ∧ u = .bool true ∧
      ∃ q', Fam w' w.heap.size (KC l D g14 g13 g11 g10 g9 g8 g7 g6 g5) [] [hPln g gt gm v r t, hList boolK q' (chL (cheU ls best (t.use s.vol j before on) on))] ∧ Sys w.heap.size W (LC l D g14 g13 g11 g10 g9 g8 g7 g6 g5 (recO fn a.tmps #[36] assign body D .ready none) o5 g (cheU ls best (t.use s.vol j before on) on) q' p ls j sq s) w' := by
  have hloop := (S.own _ List.mem_cons_self).2
  obtain ⟨ks, hks1⟩ : ∃ ks, ks = KC l D g14 g13 g11 g10 g9 g8 g7 g6 g5 := ⟨_, rfl⟩
  rw [← hks1] at hF hks ⊢
  have m1 : l ∈ ks := by rw [hks1]; simp
  have m2 : D ∈ ks := by rw [hks1]; simp
  have m3 : g14 ∈ ks := by rw [hks1]; simp
  have m4 : g13 ∈ ks := by rw [hks1]; simp
  have m5 : g11 ∈ ks := by rw [hks1]; simp
  have m6 : g10 ∈ ks := by rw [hks1]; simp
  have m7 : g9 ∈ ks := by rw [hks1]; simp
  have m8 : g8 ∈ ks := by rw [hks1]; simp
  have m9 : g7 ∈ ks := by rw [hks1]; simp
  have m10 : g6 ∈ ks := by rw [hks1]; simp
  have m11 : g5 ∈ ks := by rw [hks1]; simp
  clear hks1
  have hdl := t.devs_len
  have hu := fun {L : Lo} (w5 : World) (S5 : Sys w.heap.size W L w5) (hL5 : ∀ e, e ∈ L → e.1 ∈ ks ∨ W.heap.size ≤ e.1) => use_any (x := s.vol) (i := j) (before := before) (on := on) (p := p) (q := ⟨some ⟨gn, 0, none⟩, t.m, t.m⟩) (((hF.sys S5 hL5).get (x := hPln g gt gm v r t) (.tail _ (.head _))).p.mono fun k hk => hk.1.2) (hT.sys (Sys.ofBelow (hB.trans S5.toBelow))) ho hx hj ((hb.keep fun k hk => (hB.trans S5.toBelow).block k hk).mono fun k hk => Nat.lt_of_lt_of_le hk (hB.trans S5.toBelow).size) hbl (((hF.sys S5 hL5).held (hList boolK ⟨some ⟨gn, 0, none⟩, t.m, t.m⟩ on) (.head _)).mono fun j hj => hj.2.1) hon
  refine ⟨run_yield (args := #[.slice (some ⟨gn, 0, none⟩) t.m t.m]) hloop rfl, ?_⟩
  obtain ⟨r0, hr0, hr1, hr2⟩ : ∃ r0, recO fn a.tmps #[36] assign body D .ready none = r0 ∧ r0.state = .ready ∧ r0.pending = none := ⟨_, rfl, rfl, rfl⟩
  rw [hr0] at S ⊢
  clear hloop hr0
  have hr3 : { { r0 with state := .busy } with state := .ready, pending := none } = r0 := by
    cases r0; simp only at hr1 hr2; subst hr1 hr2; rfl
  have e1 : Try.f31.body = some _ := rfl
  rw [e1] at hc
  cases hc
  simp only [rfOf2, Option.some.injEq, Prod.mk.injEq] at hr
  obtain ⟨rfl, rfl⟩ := hr
  clear e1
  refine round_of (((((((((hf.params1 rfl).hint 6 (.slice none 1 0)).hint 7 (.slice none 2 0)).hint 8 (.slice none 3 0)).hint 9 (.slice none 4 0)).hint 10 (.slice none 5 0)).hint 11 (.slice none 6 0)).hint 13 (.slice none 7 0)).hint 14 (.slice none 8 0)) S ?_
  simp only [LC, staC, svV] at hu ⊢
  repeat (first | (refine M0 ?_; first | refine SL ?_ | refine SB fun _ _ => ?_) | (refine XI.id ?_; first | refine XI.done ?_ | refine XI.one1 rfl ?_) | (refine XR'.id ?_; first | refine XR'.seq ?_ | refine XR'.region ?_ | refine XR'.block ?_ | refine XR'.skip ?_ | refine XR'.ret ?_ | refine XR'.cond_t rfl ?_ | refine XR'.cond_f rfl ?_ | refine XR'.exit ?_) | (refine M1 ?_; first | refine SC ?_ | refine SD ?_) | (refine M2 ?_; first | refine XE.nextI ?_ | refine XE.nextR ?_ | refine SE ?_))
  refine XE.begin (i := 0) rfl hr1 rfl ?_
  repeat (first | (refine M0 ?_; first | refine SL ?_ | refine SB fun _ _ => ?_) | (refine XI.id ?_; first | refine XI.done ?_ | refine XI.one1 rfl ?_) | (refine XR'.id ?_; first | refine XR'.seq ?_ | refine XR'.region ?_ | refine XR'.block ?_ | refine XR'.skip ?_ | refine XR'.ret ?_ | refine XR'.cond_t rfl ?_ | refine XR'.cond_f rfl ?_ | refine XR'.exit ?_) | (refine M1 ?_; first | refine SC ?_ | refine SD ?_) | (refine M2 ?_; first | refine XE.nextI ?_ | refine XE.nextR ?_ | refine SE ?_))
  refine XL.step _ (Ev.call (f := 58) (ck rfl) rfl (fun w5 S5 => hu w5 S5 ZZHM)) rfl ?_
  have hend : ∀ (q' : SV) (b' : Ch) (w' : World), cheU ls best (t.use s.vol j before on) on = b' → Sys w.heap.size W (LC l D g14 g13 g11 g10 g9 g8 g7 g6 g5 r0 o5 g b' q' p ls j sq s) w' → (hList boolK q' (chL b') = hList boolK q (chL best) ∨ hList boolK q' (chL b') = hList boolK ⟨some ⟨gn, 0, none⟩, t.m, t.m⟩ on) →
      ∃ u, Ending.returned (.bool true) = .returned u ∧ u = .bool true ∧ ∃ q', Fam w' w.heap.size ks [] [hPln g gt gm v r t, hList boolK q' (chL (cheU ls best (t.use s.vol j before on) on))] ∧ Sys w.heap.size W (LC l D g14 g13 g11 g10 g9 g8 g7 g6 g5 r0 o5 g (cheU ls best (t.use s.vol j before on) on) q' p ls j sq s) w' := fun q' b' w' e1 S' h => by
    rw [e1]
    refine ⟨_, rfl, rfl, q', Fam.forget (hF.sys S' ZZHM) (fun x hx => ?_), S'⟩
    rcases List.mem_cons.1 hx with rfl | hx
    · simp
    · rw [List.mem_singleton.1 hx]
      rcases h with h | h <;> rw [h] <;> simp
  obtain ⟨U, hU⟩ : ∃ U, U = t.use s.vol j before on := ⟨_, rfl⟩
  rw [← hU] at hend ⊢
  cases U with
  | none =>
    simp only [useV]
    repeat (first | (refine M0 ?_; first | refine SL ?_ | refine SB fun _ _ => ?_) | (refine XI.id ?_; first | refine XI.done ?_ | refine XI.one1 rfl ?_) | (refine XR'.id ?_; first | refine XR'.seq ?_ | refine XR'.region ?_ | refine XR'.block ?_ | refine XR'.skip ?_ | refine XR'.ret ?_ | refine XR'.cond_t rfl ?_ | refine XR'.cond_f rfl ?_ | refine XR'.exit ?_) | (refine M1 ?_; first | refine SC ?_ | refine SD ?_) | (refine M2 ?_; first | refine XE.nextI ?_ | refine XE.nextR ?_ | refine SE ?_))
    refine XE.endR (i := 0) rfl rfl (fun w' S' => ?_)
    simp only [hr3] at S'
    exact hend q best w' rfl S' (.inl rfl)
  | some y =>
  obtain ⟨of, en⟩ := y
  have hE : cheU ls best (some (of, en)) on = if ls ≤ of ∧ (best.isSome = true → en < chE best) then some (en, on) else best := rfl
  simp only [useV]
  repeat (first | (refine M0 ?_; first | refine SL ?_ | refine SB fun _ _ => ?_) | (refine XI.id ?_; first | refine XI.done ?_ | refine XI.one1 rfl ?_) | (refine XR'.id ?_; first | refine XR'.seq ?_ | refine XR'.region ?_ | refine XR'.block ?_ | refine XR'.skip ?_ | refine XR'.ret ?_ | refine XR'.cond_t rfl ?_ | refine XR'.cond_f rfl ?_ | refine XR'.exit ?_) | (refine M1 ?_; first | refine SC ?_ | refine SD ?_) | (refine M2 ?_; first | refine XE.nextI ?_ | refine XE.nextR ?_ | refine SE ?_))
  by_cases h1 : ls ≤ of
  rotate_left
  · rw [show decide (ls ≤ of) = false from decide_eq_false h1]
    rw [if_neg (fun h => h1 h.1)] at hE
    repeat (first | (refine M0 ?_; first | refine SL ?_ | refine SB fun _ _ => ?_) | (refine XI.id ?_; first | refine XI.done ?_ | refine XI.one1 rfl ?_) | (refine XR'.id ?_; first | refine XR'.seq ?_ | refine XR'.region ?_ | refine XR'.block ?_ | refine XR'.skip ?_ | refine XR'.ret ?_ | refine XR'.cond_t rfl ?_ | refine XR'.cond_f rfl ?_ | refine XR'.exit ?_) | (refine M1 ?_; first | refine SC ?_ | refine SD ?_) | (refine M2 ?_; first | refine XE.nextI ?_ | refine XE.nextR ?_ | refine SE ?_))
    refine XE.endR (i := 0) rfl rfl (fun w' S' => ?_)
    simp only [hr3] at S'
    exact hend q best w' hE S' (.inl rfl)
  rw [show decide (ls ≤ of) = true from decide_eq_true h1]
  obtain ⟨bs, hbs⟩ : ∃ bs, bs = best.isSome := ⟨_, rfl⟩
  obtain ⟨e0, he0⟩ : ∃ e0, e0 = chE best := ⟨_, rfl⟩
  rw [← hbs, ← he0] at hE ⊢
  cases bs with
  | false =>
    rw [if_pos ⟨h1, fun h => by cases h⟩] at hE
    repeat (first | (refine M0 ?_; first | refine SL ?_ | refine SB fun _ _ => ?_) | (refine XI.id ?_; first | refine XI.done ?_ | refine XI.one1 rfl ?_) | (refine XR'.id ?_; first | refine XR'.seq ?_ | refine XR'.region ?_ | refine XR'.block ?_ | refine XR'.skip ?_ | refine XR'.ret ?_ | refine XR'.cond_t rfl ?_ | refine XR'.cond_f rfl ?_ | refine XR'.exit ?_) | (refine M1 ?_; first | refine SC ?_ | refine SD ?_) | (refine M2 ?_; first | refine XE.nextI ?_ | refine XE.nextR ?_ | refine SE ?_))
    refine XE.endR (i := 0) rfl rfl (fun w' S' => ?_)
    simp only [hr3] at S'
    exact hend ⟨some ⟨gn, 0, none⟩, t.m, t.m⟩ (some (en, on)) w' hE S' (.inr rfl)
  | true =>
  by_cases h2 : en < e0
  · rw [if_pos ⟨h1, fun _ => h2⟩] at hE
    repeat (first | (refine M0 ?_; first | refine SL ?_ | refine SB fun _ _ => ?_) | (refine XI.id ?_; first | refine XI.done ?_ | refine XI.one1 rfl ?_) | (refine XR'.id ?_; first | refine XR'.seq ?_ | refine XR'.region ?_ | refine XR'.block ?_ | refine XR'.skip ?_ | refine XR'.ret ?_ | refine XR'.cond_t rfl ?_ | refine XR'.cond_f rfl ?_ | refine XR'.exit ?_) | (refine M1 ?_; first | refine SC ?_ | refine SD ?_) | (refine M2 ?_; first | refine XE.nextI ?_ | refine XE.nextR ?_ | refine SE ?_))
    rw [show decide (en < e0) = true from decide_eq_true h2]
    repeat (first | (refine M0 ?_; first | refine SL ?_ | refine SB fun _ _ => ?_) | (refine XI.id ?_; first | refine XI.done ?_ | refine XI.one1 rfl ?_) | (refine XR'.id ?_; first | refine XR'.seq ?_ | refine XR'.region ?_ | refine XR'.block ?_ | refine XR'.skip ?_ | refine XR'.ret ?_ | refine XR'.cond_t rfl ?_ | refine XR'.cond_f rfl ?_ | refine XR'.exit ?_) | (refine M1 ?_; first | refine SC ?_ | refine SD ?_) | (refine M2 ?_; first | refine XE.nextI ?_ | refine XE.nextR ?_ | refine SE ?_))
    refine XE.endR (i := 0) rfl rfl (fun w' S' => ?_)
    simp only [hr3] at S'
    exact hend ⟨some ⟨gn, 0, none⟩, t.m, t.m⟩ (some (en, on)) w' hE S' (.inr rfl)
  · rw [if_neg (fun h => h2 (h.2 rfl))] at hE
    repeat (first | (refine M0 ?_; first | refine SL ?_ | refine SB fun _ _ => ?_) | (refine XI.id ?_; first | refine XI.done ?_ | refine XI.one1 rfl ?_) | (refine XR'.id ?_; first | refine XR'.seq ?_ | refine XR'.region ?_ | refine XR'.block ?_ | refine XR'.skip ?_ | refine XR'.ret ?_ | refine XR'.cond_t rfl ?_ | refine XR'.cond_f rfl ?_ | refine XR'.exit ?_) | (refine M1 ?_; first | refine SC ?_ | refine SD ?_) | (refine M2 ?_; first | refine XE.nextI ?_ | refine XE.nextR ?_ | refine SE ?_))
    rw [show decide (en < e0) = false from decide_eq_false h2]
    repeat (first | (refine M0 ?_; first | refine SL ?_ | refine SB fun _ _ => ?_) | (refine XI.id ?_; first | refine XI.done ?_ | refine XI.one1 rfl ?_) | (refine XR'.id ?_; first | refine XR'.seq ?_ | refine XR'.region ?_ | refine XR'.block ?_ | refine XR'.skip ?_ | refine XR'.ret ?_ | refine XR'.cond_t rfl ?_ | refine XR'.cond_f rfl ?_ | refine XR'.exit ?_) | (refine M1 ?_; first | refine SC ?_ | refine SD ?_) | (refine M2 ?_; first | refine XE.nextI ?_ | refine XE.nextR ?_ | refine SE ?_))
    refine XE.endR (i := 0) rfl rfl (fun w' S' => ?_)
    simp only [hr3] at S'
    refine hend q best w' hE ?_ (.inl rfl)
    simp only [LC, staC, svV]
    rw [← hbs, ← he0]
    exact S'
end Go.Proofs.Ytmckmlmfilmiaaa.X
/-
  The walk of Cheapest (runoff).
-/
namespace Go.Proofs.Ytmckmlmfilmiaaa.X
open Go Go.RowKit Go.Proofs.Ytmckmlmfilmiaaa.Bs
set_option linter.unusedVariables false
def CheJ (v : RTV) (r : SV) (t : RTk) (s : Sta) (j : Nat) (b : List Bool) (ls : Int) (g gt gm : Nat) (ks : List Nat) (w : World) (i : Nat) (z : World × SV × Ch) : Prop :=
  Below w.heap.size w z.1 ∧ Fam z.1 w.heap.size ks [] [hPln g gt gm v r t, hList boolK z.2.1 (chL z.2.2)] ∧ (∀ x, x ∈ ks → x < z.1.heap.size) ∧ z.2.2 = cheB t s j b ls i
theorem cheL_nil : ∀ (W : World) (ok : Nat → Prop), (hList boolK ⟨none, 0, 0⟩ (chL none)).p W ok := fun W ok => ListAt.nil
set_option maxHeartbeats 16000000 in
theorem Cheapest_made {v : RTV} {t : RTk} {sq p : SV} {s : Sta} {i ls : Int} {b : List Bool} {w : World} (ht : TskAt w w.heap.size v t) (hn : t.slu.length + t.pmp.length ≤ 5000000) (hq : IntsAt w (Lt w.heap.size) sq s.fil) (hb : ListAt boolK w (Lt w.heap.size) p b) :
    Calls Try.prog 31 #[tskV v t, staV sq s, .int .i64 i, svV p, .int .i64 ls] w (Made w (CheV t s i b ls)) := by
  have hpn := hb.len (by decide)
  have hb0 := hb
  have hask := fun (w5 : World) (hB : Below w.heap.size w w5) => asked_made (v := v) (t := t) (w := w5) (sq := sq) (s := s) (i := i) (p := p) (n := b.length) (ht.sys (Sys.ofBelow hB)) hn ((hq.keep fun k hk => hB.block k hk).mono fun k hk => Nat.lt_of_lt_of_le hk hB.size) hpn
  have hE : cheE t s i b ls = if askE t s i b.length ≠ 0 then askE t s i b.length else if outB ls 0 10000000 = true then 7 else if (cheB t s i.toNat b ls (2 ^ t.m)).isSome = true then 0 else 9 := rfl
  obtain ⟨Ap, np, cp⟩ := p
  simp only at hpn
  subst hpn
  simp only [tskV, tskC, svV, staV, staC] at hask ⊢
  refine enterM Try.func31 rfl Try.ntmps31 rfl ?_; simp only [frame, Nat.zero_add, Nat.reduceAdd]
  repeat (first | (refine M0 ?_; first | refine SL ?_ | refine SB fun _ _ => ?_) | (refine M1 ?_; refine SC ?_) | (refine M2 ?_; refine SE ?_))
  rename_i g5 hg5 g6 hg6 g7 hg7 g8 hg8 g9 hg9 g10 hg10 g11 hg11
  refine XL.rebase (List.Sublist.refl _) (fun W0 S0 => ?_)
  refine XL.callF (ks := [g11, g10, g9, g8, g7, g6, g5]) (rs := []) (hs := []) (b0 := w.heap.size) (wE := w) (AskV v t s i b.length) (ck rfl) rfl rfl (Fam.start S0.size) (fun k hk => S0.keyLt k hk) S0.toBelow (fun w1 S1 _ hB1 => hask w1 hB1) (fun w2 x new hR hF2 hB2 hk2 => ?_) ZZHL
  rcases hR with ⟨h0, rfl, rfl⟩ | ⟨h0, g, gt, gm, r, rfl, rfl⟩
  · rw [if_pos h0] at hE
    repeat (first | (refine M0 ?_; first | refine SL ?_ | refine SB fun _ _ => ?_) | (refine M1 ?_; refine SC ?_) | (refine M2 ?_; refine SE ?_))
    refine XC.cond _ rfl (fun h1 => ?_) (fun h1 => absurd (by simpa using h1) h0)
    repeat (first | (refine M0 ?_; first | refine SL ?_ | refine SB fun _ _ => ?_) | (refine M1 ?_; refine SC ?_) | (refine M2 ?_; refine SE ?_))
    refine XE.retM0 tok Try.results31 rfl (by simp only [and_self, and_true]) (fun w' S => ?_)
    exact che_no hE h0 (hB2.trans S.toBelow)
  rw [if_neg (by simp [h0])] at hE
  obtain ⟨hr0, hst, hi, hbl⟩ := askE_0 h0
  have ho := rtOk_of hr0
  obtain ⟨j, rfl⟩ : ∃ j : Nat, i = j := ⟨i.toNat, by omega⟩
  have hj : j < t.outer.length := by omega
  rw [Int.toNat_natCast] at hE
  have hp2 : Pln0 w2 _ g gt gm v r t := hF2.held (hPln g gt gm v r t) (.head _)
  obtain ⟨hlg, hc⟩ := plnCell hp2.p
  have hn15 : r.n = t.m := hp2.p.all.len (by decide)
  have c15 : w2.cell? ⟨g, 15, none⟩ = some (.slice r.A r.n r.c) := hc 15 _ rfl
  have hge := hp2.p.kg.1
  have hm4 : t.m ≤ 4 := by have := t.devs_len; unfold RTk.many at this; have := ho.s2; have := ho.p2; unfold RTk.m; omega
  cases h3 : outB ls 0 10000000 with
  | true =>
    rw [h3, if_pos rfl] at hE
    repeat (first | (refine M0 ?_; first | refine SL ?_ | refine SB fun _ _ => ?_ | refine Y4 (Ev.call (f := 42) (ck rfl) rfl (fun w5 S5 => outP h3 w5)) ?_) | (refine M1 ?_; refine SC ?_) | (refine M2 ?_; refine SE ?_))
    refine XE.retM0 tok Try.results31 rfl (by simp only [and_self, and_true]) (fun w' S => ?_)
    exact che_no hE (by decide) (hB2.trans S.toBelow)
  | false =>
  rw [h3, if_neg (by decide)] at hE
  repeat (first | (refine M0 ?_; first | refine SL ?_ | refine SB fun _ _ => ?_ | refine Y4 (Ev.call (f := 42) (ck rfl) rfl (fun w5 S5 => outP h3 w5)) ?_) | (refine M1 ?_; refine SC ?_) | (refine M2 ?_; refine SE ?_))
  rename_i g13 hg13 g14 hg14
  refine XL.callr (fst := []) (cap := []) (fun w1 x w2 => ∃ gp, x = .func (.func 85) #[] #[.pointer (some ⟨gp, 0, none⟩)] ∧ Sys w1.heap.size w1 [(gp, cel 91 [.pointer (some ⟨g, 0, none⟩)])] w2) (ck rfl) rfl rfl rfl (fun w1 S1 => choices_any (g := g) (w := w1)) (fun w1 x w3 S1 hR => ?_)
  obtain ⟨gp, rfl, S2⟩ := hR
  refine ⟨_, w3, (S1.join S2 (List.Sublist.refl _)).rebase (List.sublist_cons_self _ _), ?_⟩
  have hB3 : Below w.heap.size w w3 := hB2.trans (S1.toBelow.trans (S2.toBelow.mono (Nat.le_trans hB2.size S1.size)))
  have hgp0 : w2.heap.size ≤ gp := Nat.le_trans S1.size (S2.own _ (.head _)).1
  have hgpL : ∀ e, e ∈ [(g14, (0 : Nat)), (g13, 0), (g11, 0), (g10, 0), (g9, 0), (g8, 0), (g7, 0), (g6, 0), (g5, 0)] → e.1 < gp := by
    have h1 := (S2.own _ (.head _)).1
    have h2 := S1.keyLt
    intro e he
    have h3 := h2 e.1 (by simp only [List.mem_cons, List.not_mem_nil, or_false] at he; rcases he with rfl | rfl | rfl | rfl | rfl | rfl | rfl | rfl | rfl <;> simp)
    omega
  have hgpc : w3.cell? ⟨gp, 0, none⟩ = some (.pointer (some ⟨g, 0, none⟩)) := by
    have := (S2.own _ (.head _)).2
    simp [World.cell?, this]
  have hgpl : gp < w3.heap.size := S2.lt (.head _)
  have hgL : ∀ e, e ∈ [(g14, (0 : Nat)), (g13, 0), (g11, 0), (g10, 0), (g9, 0), (g8, 0), (g7, 0), (g6, 0), (g5, 0)] → e.1 ≠ g := by
    intro e he e1
    have hlg' : g < w2.heap.size := hlg
    simp only [List.mem_cons, List.not_mem_nil, or_false] at he
    rcases he with rfl | rfl | h
    · simp only at e1; omega
    · simp only at e1; omega
    · refine hge.2.2.1 (List.mem_append_right _ ?_)
      rw [← e1]
      rcases h with rfl | rfl | rfl | rfl | rfl | rfl | rfl <;> simp
  have hF3 : Fam w3 w.heap.size [g14, g13, g11, g10, g9, g8, g7, g6, g5] [] [hPln g gt gm v r t] := ((hF2.call S1 S2.toBelow ZZHL hk2 (new := []) (fun x hx => by cases hx)).1).add fun k hk => by
    left
    refine List.mem_append_left _ ?_
    simp only [List.mem_cons, List.not_mem_nil, or_false] at hk
    rcases hk with rfl | rfl | rfl | rfl | rfl | rfl | rfl | rfl | rfl <;> simp
  have hks3 : ∀ x, x ∈ [g14, g13, g11, g10, g9, g8, g7, g6, g5] → x < w3.heap.size := fun x hx => by
    have := S1.keyLt x (by simp only [List.mem_cons, List.not_mem_nil, or_false] at hx; rcases hx with rfl | rfl | rfl | rfl | rfl | rfl | rfl | rfl | rfl <;> simp)
    exact Nat.lt_of_lt_of_le this S2.size
  have c15' : w3.cell? ⟨g, 15, none⟩ = some (.slice r.A r.n r.c) := by
    obtain ⟨hlg3, hc3⟩ := plnCell (hF3.held (hPln g gt gm v r t) (.head _)).p
    exact hc3 15 _ rfl
  have hlg3 : g < w3.heap.size := Nat.lt_of_lt_of_le hlg (Nat.le_trans S1.size S2.size)
  rw [hn15] at c15'
  clear S1 S2
  repeat (first | (refine M0 ?_; first | refine SL ?_ | refine SB fun _ _ => ?_) | (refine M1 ?_; refine SC ?_) | (refine M2 ?_; refine SE ?_))
  refine XC.rangeFunc (cap := [.pointer (some ⟨gp, 0, none⟩)]) rfl (ck rfl) (fun fn a D w4 hD hf S4 => ?_)
  obtain ⟨o5, ho5⟩ : ∃ o5, o5 = cel 33 (tskC v t) := ⟨_, rfl⟩
  have hfS : Fits 69 [] [(13, .pointer (some ⟨g13, 0, none⟩)), (6, .pointer (some ⟨g6, 0, none⟩)), (7, .pointer (some ⟨g7, 0, none⟩)), (8, .pointer (some ⟨g8, 0, none⟩)), (9, .pointer (some ⟨g9, 0, none⟩)), (10, .pointer (some ⟨g10, 0, none⟩)), (11, .pointer (some ⟨g11, 0, none⟩)), (14, .pointer (some ⟨g14, 0, none⟩))] a := Sub.fits ZZSUB hf
  have hB4 : Below w.heap.size w w4 := hB3.trans S4.toBelow
  have hF4 : Fam w4 w.heap.size (KC (D + 1) D g14 g13 g11 g10 g9 g8 g7 g6 g5) [] [hPln g gt gm v r t, hList boolK ⟨none, 0, 0⟩ (chL none)] := by
    have h1 := (hF3.hold (x := hList boolK ⟨none, 0, 0⟩ (chL none)) (ok := Free w3 w.heap.size _ []) (cheL_nil _ _) (fun j hj => hj)).add (ks' := KC (D + 1) D g14 g13 g11 g10 g9 g8 g7 g6 g5) fun x hx => by
      rcases List.mem_cons.1 hx with rfl | hx
      · right; omega
      rcases List.mem_cons.1 hx with rfl | hx
      · right; omega
      · left; exact hx
    refine Fam.forget (h1.sys S4 ?_) (fun x hx => ?_)
    · intro e he
      left
      have : e.1 ∈ KC (D + 1) D g14 g13 g11 g10 g9 g8 g7 g6 g5 := List.mem_map.2 ⟨e, he, rfl⟩
      exact this
    · rcases List.mem_cons.1 hx with rfl | hx
      · exact .tail _ (.head _)
      · rw [List.mem_singleton.1 hx]; exact .head _
  have hks4 : ∀ x, x ∈ KC (D + 1) D g14 g13 g11 g10 g9 g8 g7 g6 g5 → x < w4.heap.size := fun x hx => S4.keyLt x hx
  have hfar4 : ∀ x, x < w3.heap.size → (∀ e, e ∈ [(g14, (0 : Nat)), (g13, 0), (g11, 0), (g10, 0), (g9, 0), (g8, 0), (g7, 0), (g6, 0), (g5, 0)] → e.1 ≠ x) → ∀ e : Nat × Obj, e.1 ∈ KC (D + 1) D g14 g13 g11 g10 g9 g8 g7 g6 g5 → e.1 ≠ x := fun x h1 h2 e he e1 => by
    rcases List.mem_cons.1 he with h | h
    · omega
    rcases List.mem_cons.1 h with h | h
    · omega
    exact h2 (e.1, 0) (by simpa using h) e1
  have hgpN : ∀ e, e ∈ [(g14, (0 : Nat)), (g13, 0), (g11, 0), (g10, 0), (g9, 0), (g8, 0), (g7, 0), (g6, 0), (g5, 0)] → e.1 ≠ gp := fun e he => by have := hgpL e he; omega
  have hch := chs_any (B := w.heap.size) (l := D + 1) (g := g) (gp := gp) (m := t.m) (c := r.c) (A := r.A) (fun z : World × SV × Ch => LC (D + 1) D g14 g13 g11 g10 g9 g8 g7 g6 g5 (recO fn a.tmps #[36] _ _ D .ready none) o5 g z.2.2 z.2.1 ⟨Ap, b.length, cp⟩ ls j sq s) (fun z => z.1)
    (CheJ v r t s j b ls g gt gm (KC (D + 1) D g14 g13 g11 g10 g9 g8 g7 g6 g5) w) (w4, ⟨none, 0, 0⟩, none) hm4 (by rw [ho5]; exact S4.rebase (List.Sublist.refl _)) ⟨hB4, hF4, hks4, rfl⟩ ?_ ?_ ?_ ?_ ?_ ?_ ?_
  rotate_left
  · have h := S4.farCell (a := ⟨gp, 0, none⟩) hgpl (fun e he => hfar4 gp hgpl hgpN e (List.mem_map.2 ⟨e, he, rfl⟩))
    exact h.trans hgpc
  · have h := S4.farCell (a := ⟨g, 15, none⟩) hlg3 (fun e he => hfar4 g hlg3 hgL e (List.mem_map.2 ⟨e, he, rfl⟩))
    exact h.trans c15'
  · exact Nat.lt_of_lt_of_le hgpl S4.size
  · exact Nat.lt_of_lt_of_le hlg3 S4.size
  · exact fun e he => hfar4 gp hgpl hgpN e (LC_key he)
  · exact fun e he => hfar4 g hlg3 hgL e (LC_key he)
  · rintro i ⟨zW, zq, zb⟩ gn W hi9 hJ hgn SW w1 S1
    obtain ⟨j1, j2, j3, j4⟩ := hJ
    simp only at hgn SW S1 j1 j2 j3 j4
    have hon : ListAt boolK W (Btw zW.heap.size W.heap.size) ⟨some ⟨gn, 0, none⟩, t.m, t.m⟩ (chc t.m i) := boolsAt (SW.own _ (.head _)).2 hgn (chc_len _ _) (by omega)
    have FW := (j2.sys SW (fun e he => by
      rcases List.mem_cons.1 he with rfl | he
      · exact .inr hgn
      · exact .inl (LC_key he))).hold (x := hList boolK ⟨some ⟨gn, 0, none⟩, t.m, t.m⟩ (chc t.m i)) hon (fun j hj => ⟨Nat.le_trans j1.size hj.1, hj.2, fun h => by have := j3 j h; have := hj.1; omega, fun x hx => by cases hx⟩)
    obtain ⟨a1, a2⟩ := che_round (n := 0) (on := chc t.m i) ho hst.vol hj hbl (chc_len _ _) ht hb0 (j1.trans SW.toBelow) FW (fun x hx => Nat.lt_of_lt_of_le (j3 x hx) SW.size) rfl rfl hfS S1
    refine ⟨_, _, _, _, a1, a2.mono fun e w' ⟨u, e1, e2, q', k1, k2⟩ => ⟨u, e1, e2, (w', q', _), ⟨(j1.trans SW.toBelow).trans k2.toBelow, k1, fun x hx => Nat.lt_of_lt_of_le (j3 x hx) (Nat.le_trans SW.size k2.size), ?_⟩, k2.rebase (List.Sublist.refl _)⟩⟩
    simp only
    rw [j4]; rfl
  refine hch.mono fun e w5 ⟨v5, e5, z, hJ, S5⟩ => ⟨v5, e5, .inl ?_⟩
  obtain ⟨zW, zq, zb⟩ := z
  obtain ⟨j1, j2, j3, j4⟩ := hJ
  simp only at S5 j1 j2 j3 j4
  refine ⟨_, zW, S5, ?_⟩
  rw [← j4] at hE
  subst ho5
  have hR : cheR t s (j : Int) b ls = if cheE t s (j : Int) b ls = 0 then zb else none := by unfold cheR; rw [Int.toNat_natCast, ← j4]
  cases zb with
  | none =>
    simp only [staC, svV]
    repeat (first | (refine M0 ?_; first | refine SL ?_ | refine SB fun _ _ => ?_) | (refine M1 ?_; refine SC ?_) | (refine M2 ?_; refine SE ?_))
    refine XE.retM (i := 1) tok Try.results31 rfl rfl rfl (by simp only [and_self, and_true]) (fun w' S => ?_)
    exact che_no hE (by decide) (j1.trans S.toBelow)
  | some y =>
  obtain ⟨en, on⟩ := y
  simp only [staC, svV]
  repeat (first | (refine M0 ?_; first | refine SL ?_ | refine SB fun _ _ => ?_) | (refine M1 ?_; refine SC ?_) | (refine M2 ?_; refine SE ?_))
  have hE0 : cheE t s (j : Int) b ls = 0 := hE
  rw [if_pos hE0] at hR
  refine XC.drawR _ [0, 1] [2, 3, 4] mixed (fun _ h => h) rfl (by kernel_rfl) ?_
  repeat (any_goals (first | (refine M0 ?_; first | refine SL ?_ | refine SB fun _ _ => ?_) | (refine M1 ?_; refine SC ?_) | (refine M2 ?_; refine SE ?_) | (refine M3 ?_; first | refine SG ?_ | refine SF ?_) | (refine M4 ?_; refine SR ?_) | (refine M5 ?_; first | exact M7 | refine YM ?_ | refine YN ?_ ?_)))
  any_goals (repeat (first | exact AnyR.nil | refine AnyR.skip rfl ?_))
  all_goals
    refine XE.retM (i := 1) tok Try.results31 rfl rfl rfl (by simp only [and_self, and_true]) (fun w' S => ?_)
    refine ⟨_, _, rfl, ⟨zq, by rw [hR, hE0]; rfl, rfl⟩, fun x hx => ?_, j1.trans S.toBelow⟩
    rw [List.mem_singleton.1 hx, hR]
    exact (j2.sys S (fun e he => .inl (show e.1 ∈ KC (D + 1) D g14 g13 g11 g10 g9 g8 g7 g6 g5 from List.mem_map.2 ⟨e, he, rfl⟩))).get (x := hList boolK zq (chL (some (en, on)))) (.tail _ (.head _))
end Go.Proofs.Ytmckmlmfilmiaaa.X
/-
  The law RunoffUseful.
-/
namespace Go.Proofs.Ytmckmlmfilmiaaa.Bs
open Go.Proofs.Ytmckmlmfilmiaaa.X
section
variable {t : RTk} {s : Sta} {j : Nat} {b : List Bool} {ls : Int}
end
section
variable {t : RTk} {s : Sta} {i : Int} {b f : List Bool} {ls : Int}
end
end Go.Proofs.Ytmckmlmfilmiaaa.Bs
namespace Go.Proofs.Ytmckmlmfilmiaaa.X
open Go Go.RowKit Go.Proofs.Ytmckmlmfilmiaaa.Bs
set_option linter.unusedVariables false
/-- a turn: where its slices lie, and what it is. -/
structure TrV where
  q : SV
  p : SV
  r : SV
structure Trn where
  s : Sta
  tick : Int
  bef : List Bool
  on : List Bool
  least : Int
def turnC (y : TrV) (x : Trn) : List Value := [.int .i64 x.s.vol, svV y.q, .int .i64 x.tick, svV y.p, svV y.r, .int .i64 x.least]
def turnV (y : TrV) (x : Trn) : Value := .agg ⟨turnC y x⟩
structure TurnAt (w : World) (y : TrV) (x : Trn) : Prop where
  fil : IntsAt w (Lt w.heap.size) y.q x.s.fil
  bef : ListAt boolK w (Lt w.heap.size) y.p x.bef
  on : ListAt boolK w (Lt w.heap.size) y.r x.on
theorem TurnAt.below {w w' : World} {y : TrV} {x : Trn} (h : TurnAt w y x) (hB : Below w.heap.size w w') : TurnAt w' y x :=
  ⟨(h.fil.keep fun k hk => hB.block k hk).mono fun k hk => Nat.lt_of_lt_of_le hk hB.size, (h.bef.keep fun k hk => hB.block k hk).mono fun k hk => Nat.lt_of_lt_of_le hk hB.size, (h.on.keep fun k hk => hB.block k hk).mono fun k hk => Nat.lt_of_lt_of_le hk hB.size⟩
end Go.Proofs.Ytmckmlmfilmiaaa.X
/-
  The walks of Do and Least (runoff).
-/
namespace Go.Proofs.Ytmckmlmfilmiaaa.Bs
open Go.Proofs.Ytmckmlmfilmiaaa.X
/-- the least costs along a plan. -/
noncomputable def RTk.lst (t : RTk) : Nat → Sta → List Bool → Plan → List Int
  | _, _, _, [] => [0]
  | i, s, b, on :: r => fdC (t.rest (t.n - i) s b) :: RTk.lst t (i + 1) (t.doD s i b on).s on r
noncomputable def lstL (t : RTk) (p : Plan) : List Int := if costE t p = 0 then t.lst 0 t.s t.on p else []
noncomputable def folL (t : RTk) (p : Plan) : List Done := if folE t p = 0 then (t.flw 0 t.s t.on p).1 else []
noncomputable def folF (t : RTk) (p : Plan) : Int := if folE t p = 0 then (t.flw 0 t.s t.on p).2 else 0
theorem flw_len {t : RTk} : ∀ {p : Plan} {i : Nat} {s : Sta} {b : List Bool}, (t.flw i s b p).2 = 0 → (t.flw i s b p).1.length = p.length := by
  intro p
  induction p with
  | nil => intro i s b _; rfl
  | cons on r ih =>
    intro i s b h
    obtain ⟨_, h2, h3⟩ := flw_cons h
    rw [h3, List.length_cons, List.length_cons, ih h2]
end Go.Proofs.Ytmckmlmfilmiaaa.Bs
namespace Go.Proofs.Ytmckmlmfilmiaaa.X
open Go Go.RowKit Go.Proofs.Ytmckmlmfilmiaaa.Bs
set_option linter.unusedVariables false
def DoV2 (t : RTk) (p : Plan) (x : Value) (new : List Held) : Prop := ∃ (q : SV) (ds : List (SV × Done)), x = .tuple ⟨[svV q, .int .i64 (folF t p), .int .i64 (folE t p)]⟩ ∧ ds.map (·.2) = folL t p ∧ new = [hList donK q ds]
set_option maxHeartbeats 8000000 in
theorem Do_made {v : RTV} {t : RTk} {pq : SV} {p : Plan} {es : List (SV × List Bool)} {w : World} (ht : TskAt w w.heap.size v t) (hn : t.slu.length + t.pmp.length ≤ 5000000) (hp : ListAt plnK w (Lt w.heap.size) pq es) (hes : es.map (·.2) = p) :
    Calls Try.prog 17 #[tskV v t, svV pq] w (Made w (DoV2 t p)) := by
  have hfol := fun (w5 : World) (hB : Below w.heap.size w w5) => follow_made (v := v) (t := t) (w := w5) (pq := pq) (ht.sys (Sys.ofBelow hB)) hn ((hp.keep fun k hk => hB.block k hk).mono fun k hk => Nat.lt_of_lt_of_le hk hB.size) hes
  simp only [tskV, tskC, svV] at hfol ⊢
  refine enter Try.func17 rfl Try.ntmps17 rfl ?_; simp only [frame, Nat.zero_add, Nat.reduceAdd]
  repeat (first | (refine M0 ?_; first | refine SL ?_ | refine SB fun _ _ => ?_) | (refine M1 ?_; refine SC ?_) | (refine M2 ?_; refine SE ?_))
  rename_i g2 hg2
  refine XL.rebase (List.Sublist.refl _) (fun W0 S0 => ?_)
  refine XL.callF (ks := [g2]) (rs := []) (hs := []) (b0 := w.heap.size) (wE := w) (FolV v t p) (ck rfl) rfl rfl (Fam.start S0.size) (fun k hk => S0.keyLt k hk) S0.toBelow (fun w1 S1 _ hB1 => hfol w1 hB1) (fun w2 x new hR hF2 hB2 hk2 => ?_) ZZHL
  have hE : folE t p = if rtE t ≠ 0 then rtE t else if t.shaped p = false then 2 else 0 := rfl
  have hL : folL t p = if folE t p = 0 then (t.flw 0 t.s t.on p).1 else [] := rfl
  have hF : folF t p = if folE t p = 0 then (t.flw 0 t.s t.on p).2 else 0 := rfl
  have hno : ∀ (e : Int) (w' : World), folE t p = e → e ≠ 0 → Below w.heap.size w w' → Made w (DoV2 t p) (.returned (.tuple ⟨[.slice none 0 0, .int .i64 0, .int .i64 e]⟩)) w' := fun e w' h h0 hB => by
    rw [h, if_neg h0] at hL hF
    refine ⟨_, _, rfl, ⟨⟨none, 0, 0⟩, [], by rw [h, hF]; rfl, by rw [hL]; rfl, rfl⟩, fun x hx => ?_, hB⟩
    rw [List.mem_singleton.1 hx]; exact ListAt.nil
  rcases hR with ⟨h0, rfl, rfl⟩ | ⟨h0, h1, rfl, rfl⟩ | ⟨h0, h1, g, gt, gm, r, q, ds, rfl, hds, rfl⟩
  · rw [if_pos h0] at hE
    repeat (first | (refine M0 ?_; first | refine SL ?_ | refine SB fun _ _ => ?_) | (refine M1 ?_; refine SC ?_) | (refine M2 ?_; refine SE ?_))
    refine XE.retg tok Try.results17 rfl (by simp only [and_self, and_true]) (fun w' S => ?_)
    exact hno _ _ hE h0 (hB2.trans S.toBelow)
  · rw [if_neg (by simp [h0]), if_pos h1] at hE
    repeat (first | (refine M0 ?_; first | refine SL ?_ | refine SB fun _ _ => ?_) | (refine M1 ?_; refine SC ?_) | (refine M2 ?_; refine SE ?_))
    refine XE.retg tok Try.results17 rfl (by simp only [and_self, and_true]) (fun w' S => ?_)
    exact hno _ _ hE (by decide) (hB2.trans S.toBelow)
  · rw [if_neg (by simp [h0]), if_neg (by simp [h1])] at hE
    rw [if_pos hE] at hL hF
    repeat (first | (refine M0 ?_; first | refine SL ?_ | refine SB fun _ _ => ?_) | (refine M1 ?_; refine SC ?_) | (refine M2 ?_; refine SE ?_))
    refine XE.retg tok Try.results17 rfl (by simp only [and_self, and_true]) (fun w' S => ?_)
    refine ⟨_, _, rfl, ⟨q, ds, by rw [hE, hF]; rfl, by rw [hL]; exact hds, rfl⟩, fun x hx => ?_, hB2.trans S.toBelow⟩
    rw [List.mem_singleton.1 hx]
    exact (hF2.sys S ZZHL).get (x := hList donK q ds) (.head _)
section
variable {w : World} {ok : Nat → Prop} {gm : Nat} {kvs : List (Value × Value)}
theorem ReadsP.ne {m n : Nat} {A : Option Addr} {xs : List Value} (h : ReadsP w ok m A n xs) (hm : w.heap[gm]? = some (mapO kvs)) (h0 : 0 < m) : ReadsP w (fun j => ok j ∧ j ≠ gm) m A n xs :=
  ⟨h.len, fun hn => by
    obtain ⟨ad, e, h1, h2⟩ := h.at_ hn
    refine ⟨ad, e, ⟨h1, fun e1 => ?_⟩, h2⟩
    have hx : 0 < xs.length := by rw [h.len]; exact Nat.mul_pos hn h0
    have h3 := h2 0 _ (List.getElem?_eq_getElem hx)
    unfold World.cell? at h3
    rw [add_block, e1, hm] at h3
    cases h3⟩
theorem IntsAt.ne {q : SV} {l : List Int} (h : IntsAt w ok q l) (hm : w.heap[gm]? = some (mapO kvs)) : IntsAt w (fun j => ok j ∧ j ≠ gm) q l := ⟨h.rd.ne hm (by decide), h.max⟩
theorem dons_ne {q : SV} {ds : List (SV × Done)} (h : ListAt donK w ok q ds) (hm : w.heap[gm]? = some (mapO kvs)) : ListAt donK w (fun j => ok j ∧ j ≠ gm) q ds :=
  ⟨h.rd.ne hm (by decide), h.max, fun a ha x hx => by
    have h1 := h.ins a ha x hx
    rw [List.mem_singleton.1 hx] at h1 ⊢
    exact IntsAt.ne h1 hm⟩
end
/-- the planner, behind calls that changed what is known. -/
def hPA (g gt gm : Nat) (v : RTV) (r : SV) (t : RTk) : Held := ⟨fun w ok => PlnAt w ok g gt gm v r t, fun h hk => h.keep hk, fun h hk => h.mono hk⟩
/-- what is known, behind gm. -/
def hMemG (gm : Nat) (t : RTk) (kvs : List (Value × Value)) : Held := ⟨fun w ok => (hMem t kvs).p w (fun j => gm ≤ j ∧ ok j), fun h hk => (hMem t kvs).keep h fun k hj => hk k hj.2, fun h hk => (hMem t kvs).mono h fun k hj => ⟨hj.1, hk k hj.2⟩⟩
structure LsSt where
  k : Nat
  W : World
  rl : SV
  sq : SV
  bq : SV
  s : Sta
  b : List Bool
  l : List Int
  kvs : List (Value × Value)
structure LsInv (w : World) (v : RTV) (t : RTk) (p : Plan) (ks : List Nat) (g gt gm : Nat) (r q : SV) (ds : List (SV × Done)) (z : LsSt) : Prop where
  le : z.k ≤ p.length
  bel : Below w.heap.size w z.W
  fam : Fam z.W w.heap.size ks [⟨Int, winK, svV z.rl, z.l⟩] [hMix w z.sq z.s.fil, hPA g gt gm v r t, hList donK q ds, hMemG gm t z.kvs]
  lt : ∀ x, x ∈ ks → x < z.W.heap.size
  keys : KeysOk Try.prog 150 z.kvs
  bef : ListAt boolK w (Lt w.heap.size) z.bq z.b
  bl : z.b.length = t.m
  sta : StaOk t.b z.s
  one : t.flw z.k z.s z.b (p.drop z.k) = ((ds.map (·.2)).drop z.k, 0)
  lst : z.l ++ t.lst z.k z.s z.b (p.drop z.k) = t.lst 0 t.s t.on p
  len : z.l.length = z.k
def LstV (t : RTk) (p : Plan) (x : Value) (new : List Held) : Prop := ∃ q : SV, x = .tuple ⟨[svV q, .int .i64 (costE t p)]⟩ ∧ new = [hInts q (lstL t p)]
theorem lst_no {t : RTk} {p : Plan} {e : Int} (h : costE t p = e) (h0 : e ≠ 0) {w w' : World} (hB : Below w.heap.size w w') : Made w (LstV t p) (.returned (.tuple ⟨[.slice none 0 0, .int .i64 e]⟩)) w' :=
  ⟨_, _, rfl, ⟨⟨none, 0, 0⟩, by rw [h]; rfl, rfl⟩, fun x hx => by
    rw [List.mem_singleton.1 hx]; unfold lstL; rw [h, if_neg h0]; exact IntsAt.nil, hB⟩
set_option maxHeartbeats 16000000 in
theorem Least_made {v : RTV} {t : RTk} {pq : SV} {p : Plan} {es : List (SV × List Bool)} {w : World} (ht : TskAt w w.heap.size v t) (hn : t.slu.length + t.pmp.length ≤ 5000000) (hp : ListAt plnK w (Lt w.heap.size) pq es) (hes : es.map (·.2) = p) :
    Calls Try.prog 22 #[tskV v t, svV pq] w (Made w (LstV t p)) := by
  have hfol := fun (w5 : World) (hB : Below w.heap.size w w5) => follow_made (v := v) (t := t) (w := w5) (pq := pq) (ht.sys (Sys.ofBelow hB)) hn ((hp.keep fun k hk => hB.block k hk).mono fun k hk => Nat.lt_of_lt_of_le hk hB.size) hes
  obtain ⟨Ap, np, cp⟩ := pq
  have lp := hp.len (by decide)
  simp only at lp
  subst lp
  have hpl : es.length = p.length := by have := congrArg List.length hes; simpa using this
  have hC : costE t p = if rtE t ≠ 0 then rtE t else if t.shaped p = false then 2 else (t.flw 0 t.s t.on p).2 := rfl
  simp only [tskV, tskC, svV] at hfol ⊢
  refine enter Try.func22 rfl Try.ntmps22 rfl ?_; simp only [frame, Nat.zero_add, Nat.reduceAdd]
  repeat (first | (refine M0 ?_; first | refine SL ?_ | refine SB fun _ _ => ?_) | (refine M1 ?_; refine SC ?_) | (refine M2 ?_; refine SE ?_))
  rename_i g2 hg2
  refine XL.rebase (List.Sublist.refl _) (fun W0 S0 => ?_)
  refine XL.callF (ks := [g2]) (rs := []) (hs := []) (b0 := w.heap.size) (wE := w) (FolV v t p) (ck rfl) rfl rfl (Fam.start S0.size) (fun k hk => S0.keyLt k hk) S0.toBelow (fun w1 S1 _ hB1 => hfol w1 hB1) (fun w2 x new hR hF2 hB2 hk2 => ?_) ZZHL
  rcases hR with ⟨h0, rfl, rfl⟩ | ⟨h0, h1, rfl, rfl⟩ | ⟨h0, h1, g, gt, gm, r, q, ds, rfl, hds, rfl⟩
  · rw [if_pos h0] at hC
    repeat (first | (refine M0 ?_; first | refine SL ?_ | refine SB fun _ _ => ?_) | (refine M1 ?_; refine SC ?_) | (refine M2 ?_; refine SE ?_))
    rw [show decide (rtE t = 0) = false from decide_eq_false h0]
    repeat (first | (refine M0 ?_; first | refine SL ?_ | refine SB fun _ _ => ?_) | (refine M1 ?_; refine SC ?_) | (refine M2 ?_; refine SE ?_))
    rw [show decide (rtE t ≠ 0) = true from decide_eq_true h0]
    repeat (first | (refine M0 ?_; first | refine SL ?_ | refine SB fun _ _ => ?_) | (refine M1 ?_; refine SC ?_) | (refine M2 ?_; refine SE ?_))
    refine XE.retg tok Try.results22 rfl (by simp only [and_self, and_true]) (fun w' S => ?_)
    exact lst_no hC h0 (hB2.trans S.toBelow)
  · rw [if_neg (by simp [h0]), if_pos h1] at hC
    repeat (first | (refine M0 ?_; first | refine SL ?_ | refine SB fun _ _ => ?_) | (refine M1 ?_; refine SC ?_) | (refine M2 ?_; refine SE ?_))
    refine XE.retg tok Try.results22 rfl (by simp only [and_self, and_true]) (fun w' S => ?_)
    exact lst_no hC (by decide) (hB2.trans S.toBelow)
  rw [if_neg (by simp [h0]), if_neg (by simp [h1])] at hC
  have ho := rtOk_of h0
  obtain ⟨hsl, hrow⟩ := shaped_len h1
  have hn6 : t.n ≤ 6 := ho.n6
  have hm4 : t.m ≤ 4 := by have := t.devs_len; unfold RTk.many at this; have := ho.s2; have := ho.p2; unfold RTk.m; omega
  obtain ⟨E, hE⟩ : ∃ E, E = (t.flw 0 t.s t.on p).2 := ⟨_, rfl⟩
  rw [← hE] at hC ⊢
  repeat (first | (refine M0 ?_; first | refine SL ?_ | refine SB fun _ _ => ?_) | (refine M1 ?_; refine SC ?_) | (refine M2 ?_; refine SE ?_))
  refine XC.cond _ rfl (fun h2 => ?_) (fun h2 => ?_)
  · repeat (first | (refine M0 ?_; first | refine SL ?_ | refine SB fun _ _ => ?_) | (refine M1 ?_; refine SC ?_) | (refine M2 ?_; refine SE ?_))
    refine XE.retg tok Try.results22 rfl (by simp only [and_self, and_true]) (fun w' S => ?_)
    exact lst_no hC (by simpa using h2) (hB2.trans S.toBelow)
  have hE0 : E = 0 := by simpa using h2
  subst hE0
  have hP0 : Pln0 w2 _ g gt gm v r t := hF2.held (hPln g gt gm v r t) (.tail _ (.head _))
  have hkm := hP0.km
  have hgm : w.heap.size ≤ gm ∧ gm < w2.heap.size := ⟨hkm.1, hkm.2.1⟩
  have hg2m : g2 ≠ gm := fun e => hkm.2.2.1 (by rw [e]; simp)
  repeat (first | (refine M0 ?_; first | refine SL ?_ | refine SB fun _ _ => ?_) | (refine M1 ?_; refine SC ?_) | (refine M2 ?_; refine SE ?_))
  refine XC.grab hP0.hm hgm.1 (fun e he => by rw [List.mem_singleton.1 he]; exact hg2m) (fun W3 S3 => ?_)
  have hfr : ∀ j, Free w2 w.heap.size ([g2] ++ [g2]) [] j → j ≠ gm → Free w2 w.heap.size [gm, g2] [] j := fun j hj hne => ⟨hj.1, hj.2.1, fun h => by
    rcases List.mem_cons.1 h with h | h
    · exact hne h
    · exact hj.2.2.1 (List.mem_append_right _ h), fun x hx => by cases hx⟩
  have F2 : Fam w2 w.heap.size [gm, g2] [] [hPA g gt gm v r t, hList donK q ds, hMemG gm t []] := (((Fam.start hB2.size).hold (x := hMemG gm t []) (ok := fun _ => False) hMem_nil (fun j hj => hj.elim)).hold (x := hList donK q ds) (ok := fun j => Free w2 w.heap.size ([g2] ++ [g2]) [] j ∧ j ≠ gm) (dons_ne (hF2.held (hList donK q ds) (.head _)) hP0.hm) (fun j hj => hfr j hj.1 hj.2)).hold (x := hPA g gt gm v r t) (ok := Ng gm (Free w2 w.heap.size ([g2] ++ [g2]) [])) hP0.p (fun j hj => hfr j hj.1 hj.2)
  have F3 := F2.sys S3 (fun e he => .inl (.tail _ (by rw [List.mem_singleton.1 he]; exact .head _)))
  have hk3 : ∀ k, k ∈ [gm, g2] → k < W3.heap.size := fun k hk => by
    rcases List.mem_cons.1 hk with rfl | hk
    · exact Nat.lt_of_lt_of_le hgm.2 S3.size
    · rw [List.mem_singleton.1 hk]; exact S3.lt (e := (g2, _)) (.head _)
  have hB3 := hB2.trans S3.toBelow
  have hgm3 : w.heap.size ≤ gm ∧ gm < W3.heap.size := ⟨hgm.1, hk3 gm (.head _)⟩
  clear F2 hF2 hk2 hB2 S3 S0 hfr
  refine XC.cutn [1, 2, 4, 6, 7] rfl (fun g9 : Nat => [(9, .pointer (some ⟨g9, 0, none⟩)), (10, .slice v.on.A v.on.n v.on.c)]) (fun g9 => [(g9, cel 28 [.int .i64 t.s.vol, .slice v.q.A v.q.n v.q.c]), (gm, mapO []), (g2, cel 33 (tskC v t))]) (fun _ => W3) (fun g9 => W3.heap.size ≤ g9) ?_ (fun g9 hg9 => ?_)
  · refine XC.drawR _ [0, 1, 2, 3] [4, 5, 6] mixed (fun _ h => h) rfl (by kernel_rfl) ?_
    repeat (any_goals (first | (refine M0 ?_; first | refine SL ?_ | refine SB fun _ _ => ?_) | (refine M1 ?_; refine SC ?_) | (refine M2 ?_; refine SE ?_) | (refine M3 ?_; first | refine SG ?_ | refine SF ?_) | (refine M4 ?_; refine SR ?_) | (refine M5 ?_; first | exact M7 | refine YM ?_ | refine YN ?_ ?_)))
    any_goals (repeat (first | exact AnyR.nil | refine AnyR.skip rfl ?_))
    all_goals exact XE.leaf _ ZZSUB (fun _ S' => by first | exact S' | exact S'.perm (by repeat (first | exact List.Perm.refl _ | refine perm1 ?_ | refine List.Perm.cons _ ?_ | refine perm2 ?_)) | exact (S'.pop (by assumption)) | exact (S'.pop2 (by assumption))) (by assumption)
  refine XC.rebase (List.Sublist.refl _) (fun W1 S1 => ?_)
  have F1 : Fam W1 w.heap.size [g9, gm, g2] [] [hPA g gt gm v r t, hList donK q ds, hMemG gm t []] := (Fam.atEnd F3 S1 ZZHL).add (fun k hk => by left; simp only [List.mem_cons, List.not_mem_nil, or_false] at hk; simp only [List.map_cons, List.map_nil, List.mem_append, List.mem_cons, List.not_mem_nil, or_false]; omega)
  have hk1 : ∀ k, k ∈ [g9, gm, g2] → k < W1.heap.size := fun k hk => S1.keyLt k hk
  have hB1 := hB3.trans S1.toBelow
  have hgm1 : w.heap.size ≤ gm := hgm.1
  have F1' := (F1.hold (x := hMix w v.q t.s.fil) (ok := fun _ => False) (.inl ht.fil) (fun _ h => h.elim)).nil winK
  clear F1 S1 F3 hB3 hk3 hgm3
  have hfl : (t.flw 0 t.s t.on p).1.length = p.length := flw_len hE.symm
  have hdl : ds.length = p.length := by rw [← hfl, ← hds]; simp
  have hone0 : t.flw 0 t.s t.on (p.drop 0) = ((ds.map (·.2)).drop 0, 0) := by
    rw [List.drop_zero, List.drop_zero, hds]
    exact Prod.ext rfl hE.symm
  obtain ⟨Aq, nq, cq⟩ := q
  have hlq : ListAt donK W1 _ ⟨Aq, nq, cq⟩ ds := F1'.held (hList donK ⟨Aq, nq, cq⟩ ds) (by simp)
  have hlnq := hlq.len (by decide)
  simp only at hlnq
  subst hlnq
  clear hlq
  simp only [svV]
  refine XC.hint 9 2 ?_
  repeat (first | (refine M0 ?_; first | refine SL ?_ | refine SB fun _ _ => ?_) | (refine M1 ?_; refine SC ?_) | (refine M2 ?_; refine SE ?_))
  refine XC.loopk [1, 6, 9, 31, 32] rfl (fun z : LsSt => [(33, .int .i64 (z.k : Nat)), (4, svV z.rl), (10, svV z.bq)]) (fun z => [(g9, cel 28 (staC z.sq z.s)), (gm, mapO z.kvs), (g2, cel 33 (tskC v t))]) (fun z => z.W) (LsInv w v t p [g9, gm, g2] g gt gm r ⟨Aq, ds.length, cq⟩ ds) (fun z => p.length - z.k) ⟨0, W1, ⟨none, 0, 0⟩, v.q, v.on, t.s, t.on, [], []⟩ ⟨Nat.zero_le _, hB1, F1', hk1, KeysOk.nil, ht.on, ho.on, ho.sta, hone0, by rw [List.drop_zero]; rfl, rfl⟩ ZZSUB (fun _ h => h) ?_
  rintro ⟨k, W, rl, sq, bq, s, b, l, kvs⟩ ⟨hk, hBW, hFW, hkW, hkeys, hbef, hbl, hsta, hone, hlst, hlen⟩
  simp only at hk hBW hFW hkW hkeys hbef hbl hsta hone hlst hlen
  simp only [staC, svV]
  dsimp only [List.cons_append, List.nil_append]
  repeat (first | (refine M0 ?_; first | refine SL ?_ | refine SB fun _ _ => ?_) | (refine M1 ?_; refine SC ?_) | (refine M2 ?_; refine SE ?_))
  refine XC.cond _ rfl (fun h3 => ?_) (fun h3 => ?_)
  rotate_left
  · have hkn : k = p.length := by have := of_decide_eq_false h3; omega
    subst hkn
    rw [List.drop_length] at hlst
    have hl6 : l.length ≤ 6 := by omega
    repeat (first | (refine M0 ?_; first | refine SL ?_ | refine SB fun _ _ => ?_ | refine XL.buildSlice tok rfl rfl rfl rfl rfl rfl rfl rfl rfl (fun _ _ => ?_)) | (refine M1 ?_; refine SC ?_) | (refine M2 ?_; refine SE ?_))
    refine XL.push (K := winK) (a := 0) (wE := w) 0 ints_el6 (by decide) rfl rfl rfl hFW rfl hkW hBW (Nat.le_refl _) rfl (by omega) (by decide) (fun x hx => by cases hx) (fun w7 v7 hF7 hB7 hk7 => ?_)
    obtain ⟨r7, rfl, hn7⟩ := hF7.sv (K := winK) (l := l ++ [0]) (.head _)
    simp only [svV]
    repeat (first | (refine M0 ?_; first | refine SL ?_ | refine SB fun _ _ => ?_) | (refine M1 ?_; refine SC ?_) | (refine M2 ?_; refine SE ?_))
    refine XE.retg tok Try.results22 rfl (by simp only [and_self, and_true]) (fun w' S => ?_)
    have F9 := Fam.freeze (hF7.sys S ZZHL)
    refine ⟨_, _, rfl, ⟨r7, by rw [hC]; rfl, rfl⟩, fun x hx => ?_, hB7.trans S.toBelow⟩
    rw [List.mem_singleton.1 hx]
    unfold lstL
    rw [if_pos hC, ← hlst]
    exact winInts (F9.get (x := hList winK r7 (l ++ [0])) (.head _))
  have hkn : k < p.length := by have := of_decide_eq_true h3; omega
  have hke : k < es.length := by omega
  have hkd : k < ds.length := by omega
  have hpk : p[k] = es[k].2 := by simp [← hes]
  have hdrop : p.drop k = es[k].2 :: p.drop (k + 1) := by rw [List.drop_eq_getElem_cons hkn, hpk]
  rw [hdrop] at hone hlst
  obtain ⟨ap, rfl, hlp⟩ := hp.addr (by decide) (by omega)
  have hcell := hp.elem (List.getElem?_eq_getElem hke) 0 (svV es[k].1) rfl
  rw [add_add, Nat.add_zero] at hcell
  have hon : ListAt boolK w (Lt w.heap.size) es[k].1 es[k].2 := hp.ins es[k] (List.getElem_mem hke) (hList boolK es[k].1 es[k].2) (.head _)
  have honl : es[k].2.length = t.m := hrow _ (by rw [← hpk]; exact List.getElem_mem hkn)
  obtain ⟨oq, hoq⟩ : ∃ oq, oq = es[k].1 := ⟨_, rfl⟩
  obtain ⟨on, hon'⟩ : ∃ on, on = es[k].2 := ⟨_, rfl⟩
  rw [← hoq] at hcell hon
  rw [← hon'] at hone hlst hon honl
  have hnn : t.n = t.outer.length := rfl
  have hi : k < t.outer.length := by omega
  obtain ⟨hd0, hd1, hd2⟩ := flw_cons (t := t) (by rw [hone])
  have hdd : (ds.map (·.2)).drop k = ds[k].2 :: (ds.map (·.2)).drop (k + 1) := by
    rw [List.drop_eq_getElem_cons (by simpa using hkd)]; simp
  rw [hone, hdd] at hd2
  obtain ⟨⟨q1, d1⟩, hqd⟩ : ∃ z, z = ds[k] := ⟨_, rfl⟩
  rw [← hqd] at hd2
  simp only [List.cons.injEq] at hd2
  obtain ⟨hd3, hd4⟩ := hd2
  rw [← hd3] at hd1 hd4
  obtain ⟨hsta', _, _, _⟩ := do_sta ho hsta hi hd0
  rw [← hd3] at hsta'
  have hlq : ListAt donK W _ ⟨Aq, ds.length, cq⟩ ds := hFW.held (hList donK ⟨Aq, ds.length, cq⟩ ds) (by simp)
  obtain ⟨aq, haq, hfl⟩ := hlq.addr (by decide) (by omega)
  subst haq
  have hel := hlq.elem (List.getElem?_eq_getElem hkd)
  rw [← hqd] at hel
  have hel' : ∀ j u, ([.int .i64 d1.s.vol, .slice q1.A q1.n q1.c, .int .i64 d1.out, .int .i64 d1.energy, .int .i64 d1.cost] : List Value)[j]? = some u → W.cell? ((aq.add (k * 5)).add j) = some u := hel
  repeat (first | (refine M0 ?_; first | refine SL ?_ | refine SB fun _ _ => ?_ | refine Y4 (Ev.load_far_agg tok [.int .i64 d1.s.vol, .slice q1.A q1.n q1.c, .int .i64 d1.out, .int .i64 d1.energy, .int .i64 d1.cost] rfl rfl rfl (by rw [add_block]; exact hfl.2.1) (Free.far hfl (by intro e he; left; exact (show e.1 ∈ [g9, gm, g2] from List.mem_map.2 ⟨e, he, rfl⟩))) hel') ?_) | (refine M1 ?_; refine SC ?_) | (refine M2 ?_; refine SE ?_))
  rename_i g12 hg12
  have hgW : gm < W.heap.size := hkW gm (by simp)
  have hk' : t.n - (t.n - k) = k := by omega
  obtain ⟨ks2, hks2⟩ : ∃ ks2, ks2 = [g12, g9, gm, g2] ++ (svV rl).ownBlock.toList := ⟨_, rfl⟩
  have hFA := hFW.add (ks' := [g12, g9, gm, g2]) (fun x hx => by
    rcases List.mem_cons.1 hx with rfl | hx
    · exact .inr hg12
    · exact .inl hx)
  have hin2 : ∀ j, j ∉ ks2 → j ∉ [g12, g9, gm, g2] ∧ (svV rl).ownBlock ≠ some j := fun j hj => ⟨fun h => hj (by rw [hks2]; exact List.mem_append_left _ h), fun h => hj (by rw [hks2, h]; simp)⟩
  refine XL.callr (fst := []) (cap := []) (fun w4 x w5 => RestR t gm (t.n - k) ks2 kvs s b w4 x w5) (ck rfl) rfl rfl rfl (fun w4 S4 => ?_) (fun w4 x w5 S4 hR => ?_)
  · have F4 := hFA.sys S4 (fun e he => .inl (show e.1 ∈ [g12, g9, gm, g2] from List.mem_map.2 ⟨e, he, rfl⟩))
    have B4 := hBW.trans S4.toBelow
    have hgm4 : gm < w4.heap.size := Nat.lt_of_lt_of_le hgW S4.size
    have hre := rest_any (v := v) (r := r) (g := g) (gt := gt) (gm := gm) ho (chk_rt h0) (t.n - k) (Nat.sub_le _ _) (w := w4) (ks := ks2) (kvs := kvs) (sq := sq) (p := bq) (s := s) (b := b)
      ((F4.held (hPA g gt gm v r t) (by simp)).mono fun j hj => ⟨hj.2.1, fun e => hj.2.2.1 (by rw [e]; simp)⟩) ((ht.below B4).more hgm1) (S4.own (gm, mapO kvs) (by simp)).2
      ((Fam.start (Nat.le_of_lt hgm4)).hold (x := hMem t kvs) (ok := fun j => gm ≤ j ∧ Free w4 w.heap.size [g12, g9, gm, g2] _ j) (F4.held (hMemG gm t kvs) (by simp)) (fun j hj => ⟨hj.1, hj.2.2.1, fun h => by
        rw [hks2] at h
        rcases List.mem_append.1 h with h | h
        · exact hj.2.2.2.1 h
        · exact hj.2.2.2.2 _ (.head _) (by simpa using h), fun x hx => by cases hx⟩)) (by rw [hks2]; simp) (fun x hx => by
        rw [hks2] at hx
        rcases List.mem_append.1 hx with h | h
        · exact S4.keyLt x h
        · exact (F4.lt (.head _) (by simpa using h)).2) hkeys hsta hbl
      (by
        rcases F4.held (hMix w sq s.fil) (.head _) with h | h
        · exact (h.keep fun j hj => B4.block j hj).mono fun j hj => ⟨Nat.lt_of_lt_of_le hj B4.size, fun e => by have hj' : j < w.heap.size := hj; omega⟩
        · exact h.mono fun j hj => ⟨hj.2.1, fun e => hj.2.2.1 (by rw [e]; simp)⟩)
      ((hbef.keep fun j hj => B4.block j hj).mono fun j hj => ⟨Nat.lt_of_lt_of_le hj B4.size, fun e => by have hj' : j < w.heap.size := hj; omega⟩)
    rw [hk'] at hre
    exact hre
  obtain ⟨q5, new, rfl, S5, F5, hkeys5, _⟩ := hR
  have F4 := hFA.sys S4 (fun e he => .inl (show e.1 ∈ [g12, g9, gm, g2] from List.mem_map.2 ⟨e, he, rfl⟩))
  have S5' := S4.turned 2 rfl rfl S5
  refine ⟨_, w5, S5'.rebase (List.Sublist.refl _), ?_⟩
  have B5 := hBW.trans S5'.toBelow
  have F6 := (F4.sys S5 (fun e he => .inl (by rw [List.mem_singleton.1 he]; simp))).hold (x := hMemG gm t (kvs ++ new)) (ok := Free w5 gm ks2 []) ((hMem t (kvs ++ new)).mono (F5.held (hMem t (kvs ++ new)) (.head _)) fun j hj => ⟨hj.1, hj⟩) (fun j hj => ⟨Nat.le_trans hgm1 hj.1, hj.2.1, (hin2 j hj.2.2.1).1, fun x hx => by rw [List.mem_singleton.1 hx]; exact (hin2 j hj.2.2.1).2⟩)
  have hk5 : ∀ x, x ∈ [g12, g9, gm, g2] → x < w5.heap.size := fun x hx => S5'.keyLt x hx
  clear F4 S5' F5 S5 S4 hFA hkW
  obtain ⟨co, hco⟩ : ∃ co, co = fdC (t.rest (t.n - k) s b) := ⟨_, rfl⟩
  simp only [tailV, tailC]
  rw [← hco]
  have hl6 : l.length ≤ 6 := by omega
  repeat (first | (refine M0 ?_; first | refine SL ?_ | refine SB fun _ _ => ?_ | refine XL.buildSlice tok rfl rfl rfl rfl rfl rfl rfl rfl rfl (fun _ _ => ?_)) | (refine M1 ?_; refine SC ?_) | (refine M2 ?_; refine SE ?_))
  refine XL.push (K := winK) (a := co) (wE := w) 0 ints_el6 (by decide) rfl rfl rfl F6 rfl hk5 B5 (Nat.le_refl _) rfl (by omega) (by decide) (fun x hx => by cases hx) (fun w7 v7 hF7 hB7 hk7 => ?_)
  obtain ⟨r7, rfl, hn7⟩ := hF7.sv (K := winK) (l := l ++ [co]) (.head _)
  simp only [svV]
  repeat (first | (refine M0 ?_; first | refine SL ?_ | refine SB fun _ _ => ?_) | (refine M1 ?_; refine SC ?_) | (refine M2 ?_; refine SE ?_))
  refine XC.drawRS _ [(g12, cel 82 [.int .i64 d1.s.vol, .slice q1.A q1.n q1.c, .int .i64 d1.out, .int .i64 d1.energy, .int .i64 d1.cost])] [0, 1, 2, 3, 4, 5] [6, 7] mixed (fun _ h => Sys.anchor2 (by assumption) h ZZSM) rfl (by kernel_rfl) ?_
  repeat (any_goals (first | (refine M0 ?_; first | refine SL ?_ | refine SB fun _ _ => ?_ | refine Y4 (Ev.load_old tok rfl rfl (add_lt hlp) hcell) ?_) | (refine M1 ?_; refine SC ?_) | (refine M2 ?_; refine SE ?_) | (refine M3 ?_; first | refine SG ?_ | refine SF ?_ | refine YF (Ev.load_old tok rfl rfl (add_lt hlp) hcell) ?_) | (refine M4 ?_; refine SR ?_) | (refine M5 ?_; first | exact M7 | refine YM ?_ | refine YN ?_ ?_)))
  any_goals (repeat (first | exact AnyR.nil | refine AnyR.skip rfl ?_))
  all_goals
    refine XE.roundW (s := LsSt.mk k W rl sq bq s b l kvs) (fun w8 S8 => ⟨LsSt.mk (k + 1) w8 r7 q1 oq d1.s on (l ++ [co]) (kvs ++ new), ⟨hkn, hB7.trans S8.toBelow, ?_, fun x hx => S8.keyLt x (by simp only [List.map_cons, List.map_nil, List.mem_cons, List.not_mem_nil, or_false] at hx ⊢; omega), hkeys5, hon, honl, hsta', ?_, ?_, by simp [hlen]⟩, by simp only; omega, ZZSUB, S8.rebase ZZSL⟩)
    · have F8 := (hF7.sys S8 ZZHL).add (ks' := [g9, gm, g2]) (fun x hx => .inl (List.mem_append_right _ (.tail _ hx)))
      have h9 := F8.held (hList donK ⟨some aq, ds.length, cq⟩ ds) (by simp)
      have h8 : IntsAt w8 _ q1 d1.s.fil := h9.ins (q1, d1) (by rw [hqd]; exact List.getElem_mem hkd) (hInts q1 d1.s.fil) (.head _)
      refine Fam.forget (F8.hold (x := hMix w q1 d1.s.fil) (ok := Free w8 w.heap.size [g9, gm, g2] _) (.inr h8) (fun j hj => hj)) (fun x hx => ?_)
      simp only [List.mem_cons, List.not_mem_nil, or_false] at hx ⊢
      rcases hx with rfl | rfl | rfl | rfl <;> simp
    · exact Prod.ext hd4.symm hd1
    · rw [← hlst]
      simp only [RTk.lst, List.append_assoc, List.cons_append, List.nil_append]
      rw [← hco, ← hd3]
end Go.Proofs.Ytmckmlmfilmiaaa.X
/-
  The walks of the document's exact and use (runoff).
-/
namespace Go.Proofs.Ytmckmlmfilmiaaa.Bs
open Go.Proofs.Ytmckmlmfilmiaaa.X
section
variable {n d o : Int} {ds : List Dev} {b f : List Bool} {k : Nat} {p : Int × Int}
theorem use_slu_no {x : Slu} (h : useTo n d o ds b f k = some p) (hd : ds[k]? = some (.slu x)) (h1 : bl f k = true) (h2 : n ≤ o * d) : useTo n d o ds b f (k + 1) = none := by
  rw [useTo_on h h1, hd]
  simp only [Option.getD_some, Dev.flow]
  rw [if_pos (by omega)]
theorem use_slu_on {x : Slu} (h : useTo n d o ds b f k = some p) (hd : ds[k]? = some (.slu x)) (h1 : bl f k = true) (h2 : ¬ n ≤ o * d) : useTo n d o ds b f (k + 1) = some (p.1 + (x.width * (n - o * d)).tdiv d, p.2 + if bl b k = true then 0 else x.move) := by
  rw [useTo_on h h1, hd]
  simp only [Option.getD_some, Dev.flow, Dev.energy]
  rw [if_neg (by omega)]
theorem use_slu_off {x : Slu} (h : useTo n d o ds b f k = some p) (hd : ds[k]? = some (.slu x)) (h1 : bl f k = false) : useTo n d o ds b f (k + 1) = some (p.1, p.2 + if bl b k = false then 0 else x.move) := by
  rw [useTo_off h h1, hd]
  simp only [Option.getD_some, Dev.energy]
theorem use_pmp_off {x : Pmp} (h : useTo n d o ds b f k = some p) (hd : ds[k]? = some (.pmp x)) (h1 : bl f k = false) : useTo n d o ds b f (k + 1) = some p := by
  rw [useTo_off h h1, hd]
  simp only [Option.getD_some, Dev.energy]
  simp
def liftE (n d o : Int) (x : Pmp) : Int := if n < o * d then (x.lift * (o * d - n) + d - 1).tdiv d else 0
theorem use_pmp_on {x : Pmp} (hd1 : 1 ≤ d) (h : useTo n d o ds b f k = some p) (hd : ds[k]? = some (.pmp x)) (h1 : bl f k = true) : useTo n d o ds b f (k + 1) = some (p.1 + x.rate, p.2 + (x.base + liftE n d o x + if bl b k = true then 0 else x.start)) := by
  rw [useTo_on h h1, hd]
  simp only [Option.getD_some, Dev.flow, Dev.energy]
  have e : (x.lift * max 0 (-(n - o * d)) + d - 1).tdiv d = liftE n d o x := by
    unfold liftE
    split
    · rename_i h2
      rw [show max 0 (-(n - o * d)) = o * d - n by omega]
    · rename_i h2
      rw [show max 0 (-(n - o * d)) = 0 by omega, Int.mul_zero]
      exact Int.tdiv_eq_zero_of_lt (by omega) (by omega)
  rw [e]
  simp
end
end Go.Proofs.Ytmckmlmfilmiaaa.Bs
namespace Go.Proofs.Ytmckmlmfilmiaaa.X
open Go Go.RowKit Go.Proofs.Ytmckmlmfilmiaaa.Bs
set_option linter.unusedVariables false
set_option maxHeartbeats 4000000 in
theorem ref7Exact_any {p : BV} {b : Bas} {w : World} (hb : BasAt w w.heap.size p b) (ho : RowsOk b) {v : Int} (hv : (b.row 0).vol ≤ v ∧ v ≤ 1000000000) :
    Calls Try.prog 78 #[basV p b, .int .i64 v] w fun e w' => e = .returned (.tuple ⟨[.int .i64 (num b v), .int .i64 (den b v)]⟩) ∧ Below w.heap.size w w' := by
  obtain ⟨A, n, c, A2, n2, c2⟩ := p
  have hn := hb.n_eq
  have hn2 := hb.n2_eq
  simp only at hn hn2
  subst hn hn2
  have h2 := ho.n2
  have h12 := ho.n12
  obtain ⟨ad, rfl, hlt⟩ := hb.rows.addr (by simp only; omega)
  simp only [basV, basC]
  refine enter Try.func78 rfl Try.ntmps78 rfl ?_; simp only [frame, Nat.zero_add, Nat.reduceAdd]
  repeat (first | (refine M0 ?_; first | refine SL ?_ | refine SB fun _ _ => ?_) | (refine M1 ?_; first | refine SC ?_ | refine SD ?_) | (refine M2 ?_; refine SE ?_) | (refine M3 ?_; first | refine SG ?_ | refine SF ?_) | (refine M4 ?_; refine SR ?_) | (refine M5 ?_; first | exact M7 | refine YM ?_ | refine YN ?_ ?_))
  have hs := seg_lt ho v
  refine XC.loopk [1, 2] rfl (fun k : Nat => [(6, .int .i64 (segTo b v k : Nat)), (7, .int .i64 ((k + 1 : Nat) : Int))]) (fun _ => _) (fun _ => w) (fun k => k + 2 ≤ b.rows.length) (fun k => b.rows.length - k) 0 (by omega) ZZSUB (fun _ h => h) ?_
  intro k hk
  dsimp only [List.cons_append, List.nil_append]
  repeat (first | (refine M0 ?_; first | refine SL ?_ | refine SB fun _ _ => ?_) | (refine M1 ?_; first | refine SC ?_ | refine SD ?_) | (refine M2 ?_; refine SE ?_) | (refine M3 ?_; first | refine SG ?_ | refine SF ?_) | (refine M4 ?_; refine SR ?_) | (refine M5 ?_; first | exact M7 | refine YM ?_ | refine YN ?_ ?_))
  refine XC.cond _ rfl (fun h1 => ?_) (fun h1 => ?_)
  · simp only [decide_eq_true_eq] at h1
    repeat (any_goals (first | (refine M0 ?_; first | refine SL ?_ | refine SB fun _ _ => ?_ | (refine XL.split _ _ rfl (fun h => ?_) (fun h => ?_) <;> rw [h]) | refine Y4 (Ev.load_old tok rfl rfl (add_lt2 hlt) (hb.rowVol (i := k + 1) (by omega))) ?_) | (refine M1 ?_; first | refine SC ?_ | refine SD ?_ | refine XC.cond _ rfl (fun h => ?_) (fun h => ?_)) | (refine M2 ?_; refine SE ?_) | (refine M3 ?_; first | refine SG ?_ | refine SF ?_ | (refine Fw.split _ _ rfl (fun h => ?_) (fun h => ?_) <;> rw [h]) | refine YF (Ev.load_old tok rfl rfl (add_lt2 hlt) (hb.rowVol (i := k + 1) (by omega))) ?_) | (refine M4 ?_; refine SR ?_) | (refine M5 ?_; first | exact M7 | refine YM ?_ | refine YN ?_ ?_)))
    · simp only [decide_eq_true_eq] at h
      have e : segTo b v (k + 1) = k + 1 := by rw [segTo, if_pos h]
      exact XE.round (k + 1) (by omega) (by omega) (by rw [e]; exact ZZSUB) (fun _ h => by first | exact h | exact h.pop (by assumption) | exact (h.pop (by assumption)).pop (by assumption) | exact ((h.pop (by assumption)).pop (by assumption)).pop (by assumption) | exact (((h.pop (by assumption)).pop (by assumption)).pop (by assumption)).pop (by assumption) | exact Sys.anchor (by assumption) h (by simp) (by simp))
    · simp only [decide_eq_false_iff_not] at h
      have e : segTo b v (k + 1) = segTo b v k := by rw [segTo, if_neg h]
      exact XE.round (k + 1) (by omega) (by omega) (by rw [e]; exact ZZSUB) (fun _ h => by first | exact h | exact h.pop (by assumption) | exact (h.pop (by assumption)).pop (by assumption) | exact ((h.pop (by assumption)).pop (by assumption)).pop (by assumption) | exact (((h.pop (by assumption)).pop (by assumption)).pop (by assumption)).pop (by assumption) | exact Sys.anchor (by assumption) h (by simp) (by simp))
  simp only [decide_eq_false_iff_not] at h1
  obtain rfl : k = b.rows.length - 2 := by omega
  have e : (segTo b v (b.rows.length - 2) : Int) = (seg b v : Nat) := rfl
  rw [e]
  repeat (first | (refine M0 ?_; first | refine SL ?_ | refine SB fun _ _ => ?_) | (refine M1 ?_; first | refine SC ?_ | refine SD ?_) | (refine M2 ?_; refine SE ?_) | (refine M3 ?_; first | refine SG ?_ | refine SF ?_) | (refine M4 ?_; refine SR ?_) | (refine M5 ?_; first | exact M7 | refine YM ?_ | refine YN ?_ ?_))
  refine XC.cutln [1] rfl (fun s : Nat × Nat => [(8, .pointer (some ⟨s.1, 0, none⟩)), (9, .pointer (some ⟨s.2, 0, none⟩))]) (fun s => [(s.1, cel 47 (rowC (b.row (seg b v)))), (s.2, cel 47 (rowC (b.row (seg b v + 1))))]) (fun s => w.heap.size ≤ s.1 ∧ w.heap.size ≤ s.2) ?_ ?_
  · refine XC.drawR _ [0, 1, 2, 3, 4, 5, 6, 7, 8, 9, 10] [11, 12, 13, 14] mixed (fun _ h => h) rfl (by kernel_rfl) ?_
    repeat (any_goals (first | (refine M0 ?_; first | refine SL ?_ | refine SB fun _ _ => ?_ | (refine XL.split _ _ rfl (fun h => ?_) (fun h => ?_) <;> rw [h]) | refine Y4 (Ev.load_old_agg tok (rowC (b.row (seg b v))) rfl rfl rfl (add_lt hlt) (hb.row (by omega))) ?_ | refine Y4 (Ev.load_old_agg tok (rowC (b.row (seg b v + 1))) rfl rfl rfl (add_lt hlt) (hb.row hs)) ?_) | (refine M1 ?_; first | refine SC ?_ | refine SD ?_ | refine XC.cond _ rfl (fun h => ?_) (fun h => ?_)) | (refine M2 ?_; refine SE ?_) | (refine M3 ?_; first | refine SG ?_ | refine SF ?_ | (refine Fw.split _ _ rfl (fun h => ?_) (fun h => ?_) <;> rw [h]) | refine YF (Ev.load_old_agg tok (rowC (b.row (seg b v))) rfl rfl rfl (add_lt hlt) (hb.row (by omega))) ?_ | refine YF (Ev.load_old_agg tok (rowC (b.row (seg b v + 1))) rfl rfl rfl (add_lt hlt) (hb.row hs)) ?_) | (refine M4 ?_; refine SR ?_) | (refine M5 ?_; first | exact M7 | refine YM ?_ | refine YN ?_ ?_)))
    all_goals
      refine XE.leaf (_, _) ZZSUB (fun _ S' => by first | exact S' | exact S'.perm (by repeat (first | exact List.Perm.refl _ | refine perm1 ?_ | refine List.Perm.cons _ ?_ | refine perm2 ?_)) | exact (S'.pop (by assumption)) | exact (S'.pop2 (by assumption))) ?_
      exact ⟨by assumption, by assumption⟩
  rintro ⟨g1, g2⟩ ⟨hg1, hg2⟩
  simp only at hg1 hg2
  dsimp only [List.cons_append, List.nil_append]
  refine XC.hint 8 2 (XC.hint 9 1 ?_)
  obtain ⟨hp1, hp2, hp3, hp4⟩ := parts_bd ho hv
  obtain ⟨ht1, ht2⟩ := terms_bd ho hv
  unfold den at hp2
  repeat (first | (refine M0 ?_; first | refine SL ?_ | refine SB fun _ _ => ?_) | (refine M1 ?_; first | refine SC ?_ | refine SD ?_) | (refine M2 ?_; refine SE ?_) | (refine M3 ?_; first | refine SG ?_ | refine SF ?_) | (refine M4 ?_; refine SR ?_) | (refine M5 ?_; first | exact M7 | refine YM ?_ | refine YN ?_ ?_))
  rw [show (b.row (seg b v + 1)).vol - (b.row (seg b v)).vol = den b v from rfl] at *
  repeat (first | (refine M0 ?_; first | refine SL ?_ | refine SB fun _ _ => ?_) | (refine M1 ?_; first | refine SC ?_ | refine SD ?_) | (refine M2 ?_; refine SE ?_) | (refine M3 ?_; first | refine SG ?_ | refine SF ?_) | (refine M4 ?_; refine SR ?_) | (refine M5 ?_; first | exact M7 | refine YM ?_ | refine YN ?_ ?_))
  refine XE.retg tok Try.results78 rfl (by simp only [and_self, and_true]) (fun w' S => ?_)
  exact ⟨rfl, S.toBelow⟩
set_option maxHeartbeats 16000000 in
set_option maxRecDepth 20000 in
theorem ref7Use_any {v : RTV} {t : RTk} {sq p q : SV} {s : Sta} {i : Nat} {before on : List Bool} {w : World} (ht : TskAt w w.heap.size v t) (ho : RtOk t) (hx : (t.b.row 0).vol ≤ s.vol ∧ s.vol ≤ 1000000000) (hi : i < t.outer.length)
    (hb : ListAt boolK w (Lt w.heap.size) p before) (hbl : before.length = t.m) (hf : ListAt boolK w (Lt w.heap.size) q on) (hfl : on.length = t.m) :
    Calls Try.prog 61 #[tskV v t, staV sq s, .int .i64 (i : Nat), svV p, svV q] w fun e w' => e = .returned (useV (t.use s.vol i before on)) ∧ Below w.heap.size w w' := by
  have hex := fun (w5 : World) (hB : Below w.heap.size w w5) => ref7Exact_any (v := s.vol) (ht.sys (Sys.ofBelow hB)).bas ho.ok.rowsOk hx
  obtain ⟨Ap, np, cp⟩ := p
  obtain ⟨Aq, nq, cq⟩ := q
  have lp := hb.len (by decide)
  have lq := hf.len (by decide)
  have lo := ht.outer.len
  have ls := ht.slu.len (by decide)
  have lm := ht.pmp.len (by decide)
  have hdl := t.devs_len
  have hs4 := ho.s2
  have hp4 := ho.p2
  have hmm : t.m = t.slu.length + t.pmp.length := hdl
  have hdl2 : t.devs.length = t.slu.length + t.pmp.length := hdl
  obtain ⟨vp, vq, ⟨Ao, no, co⟩, vr, vc, ⟨As, ns, cs⟩, ⟨Am, nm, cm⟩, von⟩ := v
  simp only at lp lq lo ls lm
  subst lp lq lo ls lm
  have hH := use_head ho hx hi
  have hU : t.use s.vol i before on = match useTo (num t.b s.vol) (den t.b s.vol) (at0 t.outer i) t.devs before on t.devs.length with
    | none => none
    | some (f, e) => some (min f 10000000, e) := rfl
  obtain ⟨ao, rfl, hlo, hco⟩ := ht.outer.at_ (by omega)
  have hcoi := hco i hi
  obtain ⟨n, hn⟩ : ∃ n, n = num t.b s.vol := ⟨_, rfl⟩
  obtain ⟨d, hd⟩ : ∃ d, d = den t.b s.vol := ⟨_, rfl⟩
  obtain ⟨o, hoo⟩ : ∃ o, o = at0 t.outer i := ⟨_, rfl⟩
  rw [← hn, ← hd] at hex
  rw [← hoo] at hcoi
  rw [← hn, ← hd, ← hoo] at hH hU
  simp only [tskV, tskC, staV, staC, basV, basC, svV] at hex ⊢
  refine enter Try.func61 rfl Try.ntmps61 rfl ?_; simp only [frame, Nat.zero_add, Nat.reduceAdd]
  repeat (first | (refine M0 ?_; first | refine SL ?_ | refine SB fun _ _ => ?_ | refine Y4 (Ev.call (f := 78) (ck rfl) rfl (fun w5 S5 => hex w5 S5.toBelow)) ?_ | refine Y4 (Ev.load_old tok rfl rfl (add_lt hlo) hcoi) ?_) | (refine M1 ?_; first | refine SC ?_ | refine SD ?_) | (refine M2 ?_; refine SE ?_) | (refine M3 ?_; first | refine SG ?_ | refine SF ?_ | refine YF (Ev.call (f := 78) (ck rfl) rfl (fun w5 S5 => hex w5 S5.toBelow)) ?_ | refine YF (Ev.load_old tok rfl rfl (add_lt hlo) hcoi) ?_) | (refine M4 ?_; refine SR ?_) | (refine M5 ?_; first | exact M7 | refine YM ?_ | refine YN ?_ ?_))
  rename_i g5 hg5 g6 hg6
  have hod := hH.od
  have hins := hH.ins
  have hd1 := hH.hd
  have hnb := hH.hn
  refine XC.loopk [3, 4, 5, 13, 14, 15] rfl (fun z : Nat × Int × Int => [(18, .int .i64 (z.1 : Nat)), (16, .int .i64 z.2.1), (17, .int .i64 z.2.2)]) (fun _ => [(g6, _), (g5, _)]) (fun _ => w) (fun z => z.1 ≤ t.slu.length ∧ useTo n d o t.devs before on z.1 = some z.2 ∧ (0 ≤ z.2.1 ∧ z.2.1 ≤ 800000000000000000 * z.1) ∧ 0 ≤ z.2.2 ∧ z.2.2 ≤ 5000000000 * z.1) (fun z => t.slu.length - z.1) (0, 0, 0) ⟨Nat.zero_le _, rfl, by simp, by simp⟩ ZZSUB (fun _ h => h) ?_
  rintro ⟨k, f, e⟩ ⟨hk, hto, hfb, heb⟩
  simp only at hk hto hfb heb
  dsimp only [List.cons_append, List.nil_append]
  repeat (first | (refine M0 ?_; first | refine SL ?_ | refine SB fun _ _ => ?_) | (refine M1 ?_; first | refine SC ?_ | refine SD ?_) | (refine M2 ?_; refine SE ?_) | (refine M3 ?_; first | refine SG ?_ | refine SF ?_) | (refine M4 ?_; refine SR ?_) | (refine M5 ?_; first | exact M7 | refine YM ?_ | refine YN ?_ ?_))
  refine XC.cond _ rfl (fun h1 => ?_) (fun h1 => ?_)
  · have hkn : k < t.slu.length := by have := of_decide_eq_true h1; omega
    obtain ⟨as_, rfl, hls⟩ := ht.slu.addr (by decide) (by omega)
    obtain ⟨ap, rfl, hlp⟩ := hb.addr (by decide) (by omega)
    obtain ⟨aq, rfl, hlq⟩ := hf.addr (by decide) (by omega)
    have hbk := boolAt hb (k := k) (by omega)
    have hfk := boolAt hf (k := k) (by omega)
    have hel := ht.slu.elem (List.getElem?_eq_getElem hkn)
    have hdk : t.devs[k]? = some (.slu t.slu[k]) := devs_slu hkn
    have hok := ho.dev _ (List.mem_of_getElem? hdk)
    obtain ⟨z, hz⟩ : ∃ z, z = t.slu[k] := ⟨_, rfl⟩
    rw [← hz] at hdk hok hel
    obtain ⟨hz1, hz2⟩ := hok
    have hel' : ∀ j u, (sluC z)[j]? = some u → w.cell? ((as_.add (k * 3)).add j) = some u := hel
    simp only [sluC] at hel'
    cases hbo : bl on k with
    | true =>
      rw [hbo] at hfk
      by_cases hno : n ≤ o * d
      · repeat (first | (refine M0 ?_; first | refine SL ?_ | refine SB fun _ _ => ?_ | refine Y4 (Ev.load_old_agg tok [.string z.name, .int .i64 z.width, .int .i64 z.move] rfl rfl rfl (add_lt hls) hel') ?_ | refine Y4 (Ev.load_old tok rfl rfl (add_lt hlq) hfk) ?_) | (refine M1 ?_; first | refine SC ?_ | refine SD ?_) | (refine M2 ?_; refine SE ?_) | (refine M3 ?_; first | refine SG ?_ | refine SF ?_ | refine YF (Ev.load_old_agg tok [.string z.name, .int .i64 z.width, .int .i64 z.move] rfl rfl rfl (add_lt hls) hel') ?_ | refine YF (Ev.load_old tok rfl rfl (add_lt hlq) hfk) ?_) | (refine M4 ?_; refine SR ?_) | (refine M5 ?_; first | exact M7 | refine YM ?_ | refine YN ?_ ?_))
        rw [show decide (n ≤ o * d) = true from decide_eq_true hno]
        repeat (first | (refine M0 ?_; first | refine SL ?_ | refine SB fun _ _ => ?_) | (refine M1 ?_; first | refine SC ?_ | refine SD ?_) | (refine M2 ?_; refine SE ?_) | (refine M3 ?_; first | refine SG ?_ | refine SF ?_) | (refine M4 ?_; refine SR ?_) | (refine M5 ?_; first | exact M7 | refine YM ?_ | refine YN ?_ ?_))
        refine XE.retg tok Try.results61 rfl (by simp only [and_self, and_true]) (fun w' S => ?_)
        rw [hU, useTo_none (by omega : k + 1 ≤ t.devs.length) (use_slu_no hto hdk hbo hno)]
        exact ⟨rfl, S.toBelow⟩
      have h4 := mul_bd (X := 10000) (Y := 80000000000000) (x := z.width) (y := n - o * d) (by omega) (by omega)
      have h5 : 0 ≤ z.width * (n - o * d) := Int.mul_nonneg hz1.1 (by omega)
      have h6 := tdiv_sml hd1.1 h5
      have hst := use_slu_on hto hdk hbo hno
      repeat (first | (refine M0 ?_; first | refine SL ?_ | refine SB fun _ _ => ?_ | refine Y4 (Ev.load_old_agg tok [.string z.name, .int .i64 z.width, .int .i64 z.move] rfl rfl rfl (add_lt hls) hel') ?_ | refine Y4 (Ev.load_old tok rfl rfl (add_lt hlq) hfk) ?_) | (refine M1 ?_; first | refine SC ?_ | refine SD ?_) | (refine M2 ?_; refine SE ?_) | (refine M3 ?_; first | refine SG ?_ | refine SF ?_ | refine YF (Ev.load_old_agg tok [.string z.name, .int .i64 z.width, .int .i64 z.move] rfl rfl rfl (add_lt hls) hel') ?_ | refine YF (Ev.load_old tok rfl rfl (add_lt hlq) hfk) ?_) | (refine M4 ?_; refine SR ?_) | (refine M5 ?_; first | exact M7 | refine YM ?_ | refine YN ?_ ?_))
      rw [show decide (n ≤ o * d) = false from decide_eq_false hno]
      repeat (first | (refine M0 ?_; first | refine SL ?_ | refine SB fun _ _ => ?_ | refine Y4 (Ev.load_old tok rfl rfl (add_lt hlq) hfk) ?_) | (refine M1 ?_; first | refine SC ?_ | refine SD ?_) | (refine M2 ?_; refine SE ?_) | (refine M3 ?_; first | refine SG ?_ | refine SF ?_ | refine YF (Ev.load_old tok rfl rfl (add_lt hlq) hfk) ?_) | (refine M4 ?_; refine SR ?_) | (refine M5 ?_; first | exact M7 | refine YM ?_ | refine YN ?_ ?_))
      cases hbb : bl before k with
      | true =>
        rw [hbb, if_pos rfl, Int.add_zero] at hst
        rw [hbb] at hbk
        repeat (first | (refine M0 ?_; first | refine SL ?_ | refine SB fun _ _ => ?_ | refine Y4 (Ev.load_old tok rfl rfl (add_lt hlq) hfk) ?_ | refine Y4 (Ev.load_old tok rfl rfl (add_lt hlp) hbk) ?_ | refine Y4 (Ev.neqB Try.underlying4 rfl rfl) ?_) | (refine M1 ?_; first | refine SC ?_ | refine SD ?_) | (refine M2 ?_; refine SE ?_) | (refine M3 ?_; first | refine SG ?_ | refine SF ?_ | refine YF (Ev.load_old tok rfl rfl (add_lt hlq) hfk) ?_ | refine YF (Ev.load_old tok rfl rfl (add_lt hlp) hbk) ?_ | refine YF (Ev.neqB Try.underlying4 rfl rfl) ?_) | (refine M4 ?_; refine SR ?_) | (refine M5 ?_; first | exact M7 | refine YM ?_ | refine YN ?_ ?_))
        exact XE.round (s := (k, f, e)) (k + 1, _, _) ⟨hkn, hst, by simp only; omega, by simp only; omega⟩ (by simp only; omega) ZZSUB (fun _ h => by first | exact h | exact h.pop (by assumption) | exact (h.pop (by assumption)).pop (by assumption) | exact ((h.pop (by assumption)).pop (by assumption)).pop (by assumption) | exact (((h.pop (by assumption)).pop (by assumption)).pop (by assumption)).pop (by assumption) | exact Sys.anchor (by assumption) h (by simp) (by simp))
      | false =>
        rw [hbb, if_neg (by decide)] at hst
        rw [hbb] at hbk
        repeat (first | (refine M0 ?_; first | refine SL ?_ | refine SB fun _ _ => ?_ | refine Y4 (Ev.load_old tok rfl rfl (add_lt hlq) hfk) ?_ | refine Y4 (Ev.load_old tok rfl rfl (add_lt hlp) hbk) ?_ | refine Y4 (Ev.neqB Try.underlying4 rfl rfl) ?_) | (refine M1 ?_; first | refine SC ?_ | refine SD ?_) | (refine M2 ?_; refine SE ?_) | (refine M3 ?_; first | refine SG ?_ | refine SF ?_ | refine YF (Ev.load_old tok rfl rfl (add_lt hlq) hfk) ?_ | refine YF (Ev.load_old tok rfl rfl (add_lt hlp) hbk) ?_ | refine YF (Ev.neqB Try.underlying4 rfl rfl) ?_) | (refine M4 ?_; refine SR ?_) | (refine M5 ?_; first | exact M7 | refine YM ?_ | refine YN ?_ ?_))
        exact XE.round (s := (k, f, e)) (k + 1, _, _) ⟨hkn, hst, by simp only; omega, by simp only; omega⟩ (by simp only; omega) ZZSUB (fun _ h => by first | exact h | exact h.pop (by assumption) | exact (h.pop (by assumption)).pop (by assumption) | exact ((h.pop (by assumption)).pop (by assumption)).pop (by assumption) | exact (((h.pop (by assumption)).pop (by assumption)).pop (by assumption)).pop (by assumption) | exact Sys.anchor (by assumption) h (by simp) (by simp))
    | false =>
      have hst := use_slu_off hto hdk hbo
      rw [hbo] at hfk
      cases hbb : bl before k with
      | true =>
        rw [hbb, if_neg (by decide)] at hst
        rw [hbb] at hbk
        repeat (first | (refine M0 ?_; first | refine SL ?_ | refine SB fun _ _ => ?_ | refine Y4 (Ev.load_old_agg tok [.string z.name, .int .i64 z.width, .int .i64 z.move] rfl rfl rfl (add_lt hls) hel') ?_ | refine Y4 (Ev.load_old tok rfl rfl (add_lt hlq) hfk) ?_ | refine Y4 (Ev.load_old tok rfl rfl (add_lt hlp) hbk) ?_ | refine Y4 (Ev.neqB Try.underlying4 rfl rfl) ?_) | (refine M1 ?_; first | refine SC ?_ | refine SD ?_) | (refine M2 ?_; refine SE ?_) | (refine M3 ?_; first | refine SG ?_ | refine SF ?_ | refine YF (Ev.load_old_agg tok [.string z.name, .int .i64 z.width, .int .i64 z.move] rfl rfl rfl (add_lt hls) hel') ?_ | refine YF (Ev.load_old tok rfl rfl (add_lt hlq) hfk) ?_ | refine YF (Ev.load_old tok rfl rfl (add_lt hlp) hbk) ?_ | refine YF (Ev.neqB Try.underlying4 rfl rfl) ?_) | (refine M4 ?_; refine SR ?_) | (refine M5 ?_; first | exact M7 | refine YM ?_ | refine YN ?_ ?_))
        exact XE.round (s := (k, f, e)) (k + 1, _, _) ⟨hkn, hst, by simp only; omega, by simp only; omega⟩ (by simp only; omega) ZZSUB (fun _ h => by first | exact h | exact h.pop (by assumption) | exact (h.pop (by assumption)).pop (by assumption) | exact ((h.pop (by assumption)).pop (by assumption)).pop (by assumption) | exact (((h.pop (by assumption)).pop (by assumption)).pop (by assumption)).pop (by assumption) | exact Sys.anchor (by assumption) h (by simp) (by simp))
      | false =>
        rw [hbb, if_pos rfl, Int.add_zero] at hst
        rw [hbb] at hbk
        repeat (first | (refine M0 ?_; first | refine SL ?_ | refine SB fun _ _ => ?_ | refine Y4 (Ev.load_old_agg tok [.string z.name, .int .i64 z.width, .int .i64 z.move] rfl rfl rfl (add_lt hls) hel') ?_ | refine Y4 (Ev.load_old tok rfl rfl (add_lt hlq) hfk) ?_ | refine Y4 (Ev.load_old tok rfl rfl (add_lt hlp) hbk) ?_ | refine Y4 (Ev.neqB Try.underlying4 rfl rfl) ?_) | (refine M1 ?_; first | refine SC ?_ | refine SD ?_) | (refine M2 ?_; refine SE ?_) | (refine M3 ?_; first | refine SG ?_ | refine SF ?_ | refine YF (Ev.load_old_agg tok [.string z.name, .int .i64 z.width, .int .i64 z.move] rfl rfl rfl (add_lt hls) hel') ?_ | refine YF (Ev.load_old tok rfl rfl (add_lt hlq) hfk) ?_ | refine YF (Ev.load_old tok rfl rfl (add_lt hlp) hbk) ?_ | refine YF (Ev.neqB Try.underlying4 rfl rfl) ?_) | (refine M4 ?_; refine SR ?_) | (refine M5 ?_; first | exact M7 | refine YM ?_ | refine YN ?_ ?_))
        exact XE.round (s := (k, f, e)) (k + 1, _, _) ⟨hkn, hst, by simp only; omega, by simp only; omega⟩ (by simp only; omega) ZZSUB (fun _ h => by first | exact h | exact h.pop (by assumption) | exact (h.pop (by assumption)).pop (by assumption) | exact ((h.pop (by assumption)).pop (by assumption)).pop (by assumption) | exact (((h.pop (by assumption)).pop (by assumption)).pop (by assumption)).pop (by assumption) | exact Sys.anchor (by assumption) h (by simp) (by simp))
  have hkn : k = t.slu.length := by have := of_decide_eq_false h1; omega
  subst hkn
  clear h1 hk
  repeat (first | (refine M0 ?_; first | refine SL ?_ | refine SB fun _ _ => ?_) | (refine M1 ?_; first | refine SC ?_ | refine SD ?_) | (refine M2 ?_; refine SE ?_) | (refine M3 ?_; first | refine SG ?_ | refine SF ?_) | (refine M4 ?_; refine SR ?_) | (refine M5 ?_; first | exact M7 | refine YM ?_ | refine YN ?_ ?_))
  refine XC.loopk [3, 4, 5, 13, 14, 15] rfl (fun z : Nat × Int × Int => [(20, .int .i64 (z.1 : Nat)), (16, .int .i64 z.2.1), (17, .int .i64 z.2.2)]) (fun _ => [(g6, _), (g5, _)]) (fun _ => w) (fun z => z.1 ≤ t.pmp.length ∧ useTo n d o t.devs before on (t.slu.length + z.1) = some z.2 ∧ (0 ≤ z.2.1 ∧ z.2.1 ≤ 800000000000000000 * (t.slu.length + z.1)) ∧ 0 ≤ z.2.2 ∧ z.2.2 ≤ 5000000000 * (t.slu.length + z.1)) (fun z => t.pmp.length - z.1) (0, f, e) ⟨Nat.zero_le _, hto, by simp only; omega, by simp only; omega⟩ ZZSUB (fun _ h => h) ?_
  clear hto hfb heb f e
  rintro ⟨k, f, e⟩ ⟨hk, hto, hfb, heb⟩
  simp only at hk hto hfb heb
  dsimp only [List.cons_append, List.nil_append]
  repeat (first | (refine M0 ?_; first | refine SL ?_ | refine SB fun _ _ => ?_) | (refine M1 ?_; first | refine SC ?_ | refine SD ?_) | (refine M2 ?_; refine SE ?_) | (refine M3 ?_; first | refine SG ?_ | refine SF ?_) | (refine M4 ?_; refine SR ?_) | (refine M5 ?_; first | exact M7 | refine YM ?_ | refine YN ?_ ?_))
  refine XC.cond _ rfl (fun h1 => ?_) (fun h1 => ?_)
  rotate_left
  · have hkn : k = t.pmp.length := by have := of_decide_eq_false h1; omega
    subst hkn
    repeat (first | (refine M0 ?_; first | refine SL ?_ | refine SB fun _ _ => ?_) | (refine M1 ?_; first | refine SC ?_ | refine SD ?_) | (refine M2 ?_; refine SE ?_) | (refine M3 ?_; first | refine SG ?_ | refine SF ?_) | (refine M4 ?_; refine SR ?_) | (refine M5 ?_; first | exact M7 | refine YM ?_ | refine YN ?_ ?_))
    refine XE.retg tok Try.results61 rfl (by simp only [and_self, and_true]) (fun w' S => ?_)
    rw [hU, hdl2, hto]
    exact ⟨rfl, S.toBelow⟩
  have hkn : k < t.pmp.length := by have := of_decide_eq_true h1; omega
  obtain ⟨am, rfl, hlm⟩ := ht.pmp.addr (by decide) (by omega)
  obtain ⟨ap, rfl, hlp⟩ := hb.addr (by decide) (by omega)
  obtain ⟨aq, rfl, hlq⟩ := hf.addr (by decide) (by omega)
  have hbk := boolAt hb (k := t.slu.length + k) (by omega)
  have hfk := boolAt hf (k := t.slu.length + k) (by omega)
  have hel := ht.pmp.elem (List.getElem?_eq_getElem hkn)
  have hdk : t.devs[t.slu.length + k]? = some (.pmp t.pmp[k]) := devs_pmp hkn
  have hok := ho.dev _ (List.mem_of_getElem? hdk)
  obtain ⟨z, hz⟩ : ∃ z, z = t.pmp[k] := ⟨_, rfl⟩
  rw [← hz] at hdk hok hel
  obtain ⟨hz1, hz2, hz3, hz4⟩ := hok
  have hel' : ∀ j u, ([.string z.name, .int .i64 z.rate, .int .i64 z.base, .int .i64 z.lift, .int .i64 z.start] : List Value)[j]? = some u → w.cell? ((am.add (k * 5)).add j) = some u := hel
  repeat (first | (refine M0 ?_; first | refine SL ?_ | refine SB fun _ _ => ?_) | (refine M1 ?_; refine SC ?_) | (refine M2 ?_; refine SE ?_))
  refine XC.cutln [3, 4, 5, 13, 14, 15, 16, 17, 20] rfl (fun g21 : Nat => [(21, .pointer (some ⟨g21, 0, none⟩)), (22, .int .i64 ((t.slu.length : Int) + (k : Int)))]) (fun g21 => [(g21, cel 42 [.string z.name, .int .i64 z.rate, .int .i64 z.base, .int .i64 z.lift, .int .i64 z.start])]) (fun g21 => w.heap.size ≤ g21) ?_ (fun g21 hg21 => ?_)
  · refine XC.drawR _ [0, 1, 2, 3, 4, 5, 6, 7, 8, 9] [10, 11, 12] mixed (fun _ h => h) rfl (by kernel_rfl) ?_
    repeat (any_goals (first | (refine M0 ?_; first | refine SL ?_ | refine SB fun _ _ => ?_ | refine Y4 (Ev.load_old_agg tok [.string z.name, .int .i64 z.rate, .int .i64 z.base, .int .i64 z.lift, .int .i64 z.start] rfl rfl rfl (add_lt hlm) hel') ?_) | (refine M1 ?_; refine SC ?_) | (refine M2 ?_; refine SE ?_) | (refine M3 ?_; first | refine SG ?_ | refine SF ?_ | refine YF (Ev.load_old_agg tok [.string z.name, .int .i64 z.rate, .int .i64 z.base, .int .i64 z.lift, .int .i64 z.start] rfl rfl rfl (add_lt hlm) hel') ?_) | (refine M4 ?_; refine SR ?_) | (refine M5 ?_; first | exact M7 | refine YM ?_ | refine YN ?_ ?_)))
    any_goals (repeat (first | exact AnyR.nil | refine AnyR.skip rfl ?_))
    all_goals exact XE.leaf _ ZZSUB (fun _ S' => by first | exact S' | exact S'.perm (by repeat (first | exact List.Perm.refl _ | refine perm1 ?_ | refine List.Perm.cons _ ?_ | refine perm2 ?_)) | exact (S'.pop (by assumption)) | exact (S'.pop2 (by assumption))) (by assumption)
  dsimp only [List.cons_append, List.nil_append]
  refine XC.hint 21 2 ?_
  cases hbo : bl on (t.slu.length + k) with
  | false =>
    have hst := use_pmp_off hto hdk hbo
    rw [hbo] at hfk
    repeat (first | (refine M0 ?_; first | refine SL ?_ | refine SB fun _ _ => ?_ | refine Y4 (Ev.load_old tok rfl rfl (add_lt hlq) hfk) ?_) | (refine M1 ?_; first | refine SC ?_ | refine SD ?_) | (refine M2 ?_; refine SE ?_) | (refine M3 ?_; first | refine SG ?_ | refine SF ?_ | refine YF (Ev.load_old tok rfl rfl (add_lt hlq) hfk) ?_) | (refine M4 ?_; refine SR ?_) | (refine M5 ?_; first | exact M7 | refine YM ?_ | refine YN ?_ ?_))
    exact XE.round (s := (k, f, e)) (k + 1, _, _) ⟨hkn, hst, by simp only; omega, by simp only; omega⟩ (by simp only; omega) ZZSUB (fun _ h => by first | exact h | exact h.pop (by assumption) | exact (h.pop (by assumption)).pop (by assumption) | exact ((h.pop (by assumption)).pop (by assumption)).pop (by assumption) | exact (((h.pop (by assumption)).pop (by assumption)).pop (by assumption)).pop (by assumption) | exact Sys.anchor (by assumption) h (by simp) (by simp))
  | true =>
  have hst := use_pmp_on hd1.1 hto hdk hbo
  rw [hbo] at hfk
  unfold liftE at hst
  repeat (first | (refine M0 ?_; first | refine SL ?_ | refine SB fun _ _ => ?_ | refine Y4 (Ev.load_old tok rfl rfl (add_lt hlq) hfk) ?_) | (refine M1 ?_; first | refine SC ?_ | refine SD ?_) | (refine M2 ?_; refine SE ?_) | (refine M3 ?_; first | refine SG ?_ | refine SF ?_ | refine YF (Ev.load_old tok rfl rfl (add_lt hlq) hfk) ?_) | (refine M4 ?_; refine SR ?_) | (refine M5 ?_; first | exact M7 | refine YM ?_ | refine YN ?_ ?_))
  by_cases hno : n < o * d
  · have hlf := lift_bd (x := o * d - n) (l := z.lift) hd1 hz3 (by omega)
    rw [if_pos hno] at hst
    refine XC.cond _ rfl (fun h2 => ?_) (fun h2 => absurd hno (of_decide_eq_false h2))
    repeat (first | (refine M0 ?_; first | refine SL ?_ | refine SB fun _ _ => ?_ | refine Y4 (Ev.load_old tok rfl rfl (add_lt hlq) hfk) ?_) | (refine M1 ?_; first | refine SC ?_ | refine SD ?_) | (refine M2 ?_; refine SE ?_) | (refine M3 ?_; first | refine SG ?_ | refine SF ?_ | refine YF (Ev.load_old tok rfl rfl (add_lt hlq) hfk) ?_) | (refine M4 ?_; refine SR ?_) | (refine M5 ?_; first | exact M7 | refine YM ?_ | refine YN ?_ ?_))
    cases hbb : bl before (t.slu.length + k) with
    | true =>
      rw [hbb, if_pos rfl, ← Int.add_assoc, ← Int.add_assoc, Int.add_zero] at hst
      rw [hbb] at hbk
      repeat (first | (refine M0 ?_; first | refine SL ?_ | refine SB fun _ _ => ?_ | refine Y4 (Ev.load_old tok rfl rfl (add_lt hlp) hbk) ?_) | (refine M1 ?_; first | refine SC ?_ | refine SD ?_) | (refine M2 ?_; refine SE ?_) | (refine M3 ?_; first | refine SG ?_ | refine SF ?_ | refine YF (Ev.load_old tok rfl rfl (add_lt hlp) hbk) ?_) | (refine M4 ?_; refine SR ?_) | (refine M5 ?_; first | exact M7 | refine YM ?_ | refine YN ?_ ?_))
      exact XE.round (s := (k, f, e)) (k + 1, _, _) ⟨hkn, hst, by simp only; omega, by simp only; omega⟩ (by simp only; omega) ZZSUB (fun _ h => by first | exact h | exact h.pop (by assumption) | exact (h.pop (by assumption)).pop (by assumption) | exact ((h.pop (by assumption)).pop (by assumption)).pop (by assumption) | exact (((h.pop (by assumption)).pop (by assumption)).pop (by assumption)).pop (by assumption) | exact Sys.anchor (by assumption) h (by simp) (by simp))
    | false =>
      rw [hbb, if_neg (by decide), ← Int.add_assoc, ← Int.add_assoc] at hst
      rw [hbb] at hbk
      repeat (first | (refine M0 ?_; first | refine SL ?_ | refine SB fun _ _ => ?_ | refine Y4 (Ev.load_old tok rfl rfl (add_lt hlp) hbk) ?_) | (refine M1 ?_; first | refine SC ?_ | refine SD ?_) | (refine M2 ?_; refine SE ?_) | (refine M3 ?_; first | refine SG ?_ | refine SF ?_ | refine YF (Ev.load_old tok rfl rfl (add_lt hlp) hbk) ?_) | (refine M4 ?_; refine SR ?_) | (refine M5 ?_; first | exact M7 | refine YM ?_ | refine YN ?_ ?_))
      exact XE.round (s := (k, f, e)) (k + 1, _, _) ⟨hkn, hst, by simp only; omega, by simp only; omega⟩ (by simp only; omega) ZZSUB (fun _ h => by first | exact h | exact h.pop (by assumption) | exact (h.pop (by assumption)).pop (by assumption) | exact ((h.pop (by assumption)).pop (by assumption)).pop (by assumption) | exact (((h.pop (by assumption)).pop (by assumption)).pop (by assumption)).pop (by assumption) | exact Sys.anchor (by assumption) h (by simp) (by simp))
  · rw [if_neg hno, Int.add_zero] at hst
    refine XC.cond _ rfl (fun h2 => absurd (of_decide_eq_true h2) hno) (fun h2 => ?_)
    repeat (first | (refine M0 ?_; first | refine SL ?_ | refine SB fun _ _ => ?_) | (refine M1 ?_; first | refine SC ?_ | refine SD ?_) | (refine M2 ?_; refine SE ?_) | (refine M3 ?_; first | refine SG ?_ | refine SF ?_) | (refine M4 ?_; refine SR ?_) | (refine M5 ?_; first | exact M7 | refine YM ?_ | refine YN ?_ ?_))
    cases hbb : bl before (t.slu.length + k) with
    | true =>
      rw [hbb, if_pos rfl, ← Int.add_assoc, Int.add_zero] at hst
      rw [hbb] at hbk
      repeat (first | (refine M0 ?_; first | refine SL ?_ | refine SB fun _ _ => ?_ | refine Y4 (Ev.load_old tok rfl rfl (add_lt hlp) hbk) ?_) | (refine M1 ?_; first | refine SC ?_ | refine SD ?_) | (refine M2 ?_; refine SE ?_) | (refine M3 ?_; first | refine SG ?_ | refine SF ?_ | refine YF (Ev.load_old tok rfl rfl (add_lt hlp) hbk) ?_) | (refine M4 ?_; refine SR ?_) | (refine M5 ?_; first | exact M7 | refine YM ?_ | refine YN ?_ ?_))
      exact XE.round (s := (k, f, e)) (k + 1, _, _) ⟨hkn, hst, by simp only; omega, by simp only; omega⟩ (by simp only; omega) ZZSUB (fun _ h => by first | exact h | exact h.pop (by assumption) | exact (h.pop (by assumption)).pop (by assumption) | exact ((h.pop (by assumption)).pop (by assumption)).pop (by assumption) | exact (((h.pop (by assumption)).pop (by assumption)).pop (by assumption)).pop (by assumption) | exact Sys.anchor (by assumption) h (by simp) (by simp))
    | false =>
      rw [hbb, if_neg (by decide), ← Int.add_assoc] at hst
      rw [hbb] at hbk
      repeat (first | (refine M0 ?_; first | refine SL ?_ | refine SB fun _ _ => ?_ | refine Y4 (Ev.load_old tok rfl rfl (add_lt hlp) hbk) ?_) | (refine M1 ?_; first | refine SC ?_ | refine SD ?_) | (refine M2 ?_; refine SE ?_) | (refine M3 ?_; first | refine SG ?_ | refine SF ?_ | refine YF (Ev.load_old tok rfl rfl (add_lt hlp) hbk) ?_) | (refine M4 ?_; refine SR ?_) | (refine M5 ?_; first | exact M7 | refine YM ?_ | refine YN ?_ ?_))
      exact XE.round (s := (k, f, e)) (k + 1, _, _) ⟨hkn, hst, by simp only; omega, by simp only; omega⟩ (by simp only; omega) ZZSUB (fun _ h => by first | exact h | exact h.pop (by assumption) | exact (h.pop (by assumption)).pop (by assumption) | exact ((h.pop (by assumption)).pop (by assumption)).pop (by assumption) | exact (((h.pop (by assumption)).pop (by assumption)).pop (by assumption)).pop (by assumption) | exact Sys.anchor (by assumption) h (by simp) (by simp))
end Go.Proofs.Ytmckmlmfilmiaaa.X
/-
  The walks of the document's asked, Use, choices and Cheapest (runoff).
-/
namespace Go.Proofs.Ytmckmlmfilmiaaa.X
open Go Go.RowKit Go.Proofs.Ytmckmlmfilmiaaa.Bs
set_option linter.unusedVariables false
set_option maxHeartbeats 8000000 in
theorem refAsked_any {v : RTV} {t : RTk} {sq p : SV} {s : Sta} {i : Int} {n : Nat} {w : World} (ht : TskAt w w.heap.size v t) (hn : t.slu.length + t.pmp.length ≤ 5000000) (hq : IntsAt w (Lt w.heap.size) sq s.fil) (hpn : p.n = n) :
    Calls Try.prog 59 #[tskV v t, staV sq s, .int .i64 i, svV p] w fun e w' => e = .returned (.int .i64 (askE t s i n)) ∧ Below w.heap.size w w' := by
  have hgo := fun (w5 : World) (hB : Below w.heap.size w w5) => good7_any (v := v) (t := t) (w := w5) (ht.sys (Sys.ofBelow hB)) hn
  have hsta := fun (w5 : World) (hB : Below w.heap.size w w5) => refCheckState_any (p := v.p) (b := t.b) (q := sq) (s := s) (w := w5) (ht.sys (Sys.ofBelow hB)).bas ((hq.keep fun k hk => hB.block k hk).mono fun k hk => Nat.lt_of_lt_of_le hk hB.size)
  have hma := fun (w5 : World) => many_any (v := v) (t := t) (w := w5) (ht.slu.len (by decide)) (ht.pmp.len (by decide)) hn
  have lo := ht.outer.len
  have mo := ht.outer.max
  have hE : askE t s i n = if rtE t ≠ 0 then rtE t else if staErr t.b s ≠ 0 then staErr t.b s else if outB i 0 ((t.outer.length : Int) - 1) = true then 4 else if n ≠ t.m then 2 else 0 := rfl
  have hmm : t.m = t.many := t.devs_len
  obtain ⟨Ap, np, cp⟩ := p
  simp only at hpn
  subst hpn
  simp only [tskV, tskC, svV, staV, staC, basV, basC] at hgo hsta hma ⊢
  refine enter Try.func59 rfl Try.ntmps59 rfl ?_; simp only [frame, Nat.zero_add, Nat.reduceAdd]
  repeat (first | (refine M0 ?_; first | refine SL ?_ | refine SB fun _ _ => ?_ | refine Y4 (Ev.call (f := 39) (ck rfl) rfl (fun w5 S5 => hgo w5 S5.toBelow)) ?_) | (refine M1 ?_; refine SC ?_) | (refine M2 ?_; refine SE ?_))
  by_cases h0 : rtE t = 0
  rotate_left
  · rw [if_pos h0] at hE
    refine XC.cond _ rfl (fun h1 => absurd (of_decide_eq_true h1) h0) (fun h1 => ?_)
    repeat (first | (refine M0 ?_; first | refine SL ?_ | refine SB fun _ _ => ?_) | (refine M1 ?_; refine SC ?_) | (refine M2 ?_; refine SE ?_))
    rw [show decide (rtE t = 0) = false from decide_eq_false h0]
    repeat (first | (refine M0 ?_; first | refine SL ?_ | refine SB fun _ _ => ?_) | (refine M1 ?_; refine SC ?_) | (refine M2 ?_; refine SE ?_))
    rw [show decide (rtE t = 0) = false from decide_eq_false h0]
    repeat (first | (refine M0 ?_; first | refine SL ?_ | refine SB fun _ _ => ?_) | (refine M1 ?_; refine SC ?_) | (refine M2 ?_; refine SE ?_))
    refine XE.retg tok Try.results59 rfl (by simp only [and_self, and_true]) (fun w' S => ?_)
    rw [hE]
    exact ⟨rfl, S.toBelow⟩
  rw [if_neg (by simp [h0])] at hE
  refine XC.cond _ rfl (fun h1 => ?_) (fun h1 => absurd h0 (of_decide_eq_false h1))
  repeat (first | (refine M0 ?_; first | refine SL ?_ | refine SB fun _ _ => ?_ | refine Y4 (Ev.call (f := 84) (ck rfl) rfl (fun w5 S5 => hsta w5 S5.toBelow)) ?_) | (refine M1 ?_; refine SC ?_) | (refine M2 ?_; refine SE ?_))
  by_cases h2 : staErr t.b s = 0
  rotate_left
  · rw [if_pos h2] at hE
    rw [show decide (staErr t.b s = 0) = false from decide_eq_false h2]
    repeat (first | (refine M0 ?_; first | refine SL ?_ | refine SB fun _ _ => ?_) | (refine M1 ?_; refine SC ?_) | (refine M2 ?_; refine SE ?_))
    rw [show decide (staErr t.b s = 0) = false from decide_eq_false h2]
    repeat (first | (refine M0 ?_; first | refine SL ?_ | refine SB fun _ _ => ?_) | (refine M1 ?_; refine SC ?_) | (refine M2 ?_; refine SE ?_))
    refine XE.retg tok Try.results59 rfl (by simp only [and_self, and_true]) (fun w' S => ?_)
    rw [hE]
    exact ⟨rfl, S.toBelow⟩
  rw [if_neg (by simp [h2])] at hE
  rw [show decide (staErr t.b s = 0) = true from decide_eq_true h2, h2]
  cases h3 : outB i 0 ((t.outer.length : Int) - 1) with
  | true =>
    rw [h3, if_pos rfl] at hE
    rw [← lo] at h3
    repeat (first | (refine M0 ?_; first | refine SL ?_ | refine SB fun _ _ => ?_ | refine Y4 (Ev.call (f := 63) (ck rfl) rfl (fun w5 S5 => inP h3 w5)) ?_) | (refine M1 ?_; refine SC ?_) | (refine M2 ?_; refine SE ?_))
    refine XE.retg tok Try.results59 rfl (by simp only [and_self, and_true]) (fun w' S => ?_)
    rw [hE]
    exact ⟨rfl, S.toBelow⟩
  | false =>
  rw [h3, if_neg (by decide)] at hE
  rw [← lo] at h3
  repeat (first | (refine M0 ?_; first | refine SL ?_ | refine SB fun _ _ => ?_ | refine Y4 (Ev.call (f := 63) (ck rfl) rfl (fun w5 S5 => inP h3 w5)) ?_ | refine Y4 (Ev.call (f := 60) (ck rfl) rfl (fun w5 S5 => hma w5)) ?_) | (refine M1 ?_; refine SC ?_) | (refine M2 ?_; refine SE ?_))
  refine XC.cond _ rfl (fun h4 => ?_) (fun h4 => ?_)
  · have h4' : np ≠ t.m := by have := of_decide_eq_true h4; omega
    rw [if_pos h4'] at hE
    repeat (first | (refine M0 ?_; first | refine SL ?_ | refine SB fun _ _ => ?_) | (refine M1 ?_; refine SC ?_) | (refine M2 ?_; refine SE ?_))
    refine XE.retg tok Try.results59 rfl (by simp only [and_self, and_true]) (fun w' S => ?_)
    rw [hE]
    exact ⟨rfl, S.toBelow⟩
  · have h4' : np = t.m := by have := of_decide_eq_false h4; omega
    rw [if_neg (by simp [h4'])] at hE
    repeat (first | (refine M0 ?_; first | refine SL ?_ | refine SB fun _ _ => ?_) | (refine M1 ?_; refine SC ?_) | (refine M2 ?_; refine SE ?_))
    refine XE.retg tok Try.results59 rfl (by simp only [and_self, and_true]) (fun w' S => ?_)
    rw [hE]
    exact ⟨rfl, S.toBelow⟩
set_option maxHeartbeats 8000000 in
theorem refUse_any {v : RTV} {t : RTk} {sq p q : SV} {s : Sta} {i : Int} {b f : List Bool} {w : World} (ht : TskAt w w.heap.size v t) (hn : t.slu.length + t.pmp.length ≤ 5000000) (hq : IntsAt w (Lt w.heap.size) sq s.fil) (hb : ListAt boolK w (Lt w.heap.size) p b) (hf : ListAt boolK w (Lt w.heap.size) q f) :
    Calls Try.prog 30 #[tskV v t, staV sq s, .int .i64 i, svV p, svV q] w fun e w' => e = .returned (.tuple ⟨[.int .i64 (useN t s i b f).1, .int .i64 (useN t s i b f).2, .int .i64 (useE t s i b f)]⟩) ∧ Below w.heap.size w w' := by
  have hpn := hb.len (by decide)
  have hqn := hf.len (by decide)
  have hmm : t.m = t.many := t.devs_len
  have hma := fun (w5 : World) => many_any (v := v) (t := t) (w := w5) (ht.slu.len (by decide)) (ht.pmp.len (by decide)) hn
  have hask := fun (w5 : World) (hB : Below w.heap.size w w5) => refAsked_any (v := v) (t := t) (w := w5) (sq := sq) (s := s) (i := i) (p := p) (n := b.length) (ht.sys (Sys.ofBelow hB)) hn ((hq.keep fun k hk => hB.block k hk).mono fun k hk => Nat.lt_of_lt_of_le hk hB.size) hpn
  have huse := fun (w5 : World) (hB : Below w.heap.size w w5) (h0 : RtOk t) (hx : (t.b.row 0).vol ≤ s.vol ∧ s.vol ≤ 1000000000) {j : Nat} (hj : j < t.outer.length) (h1 : b.length = t.m) (h2 : f.length = t.m) => ref7Use_any (sq := sq) (s := s) (i := j) (ht.sys (Sys.ofBelow hB)) h0 hx hj ((hb.keep fun k hk => hB.block k hk).mono fun k hk => Nat.lt_of_lt_of_le hk hB.size) h1 ((hf.keep fun k hk => hB.block k hk).mono fun k hk => Nat.lt_of_lt_of_le hk hB.size) h2
  have hE : useE t s i b f = if askE t s i b.length ≠ 0 then askE t s i b.length else if f.length ≠ t.m then 2 else match t.use s.vol i.toNat b f with
    | none => 170
    | some _ => 0 := rfl
  have hN : useN t s i b f = if useE t s i b f = 0 then (t.use s.vol i.toNat b f).getD (0, 0) else (0, 0) := rfl
  obtain ⟨Ap, np, cp⟩ := p
  obtain ⟨Aq, nq, cq⟩ := q
  simp only at hpn hqn
  subst hpn hqn
  simp only [tskV, tskC, svV, staV, staC] at hask huse hma ⊢
  refine enter Try.func30 rfl Try.ntmps30 rfl ?_; simp only [frame, Nat.zero_add, Nat.reduceAdd]
  repeat (first | (refine M0 ?_; first | refine SL ?_ | refine SB fun _ _ => ?_ | refine Y4 (Ev.call (f := 59) (ck rfl) rfl (fun w5 S5 => hask w5 S5.toBelow)) ?_) | (refine M1 ?_; refine SC ?_) | (refine M2 ?_; refine SE ?_))
  by_cases h0 : askE t s i b.length = 0
  rotate_left
  · rw [if_pos h0] at hE
    rw [if_neg (by rw [hE]; exact h0)] at hN
    rw [show decide (askE t s i b.length = 0) = false from decide_eq_false h0]
    repeat (first | (refine M0 ?_; first | refine SL ?_ | refine SB fun _ _ => ?_) | (refine M1 ?_; refine SC ?_) | (refine M2 ?_; refine SE ?_))
    refine XC.cond _ rfl (fun h1 => ?_) (fun h1 => absurd (by simpa using h1) h0)
    repeat (first | (refine M0 ?_; first | refine SL ?_ | refine SB fun _ _ => ?_) | (refine M1 ?_; refine SC ?_) | (refine M2 ?_; refine SE ?_))
    refine XE.retg tok Try.results30 rfl (by simp only [and_self, and_true]) (fun w' S => ?_)
    rw [hN, hE]
    exact ⟨rfl, S.toBelow⟩
  rw [if_neg (by simp [h0])] at hE
  obtain ⟨hr0, hst, hi, hbl⟩ := askE_0 h0
  have ho := rtOk_of hr0
  rw [show decide (askE t s i b.length = 0) = true from decide_eq_true h0, h0]
  repeat (first | (refine M0 ?_; first | refine SL ?_ | refine SB fun _ _ => ?_ | refine Y4 (Ev.call (f := 60) (ck rfl) rfl (fun w5 S5 => hma w5)) ?_) | (refine M1 ?_; refine SC ?_) | (refine M2 ?_; refine SE ?_))
  refine XC.cond _ rfl (fun h1 => ?_) (fun h1 => ?_)
  · have h1' : f.length ≠ t.m := by have := of_decide_eq_true h1; omega
    rw [if_pos h1'] at hE
    rw [if_neg (by rw [hE]; decide)] at hN
    repeat (first | (refine M0 ?_; first | refine SL ?_ | refine SB fun _ _ => ?_) | (refine M1 ?_; refine SC ?_) | (refine M2 ?_; refine SE ?_))
    refine XE.retg tok Try.results30 rfl (by simp only [and_self, and_true]) (fun w' S => ?_)
    rw [hN, hE]
    exact ⟨rfl, S.toBelow⟩
  have h1' : f.length = t.m := by have := of_decide_eq_false h1; omega
  rw [if_neg (by simp [h1'])] at hE
  obtain ⟨j, rfl⟩ : ∃ j : Nat, i = j := ⟨i.toNat, by omega⟩
  have hj : j < t.outer.length := by omega
  rw [Int.toNat_natCast] at hE hN
  repeat (first | (refine M0 ?_; first | refine SL ?_ | refine SB fun _ _ => ?_) | (refine M1 ?_; refine SC ?_) | (refine M2 ?_; refine SE ?_))
  refine XL.step _ (Ev.call (f := 61) (ck rfl) rfl (fun w5 S5 => huse w5 S5.toBelow ho hst.vol hj hbl h1')) rfl ?_
  cases hU : t.use s.vol j b f with
  | none =>
    rw [hU] at hE
    simp only at hE
    rw [if_neg (by rw [hE]; decide)] at hN
    simp only [useV]
    repeat (first | (refine M0 ?_; first | refine SL ?_ | refine SB fun _ _ => ?_) | (refine M1 ?_; refine SC ?_) | (refine M2 ?_; refine SE ?_))
    refine XE.retg tok Try.results30 rfl (by simp only [and_self, and_true]) (fun w' S => ?_)
    rw [hN, hE]
    exact ⟨rfl, S.toBelow⟩
  | some y =>
    rw [hU] at hE hN
    simp only at hE
    rw [if_pos hE] at hN
    simp only [useV]
    repeat (first | (refine M0 ?_; first | refine SL ?_ | refine SB fun _ _ => ?_) | (refine M1 ?_; refine SC ?_) | (refine M2 ?_; refine SE ?_))
    refine XE.retg tok Try.results30 rfl (by simp only [and_self, and_true]) (fun w' S => ?_)
    rw [hN, hE]
    exact ⟨rfl, S.toBelow⟩
end Go.Proofs.Ytmckmlmfilmiaaa.X
/-
  The walks of the document's choices and Cheapest; the law RunoffUses.
-/
namespace Go.Proofs.Ytmckmlmfilmiaaa.Bs
open Go.Proofs.Ytmckmlmfilmiaaa.X
def chs (n m : Nat) : List (List Bool) := (List.range m).map (chc n)
theorem chs_succ (n m : Nat) : chs n (m + 1) = chs n m ++ [chc n m] := by unfold chs; rw [List.range_succ, List.map_append]; rfl
theorem chs_at {n m k : Nat} {α : Type} {es : List (α × List Bool)} (h : es.map (·.2) = chs n m) (hk : k < es.length) : es[k].2 = chc n k := by
  have h1 : (es.map (·.2))[k]? = (chs n m)[k]? := by rw [h]
  have h2 : es.length = m := by have := congrArg List.length h; simpa [chs] using this
  unfold chs at h1
  rw [List.getElem?_map, List.getElem?_map, List.getElem?_eq_getElem hk, List.getElem?_range (by omega)] at h1
  simpa using h1
theorem chc_pair {n i k : Nat} (hi : i < 2) (hk : k < 2 ^ n) : chc (n + 1) (i * 2 ^ n + k) = decide ((i : Int) = 1) :: chc n k := by
  match i, hi with
  | 0, _ => rw [Nat.zero_mul, Nat.zero_add, chc_0 hk]; rfl
  | 1, _ => rw [Nat.one_mul, chc_1 hk]; rfl
end Go.Proofs.Ytmckmlmfilmiaaa.Bs
namespace Go.Proofs.Ytmckmlmfilmiaaa.X
open Go Go.RowKit Go.Proofs.Ytmckmlmfilmiaaa.Bs
set_option linter.unusedVariables false
def ChoV (n : Nat) (x : Value) (new : List Held) : Prop := ∃ (q : SV) (es : List (SV × List Bool)), x = svV q ∧ es.map (·.2) = chs n (2 ^ n) ∧ new = [hList plnK q es]
structure CiSt where
  k : Nat
  W : World
  rq : SV
  es : List (SV × List Bool)
structure CiInv (w : World) (n a m : Nat) (q : SV) (e1 : List (SV × List Bool)) (ks : List Nat) (z : CiSt) : Prop where
  le : z.k ≤ m
  bel : Below w.heap.size w z.W
  fam : Fam z.W w.heap.size ks [⟨SV × List Bool, plnK, svV z.rq, z.es⟩] [hList plnK q e1]
  es : z.es.map (·.2) = chs n (a + z.k)
structure CoSt where
  i : Nat
  W : World
  rq : SV
  es : List (SV × List Bool)
structure CoInv (w : World) (n a : Nat) (q : SV) (e1 : List (SV × List Bool)) (ks : List Nat) (z : CoSt) : Prop where
  le : z.i ≤ 2
  bel : Below w.heap.size w z.W
  fam : Fam z.W w.heap.size ks [⟨SV × List Bool, plnK, svV z.rq, z.es⟩] [hList plnK q e1]
  es : z.es.map (·.2) = chs n (z.i * a)
set_option maxHeartbeats 8000000 in
theorem refChoices_made : ∀ {n : Nat}, n ≤ 4 → ∀ {w : World}, Calls Try.prog 64 #[.int .i64 (n : Nat)] w (Made w (ChoV n)) := by
  intro n
  induction n with
  | zero =>
    intro _ w
    refine enter Try.func64 rfl Try.ntmps64 rfl ?_; simp only [frame, Nat.zero_add, Nat.reduceAdd]
    repeat (first | (refine M0 ?_; first | refine SL ?_ | refine SB fun _ _ => ?_) | (refine M1 ?_; refine SC ?_) | (refine M2 ?_; refine SE ?_))
    refine XL.newRow tok (K := plnK) (l := [(⟨none, 0, 0⟩, [])]) rfl rfl rfl rfl rfl rfl rfl rfl rfl ⟨rfl, rfl⟩ rfl rfl (Fam.start (ks := []) (Nat.le_refl w.heap.size)) (fun _ h => by cases h) (Below.refl w.heap.size w) (Nat.le_refl _) (fun a ha x hx => by
      rw [List.mem_singleton.1 ha] at hx
      rw [List.mem_singleton.1 hx]
      exact ListAt.nil) (fun w7 g7 hF7 hB7 hk7 => ?_)
    repeat (first | (refine M0 ?_; first | refine SL ?_ | refine SB fun _ _ => ?_) | (refine M1 ?_; refine SC ?_) | (refine M2 ?_; refine SE ?_))
    refine XE.retg tok Try.results64 rfl (by simp only [and_self, and_true]) (fun w' S => ?_)
    have F9 := Fam.freeze (r := ⟨some ⟨g7, 0, none⟩, 1, 1⟩) (hF7.sys S ZZHL)
    refine ⟨_, _, rfl, ⟨⟨some ⟨g7, 0, none⟩, 1, 1⟩, [(⟨none, 0, 0⟩, [])], rfl, rfl, rfl⟩, fun x hx => ?_, hB7.trans S.toBelow⟩
    rw [List.mem_singleton.1 hx]
    exact F9.get (.head _)
  | succ n ih =>
    intro hn w
    have h8 : 2 ^ n ≤ 8 := by
      have : 2 ^ n ≤ 2 ^ 3 := Nat.pow_le_pow_right (by decide) (by omega)
      omega
    obtain ⟨M, hM⟩ : ∃ M, M = 2 ^ n := ⟨_, rfl⟩
    refine enter Try.func64 rfl Try.ntmps64 rfl ?_; simp only [frame, Nat.zero_add, Nat.reduceAdd]
    repeat (first | (refine M0 ?_; first | refine SL ?_ | refine SB fun _ _ => ?_) | (refine M1 ?_; refine SC ?_) | (refine M2 ?_; refine SE ?_))
    rw [show ((n + 1 : Nat) : Int) - 1 = (n : Nat) by omega]
    refine XL.callF (ks := []) (rs := []) (hs := []) (b0 := w.heap.size) (wE := w) (ChoV n) (ck rfl) rfl rfl (Fam.start (Nat.le_refl _)) (fun k hk => by cases hk) (Below.refl _ _) (fun w1 S1 _ hB1 => ih (by omega)) (fun w2 x new hR hF2 hB2 hk2 => ?_) (fun e he => by cases he)
    obtain ⟨⟨A1, n1, c1⟩, e1, rfl, he1, rfl⟩ := hR
    have hl1 : e1.length = 2 ^ n := by have := congrArg List.length he1; simpa [chs] using this
    have hp2 : ListAt plnK w2 _ ⟨A1, n1, c1⟩ e1 := hF2.held (hList plnK ⟨A1, n1, c1⟩ e1) (.head _)
    have hn1 := hp2.len (by decide)
    simp only at hn1
    subst hn1
    clear hp2
    rw [← hM] at hl1 h8
    have F2 : Fam w2 w.heap.size [] [⟨SV × List Bool, plnK, svV ⟨none, 0, 0⟩, []⟩] [hList plnK ⟨A1, e1.length, c1⟩ e1] := hF2.nil plnK
    simp only [svV]
    repeat (first | (refine M0 ?_; first | refine SL ?_ | refine SB fun _ _ => ?_) | (refine M1 ?_; refine SC ?_) | (refine M2 ?_; refine SE ?_))
    refine XC.loopk [4] rfl (fun z : CoSt => [(5, .int .i64 (z.i : Nat)), (3, svV z.rq)]) (fun _ => []) (fun z => z.W) (CoInv w (n + 1) M ⟨A1, e1.length, c1⟩ e1 []) (fun z => 2 - z.i) ⟨0, w2, ⟨none, 0, 0⟩, []⟩ ⟨Nat.zero_le _, hB2, F2, by simp [chs]⟩ ZZSUB (fun _ h => h) ?_
    clear hF2 F2 hB2 hk2
    rintro ⟨i, W, rq, es⟩ ⟨hi, hBW, hFW, hes⟩
    simp only at hi hBW hFW hes
    simp only [svV]
    dsimp only [List.cons_append, List.nil_append]
    repeat (first | (refine M0 ?_; first | refine SL ?_ | refine SB fun _ _ => ?_) | (refine M1 ?_; refine SC ?_) | (refine M2 ?_; refine SE ?_))
    refine XC.cond _ rfl (fun h2 => ?_) (fun h2 => ?_)
    rotate_left
    · have hi2 : i = 2 := by have := of_decide_eq_false h2; omega
      subst hi2
      repeat (first | (refine M0 ?_; first | refine SL ?_ | refine SB fun _ _ => ?_) | (refine M1 ?_; refine SC ?_) | (refine M2 ?_; refine SE ?_))
      refine XE.retg tok Try.results64 rfl (by simp only [and_self, and_true]) (fun w' S => ?_)
      have F9 := Fam.freeze (r := rq) (hFW.sys S ZZHL)
      refine ⟨_, _, rfl, ⟨rq, es, rfl, ?_, rfl⟩, fun x hx => ?_, hBW.trans S.toBelow⟩
      · rw [hes, Nat.pow_succ, ← hM, Nat.mul_comm]
      · rw [List.mem_singleton.1 hx]
        exact F9.get (.head _)
    have hi2 : i < 2 := by have := of_decide_eq_true h2; omega
    repeat (first | (refine M0 ?_; first | refine SL ?_ | refine SB fun _ _ => ?_) | (refine M1 ?_; refine SC ?_) | (refine M2 ?_; refine SE ?_))
    refine XC.loopk [4, 5] rfl (fun z : CiSt => [(6, .int .i64 (z.k : Nat)), (3, svV z.rq)]) (fun _ => []) (fun z => z.W) (CiInv w (n + 1) (i * M) M ⟨A1, e1.length, c1⟩ e1 []) (fun z => M - z.k) ⟨0, W, rq, es⟩ ⟨Nat.zero_le _, hBW, hFW, hes⟩ ZZSUB (fun _ h => h) ?_
    clear hes hFW hBW W rq es
    rintro ⟨k, W, rq, es⟩ ⟨hk, hBW, hFW, hes⟩
    simp only at hk hBW hFW hes
    simp only [svV]
    dsimp only [List.cons_append, List.nil_append]
    repeat (first | (refine M0 ?_; first | refine SL ?_ | refine SB fun _ _ => ?_) | (refine M1 ?_; refine SC ?_) | (refine M2 ?_; refine SE ?_))
    refine XC.cond _ rfl (fun h3 => ?_) (fun h3 => ?_)
    rotate_left
    · have hkM : k = M := by have := of_decide_eq_false h3; omega
      subst hkM
      repeat (first | (refine M0 ?_; first | refine SL ?_ | refine SB fun _ _ => ?_) | (refine M1 ?_; refine SC ?_) | (refine M2 ?_; refine SE ?_))
      refine XE.roundW (s := CoSt.mk i W rq es) (fun w6 S6 => ⟨CoSt.mk (i + 1) w6 rq es, ⟨hi2, hBW.trans S6.toBelow, hFW.sys S6 ZZHL, ?_⟩, by simp only; omega, ZZSUB, S6.rebase ZZSL⟩)
      simp only
      rw [hes, Nat.add_mul, Nat.one_mul]
    have hkM : k < M := by have := of_decide_eq_true h3; omega
    have hke : k < e1.length := by omega
    have hel : es.length = i * M + k := by have := congrArg List.length hes; simpa [chs] using this
    have hiM : i * M ≤ 1 * 8 := Nat.mul_le_mul (by omega) h8
    repeat (first | (refine M0 ?_; first | refine SL ?_ | refine SB fun _ _ => ?_) | (refine M1 ?_; refine SC ?_) | (refine M2 ?_; refine SE ?_))
    refine XL.newRow tok (K := boolK) (l := [decide ((i : Int) = 1)]) rfl rfl rfl rfl rfl rfl rfl rfl rfl ⟨rfl, rfl⟩ rfl rfl hFW (fun _ h => by cases h) hBW hBW.size (fun a ha x hx => by cases hx) (fun w7 g7 hF7 hB7 hk7 => ?_)
    have hp7 : ListAt plnK w7 _ ⟨A1, e1.length, c1⟩ e1 := hF7.held (hList plnK ⟨A1, e1.length, c1⟩ e1) (.head _)
    obtain ⟨a1, ha1, hf1⟩ := hp7.addr (by decide) (by omega)
    subst ha1
    have hcell := hp7.elem (List.getElem?_eq_getElem hke) 0 (svV e1[k].1) rfl
    rw [add_add, Nat.add_zero] at hcell
    have hb7 : ListAt boolK w7 _ e1[k].1 e1[k].2 := hp7.ins e1[k] (List.getElem_mem hke) (hList boolK e1[k].1 e1[k].2) (.head _)
    have hon := chs_at he1 hke
    obtain ⟨oq, hoq⟩ : ∃ oq, oq = e1[k].1 := ⟨_, rfl⟩
    obtain ⟨on, hon'⟩ : ∃ on, on = e1[k].2 := ⟨_, rfl⟩
    rw [← hoq] at hcell hb7
    rw [← hon'] at hb7 hon
    have honl : on.length = n := by rw [hon, chc_len]
    simp only [svV] at hcell
    repeat (first | (refine M0 ?_; first | refine SL ?_ | refine SB fun _ _ => ?_ | refine Y4 (Ev.load_far tok rfl rfl (by rw [add_block]; exact hf1.2.1) (Free.far hf1 ZZHL) hcell) ?_) | (refine M1 ?_; refine SC ?_) | (refine M2 ?_; refine SE ?_))
    refine XL.pushL (K := boolK) (l := [decide ((i : Int) = 1)]) (l2 := on) (r2 := oq) (wE := w) 0 bools_el (by decide) rfl rfl rfl hF7 rfl hk7 hB7 (Nat.le_refl _) (fun w9 S9 => hb7.sys S9 (fun j hj => ⟨hj.2.1, fun e he => by cases he⟩)) (fun a ha x hx => by cases hx) (fun a => rfl) (by simp; omega) (by decide) (fun w8 v8 hF8 hB8 hk8 => ?_)
    obtain ⟨r8, rfl, hn8⟩ := hF8.sv (K := boolK) (l := [decide ((i : Int) = 1)] ++ on) (.head _)
    have F8 := Fam.freeze (r := r8) hF8
    simp only [svV]
    repeat (first | (refine M0 ?_; first | refine SL ?_ | refine SB fun _ _ => ?_ | refine XL.buildSlice tok rfl rfl rfl rfl rfl rfl rfl rfl rfl (fun _ _ => ?_)) | (refine M1 ?_; refine SC ?_) | (refine M2 ?_; refine SE ?_))
    refine XL.push (K := plnK) (a := (r8, [decide ((i : Int) = 1)] ++ on)) (wE := w) 0 plan_el (by decide) rfl rfl rfl F8 rfl hk8 hB8 (Nat.le_refl _) rfl (by omega) (by decide) (fun x hx => by rw [List.mem_singleton.1 hx]; exact .head _) (fun w9 v9 hF9 hB9 hk9 => ?_)
    obtain ⟨r9, rfl, hn9⟩ := hF9.sv (K := plnK) (l := es ++ [(r8, [decide ((i : Int) = 1)] ++ on)]) (.head _)
    simp only [svV]
    repeat (first | (refine M0 ?_; first | refine SL ?_ | refine SB fun _ _ => ?_) | (refine M1 ?_; refine SC ?_) | (refine M2 ?_; refine SE ?_))
    refine XE.roundW (s := CiSt.mk k W rq es) (fun w6 S6 => ⟨CiSt.mk (k + 1) w6 r9 (es ++ [(r8, [decide ((i : Int) = 1)] ++ on)]), ⟨hkM, hB9.trans S6.toBelow, Fam.forget ((hF9.sys S6 ZZHL).add (ks' := []) (fun k hk => by cases hk)) (fun x hx => by rw [List.mem_singleton.1 hx]; simp), ?_⟩, by simp only; omega, ZZSUB, S6.rebase ZZSL⟩)
    simp only
    rw [List.map_append, hes, ← Nat.add_assoc, chs_succ, hM, chc_pair hi2 (by omega), hon]
    rfl
end Go.Proofs.Ytmckmlmfilmiaaa.X
/-
  The walk of the document's do (runoff).
-/
namespace Go.Proofs.Ytmckmlmfilmiaaa.X
open Go Go.RowKit Go.Proofs.Ytmckmlmfilmiaaa.Bs
set_option linter.unusedVariables false
theorem refStep_madeR {p : BV} {b : Bas} {q : SV} {s : Sta} {t : Tick} {w : World} (hb : BasAt w w.heap.size p b) (hq : IntsAt w (Lt w.heap.size) q s.fil) (hc : chkE b = 0) (hs : StaOk b s) :
    Calls Try.prog 77 #[basV p b, staV q s, tickV t] w (Made w (StepMV b s t)) :=
  (refStepC_any (t := t) hb hq).mono fun e w' ⟨v, h1, ⟨q2, r2, h2, h3, h4, h5⟩⟩ => by
    obtain ⟨f1, f2, f3⟩ := full_0 (t := t) (staErr_ok hc hs)
    rw [f1, f2, f3] at h2
    rw [f2] at h3
    rw [f3] at h4
    exact ⟨v, _, h1, ⟨q2, r2, h2, rfl⟩, fun x hx => by
      rcases List.mem_cons.1 hx with rfl | hx
      · exact h3
      · rw [List.mem_singleton.1 hx]; exact h4, h5⟩
set_option maxHeartbeats 16000000 in
theorem refDo_made {v : RTV} {p q sq : SV} {t : RTk} {s : Sta} {i : Nat} {before on : List Bool} {w : World} (ht : TskAt w w.heap.size v t) (hc0 : chkE t.b = 0) (ho : RtOk t) (hq : IntsAt w (Lt w.heap.size) sq s.fil) (hs : StaOk t.b s) (hi : i < t.outer.length)
    (hb : ListAt boolK w (Lt w.heap.size) p before) (hbl : before.length = t.m) (hf : ListAt boolK w (Lt w.heap.size) q on) (hfl : on.length = t.m) :
    Calls Try.prog 50 #[tskV v t, staV sq s, .int .i64 (i : Nat), svV p, svV q] w (Made w (DoV (t.doE s i before on) (t.doD s i before on))) := by
  have huse := fun {L : Lo} (w5 : World) (S5 : Sys w.heap.size w L w5) => ref7Use_any (sq := sq) (ht.sys S5) ho hs.vol hi (hb.arg S5) hbl (hf.arg S5) hfl
  have hex := fun (x : Int) (hx : (t.b.row 0).vol ≤ x ∧ x ≤ 1000000000) (w5 : World) (hB : Below w.heap.size w w5) => ref7Exact_any (ht.sys (Sys.ofBelow hB)).bas ho.ok.rowsOk hx
  have hbas := ht.bas
  obtain ⟨⟨Ab, nb, cb, Ab2, nb2, cb2⟩, tq, ⟨Ao, no, co⟩, ⟨Ar, nr, cr⟩, ⟨Ac, nc, cc⟩, su, pu, ton⟩ := v
  have hout := ht.outer
  have hriv := ht.river
  have hpri := ht.prices
  simp only at hout hriv hpri hbas
  have lo := hout.len
  have lr := hriv.len
  have lc := hpri.len
  simp only at lo lr lc
  subst lo lr lc
  have hrl := ho.river
  have hpl := ho.prices
  obtain ⟨ao, rfl, hlo, hco⟩ := hout.at_ (by omega)
  obtain ⟨ar, rfl, hlr, hcr⟩ := hriv.at_ (by omega)
  obtain ⟨ac, rfl, hlc, hcc⟩ := hpri.at_ (by omega)
  have dO := hco i hi
  have dR := hcr i (by omega)
  have dC := hcc i (by omega)
  have hE : t.doE s i before on = match t.use s.vol i before on with
    | none => 170
    | some (f, _) =>
      if stepE t.b s (t.tickOf i f) ≠ 0 then 173
      else if num t.b (outS t.b s (t.tickOf i f)).vol < t.low * den t.b (outS t.b s (t.tickOf i f)).vol then 171
      else if t.high * den t.b (outS t.b s (t.tickOf i f)).vol < num t.b (outS t.b s (t.tickOf i f)).vol then 172 else 0 := rfl
  have hD : t.doE s i before on ≠ 0 → t.doD s i before on = Done.zero := fun h => by unfold RTk.doD; rw [if_neg h]
  have hDs := do_sta ho hs hi (b := before) (f := on)
  simp only [tskV, tskC, staV, staC, svV] at huse ⊢
  refine enter Try.func50 rfl Try.ntmps50 rfl ?_; simp only [frame, Nat.zero_add, Nat.reduceAdd]
  repeat (first | (refine M0 ?_; first | refine SL ?_ | refine SB fun _ _ => ?_ | refine Y4 (Ev.call (f := 61) (ck rfl) rfl (fun w5 S5 => huse w5 S5)) ?_) | (refine M1 ?_; first | refine SC ?_ | refine SD ?_) | (refine M2 ?_; refine SE ?_) | (refine M3 ?_; first | refine SG ?_ | refine SF ?_ | refine YF (Ev.call (f := 61) (ck rfl) rfl (fun w5 S5 => huse w5 S5)) ?_) | (refine M4 ?_; refine SR ?_) | (refine M5 ?_; first | exact M7 | refine YM ?_ | refine YN ?_ ?_))
  rename_i g5 hg5 g6 hg6 g10 hg10
  cases hu : t.use s.vol i before on with
  | none =>
    rw [hu] at hE
    have hE : t.doE s i before on = 170 := hE
    simp only [useV]
    repeat (first | (refine M0 ?_; first | refine SL ?_ | refine SB fun _ _ => ?_) | (refine M1 ?_; first | refine SC ?_ | refine SD ?_) | (refine M2 ?_; refine SE ?_) | (refine M3 ?_; first | refine SG ?_ | refine SF ?_) | (refine M4 ?_; refine SR ?_) | (refine M5 ?_; first | exact M7 | refine YM ?_ | refine YN ?_ ?_))
    refine XE.retg tok Try.results50 rfl (by simp only [and_self, and_true]) (fun w' S => ?_)
    rw [hE, hD (by rw [hE]; decide)]
    exact ⟨_, _, rfl, ⟨⟨none, 0, 0⟩, rfl, rfl⟩, fun x hx => by rw [List.mem_singleton.1 hx]; exact IntsAt.nil, S.toBelow⟩
  | some pr =>
  obtain ⟨f, e⟩ := pr
  rw [hu] at hE
  simp only at hE
  have hub := use_bd ho hs.vol hi hu
  simp only at hub
  simp only [useV]
  obtain ⟨tk, htk⟩ : ∃ tk, tk = t.tickOf i f := ⟨_, rfl⟩
  rw [← htk] at hE
  have htkv : tickV tk = .agg ⟨[.int .i64 (at0 t.outer i), .int .i64 (at0 t.river i), .int .i64 f]⟩ := by rw [htk]; rfl
  have hstep := fun {L : Lo} (w5 : World) (S5 : Sys w.heap.size w L w5) => refStep_madeR (t := tk) (hbas.sys S5) (hq.arg S5) hc0 hs
  rw [htkv] at hstep
  simp only [basV, basC, staV, staC] at hstep
  obtain ⟨tc, htc⟩ : ∃ tc : List Value, tc = [.slice Ab nb cb, .int .i64 t.b.leak, .int .i64 t.b.crest, .int .i64 t.b.over, .slice Ab2 nb2 cb2, .int .i64 t.s.vol, .slice tq.A tq.n tq.c, .slice (some ao) t.outer.length co, .slice (some ar) t.river.length cr, .slice (some ac) t.prices.length cc, .int .i64 t.low, .int .i64 t.high, .slice su.A su.n su.c, .slice pu.A pu.n pu.c, .slice ton.A ton.n ton.c] := ⟨_, rfl⟩
  repeat (first | (refine M0 ?_; first | refine SL ?_ | refine SB fun _ _ => ?_) | (refine M1 ?_; refine SC ?_) | (refine M2 ?_; refine SE ?_))
  refine XC.rebase (List.Sublist.refl _) (fun W0 S0 => ?_)
  have hB0 := S0.toBelow
  have hF0 : Fam W0 w.heap.size [g10, g6, g5] [] [] := Fam.start S0.size
  have hk0 : ∀ k, k ∈ [g10, g6, g5] → k < W0.heap.size := fun k hk => S0.keyLt k hk
  refine XC.cutn [2, 3, 4, 5, 6, 10, 12, 13] rfl (fun z : World × Nat × SV => [(15, .pointer (some ⟨z.2.1, 0, none⟩)), (17, .int .i64 (stepE t.b s tk))]) (fun z => [(z.2.1, cel 28 (staC z.2.2 (outS t.b s tk))), (g10, cel 82 [.int .i64 0, .slice none 0 0, .int .i64 0, .int .i64 0, .int .i64 0]), (g6, cel 28 [.int .i64 s.vol, .slice sq.A sq.n sq.c]), (g5, cel 33 [.slice Ab nb cb, .int .i64 t.b.leak, .int .i64 t.b.crest, .int .i64 t.b.over, .slice Ab2 nb2 cb2, .int .i64 t.s.vol, .slice tq.A tq.n tq.c, .slice (some ao) t.outer.length co, .slice (some ar) t.river.length cr, .slice (some ac) t.prices.length cc, .int .i64 t.low, .int .i64 t.high, .slice su.A su.n su.c, .slice pu.A pu.n pu.c, .slice ton.A ton.n ton.c])]) (fun z => z.1) (fun z => Below w.heap.size w z.1 ∧ Fam z.1 w.heap.size [z.2.1, g10, g6, g5] [] [hInts z.2.2 (outS t.b s tk).fil] ∧ ∀ k, k ∈ [z.2.1, g10, g6, g5] → k < z.1.heap.size) ?_ ?_
  · refine XC.drawRS _ [(g10, _), (g6, _), (g5, _)] [0, 1, 2, 3, 4, 5, 6, 7, 8, 9, 10, 11, 12, 13, 14] [15, 16, 17, 18, 19, 20, 21, 22, 23, 24] mixed (fun _ h => Sys.anchor2 (by assumption) h ZZSM) rfl (by kernel_rfl) ?_
    repeat (any_goals (first | (refine M0 ?_; first | refine SL ?_ | refine SB fun _ _ => ?_ | refine Y4 (Ev.load_old tok rfl rfl (add_lt hlo) dO) ?_ | refine Y4 (Ev.load_old tok rfl rfl (add_lt hlr) dR) ?_ | (refine XL.at_call 77 ?_; refine XL.callF (StepMV t.b s tk) (ck rfl) rfl rfl (by assumption) (by assumption) (by assumption) (fun w1 S1 _ hB1 => hstep w1 (Sys.ofBelow hB1)) (fun w2 x new hR hF2 hB2 hk2 => ?_); obtain ⟨q2, r2, rfl, rfl⟩ := hR; simp only [staV, staC, floV, floC])) | (refine M1 ?_; refine SC ?_) | (refine M2 ?_; refine SE ?_) | (refine M3 ?_; first | refine SG ?_ | refine SF ?_ | refine YF (Ev.load_old tok rfl rfl (add_lt hlo) dO) ?_ | refine YF (Ev.load_old tok rfl rfl (add_lt hlr) dR) ?_) | (refine M4 ?_; refine SR ?_) | (refine M5 ?_; first | exact M7 | refine YM ?_ | refine YN ?_ ?_)))
    any_goals (repeat (first | exact AnyR.nil | refine AnyR.skip rfl ?_))
    all_goals
      refine XE.leafW (fun w9 S9 => ?_)
      apply Exists.intro (w9, _, q2)
      refine ⟨?pre, ?sub, ?sys⟩
      case sub => repeat (first | exact Sub.nil | refine Sub.cons rfl ?_)
      case sys => exact S9.rebase ZZSM
      case pre => exact ⟨Below.trans (by assumption) S9.toBelow, Fam.forget (Fam.add (Fam.atEnd (by assumption) S9 ZZHL) (fun k hk => by left; simp only [List.mem_cons, List.not_mem_nil, or_false] at hk; simp only [List.map_cons, List.map_nil, List.mem_append, List.mem_cons, List.not_mem_nil, or_false]; omega)) (fun x hx => by simp only [List.mem_cons, List.not_mem_nil, or_false] at hx; subst hx; simp), fun k hk => S9.keyLt k (by simp only [List.map_cons, List.map_nil, List.mem_cons, List.not_mem_nil, or_false] at hk ⊢; omega)⟩
  rintro ⟨W1, g15, q1⟩ ⟨hB1, hF1, hk1⟩
  simp only at hB1 hF1 hk1
  dsimp only [List.cons_append, List.nil_append]
  refine XC.hint 15 3 ?_
  repeat (first | (refine M0 ?_; first | refine SL ?_ | refine SB fun _ _ => ?_) | (refine M1 ?_; refine SC ?_) | (refine M2 ?_; refine SE ?_))
  refine XC.cond _ rfl (fun h1 => ?_) (fun h1 => ?_)
  · repeat (first | (refine M0 ?_; first | refine SL ?_ | refine SB fun _ _ => ?_) | (refine M1 ?_; refine SC ?_) | (refine M2 ?_; refine SE ?_))
    have hE3 : t.doE s i before on = 173 := by rw [hE, if_pos (by simpa using h1)]
    refine XE.retg tok Try.results50 rfl (by simp only [and_self, and_true]) (fun w' S => ?_)
    rw [hE3, hD (by rw [hE3]; decide)]
    exact ⟨_, _, rfl, ⟨⟨none, 0, 0⟩, rfl, rfl⟩, fun x hx => by rw [List.mem_singleton.1 hx]; exact IntsAt.nil, hB1.trans S.toBelow⟩
  have hs0 : stepE t.b s tk = 0 := by simpa using h1
  rw [if_neg (by simpa using hs0)] at hE
  have hso : StaOk t.b (outS t.b s tk) := by
    have := stepS_ok ho.ok hs hs0
    rw [← outS_0 hs0] at this
    exact this
  have hR := ho.ok.rowsOk
  have hnb := num_bd hR hso.vol
  have hdb := parts_bd hR hso.vol
  have hdp := den_pos hR (outS t.b s tk).vol
  have hex := fun (w5 : World) (hB : Below w.heap.size w w5) => hex (outS t.b s tk).vol hso.vol w5 hB
  obtain ⟨y, hy⟩ : ∃ y, y = (outS t.b s tk).vol := ⟨_, rfl⟩
  obtain ⟨n, hn⟩ : ∃ n, n = num t.b (outS t.b s tk).vol := ⟨_, rfl⟩
  obtain ⟨d, hd⟩ : ∃ d, d = den t.b (outS t.b s tk).vol := ⟨_, rfl⟩
  rw [← hn, ← hd] at hex hE
  rw [← hn] at hnb
  rw [← hd] at hdb hdp
  rw [← hy] at hex
  simp only [basV, basC] at hex
  have hl := ho.low
  have hh := ho.high
  have hrow0 := (ho.ok.level 0 (by have := ho.ok.n2; omega)).1
  have hm1 := mul_bd (X := 20000) (Y := 1000000000) (x := t.low) (y := d) (by omega) (by omega)
  have hm2 := mul_bd (X := 20000) (Y := 1000000000) (x := t.high) (y := d) (by omega) (by omega)
  simp only [staC]
  rw [← hy]
  repeat (first | (refine M0 ?_; first | refine SL ?_ | refine SB fun _ _ => ?_ | refine Y4 (Ev.call (f := 78) (ck rfl) rfl (fun w5 S5 => hex w5 (hB1.trans S5.toBelow))) ?_) | (refine M1 ?_; first | refine SC ?_ | refine SD ?_) | (refine M2 ?_; refine SE ?_) | (refine M3 ?_; first | refine SG ?_ | refine SF ?_ | refine YF (Ev.call (f := 78) (ck rfl) rfl (fun w5 S5 => hex w5 (hB1.trans S5.toBelow))) ?_) | (refine M4 ?_; refine SR ?_) | (refine M5 ?_; first | exact M7 | refine YM ?_ | refine YN ?_ ?_))
  refine XC.cond _ rfl (fun h2 => ?_) (fun h2 => ?_)
  · repeat (first | (refine M0 ?_; first | refine SL ?_ | refine SB fun _ _ => ?_) | (refine M1 ?_; refine SC ?_) | (refine M2 ?_; refine SE ?_))
    have hE4 : t.doE s i before on = 171 := by rw [hE, if_pos (by simpa using h2)]
    refine XE.retg tok Try.results50 rfl (by simp only [and_self, and_true]) (fun w' S => ?_)
    rw [hE4, hD (by rw [hE4]; decide)]
    exact ⟨_, _, rfl, ⟨⟨none, 0, 0⟩, rfl, rfl⟩, fun x hx => by rw [List.mem_singleton.1 hx]; exact IntsAt.nil, hB1.trans S.toBelow⟩
  rw [if_neg (by simpa using h2)] at hE
  repeat (first | (refine M0 ?_; first | refine SL ?_ | refine SB fun _ _ => ?_) | (refine M1 ?_; first | refine SC ?_ | refine SD ?_) | (refine M2 ?_; refine SE ?_) | (refine M3 ?_; first | refine SG ?_ | refine SF ?_) | (refine M4 ?_; refine SR ?_) | (refine M5 ?_; first | exact M7 | refine YM ?_ | refine YN ?_ ?_))
  refine XC.cond _ rfl (fun h3 => ?_) (fun h3 => ?_)
  · repeat (first | (refine M0 ?_; first | refine SL ?_ | refine SB fun _ _ => ?_) | (refine M1 ?_; refine SC ?_) | (refine M2 ?_; refine SE ?_))
    have hE5 : t.doE s i before on = 172 := by rw [hE, if_pos (by simpa using h3)]
    refine XE.retg tok Try.results50 rfl (by simp only [and_self, and_true]) (fun w' S => ?_)
    rw [hE5, hD (by rw [hE5]; decide)]
    exact ⟨_, _, rfl, ⟨⟨none, 0, 0⟩, rfl, rfl⟩, fun x hx => by rw [List.mem_singleton.1 hx]; exact IntsAt.nil, hB1.trans S.toBelow⟩
  rw [if_neg (by simpa using h3)] at hE
  repeat (first | (refine M0 ?_; first | refine SL ?_ | refine SB fun _ _ => ?_) | (refine M1 ?_; refine SC ?_) | (refine M2 ?_; refine SE ?_))
  obtain ⟨hso', _, _, pr2, hu2, _, hDD⟩ := hDs hE
  have hpr : pr2 = (f, e) := by rw [hu] at hu2; exact (Option.some.inj hu2).symm
  subst hpr
  rw [← htk] at hDD
  have hpi := ho.pri_ i hi
  have hmm := mul_bd (X := 20000000000) (Y := 10000) (x := e) (y := at0 t.prices i) (by omega) (by omega)
  have hv15 : ∀ (k : Nat) (u : Value), ([.int .i64 y, .slice q1.A q1.n q1.c] : List Value)[k]? = some u → ([.int .i64 y, .slice q1.A q1.n q1.c] : List Value)[0 + 0 + k]? = some u := fun k u h => by rw [show 0 + 0 + k = k by omega]; exact h
  have dC1 := (below_cell hB1 (ad := ac.add (i * 1)) (add_lt hlc)).trans dC
  refine XC.drawRS _ [(g15, _), (g6, _), (g5, _)] [0, 1, 2, 3, 4, 5, 6, 7, 8, 9, 10] [11, 12] mixed (fun _ h => Sys.anchor2 (by assumption) h ZZSM) rfl (by kernel_rfl) ?_
  repeat (any_goals (first | (refine M0 ?_; first | refine SL ?_ | refine SB fun _ _ => ?_ | refine Y4 (Ev.load_at_agg tok 1 (g := g15) (o := 0) (j := 0) rfl rfl rfl rfl hv15) ?_ | refine Y4 (Ev.load_old tok rfl rfl (add_lt hlc) dC) ?_) | (refine M1 ?_; refine SC ?_) | (refine M2 ?_; refine SE ?_) | (refine M3 ?_; first | refine SG ?_ | refine SF ?_ | refine YF (Ev.load_at_agg tok 1 (g := g15) (o := 0) (j := 0) rfl rfl rfl rfl hv15) ?_ | refine YF (Ev.load_old tok rfl rfl (add_lt hlc) dC) ?_) | (refine M4 ?_; refine SR ?_) | (refine M5 ?_; first | exact M7 | refine YM ?_ | refine YN ?_ ?_)))
  any_goals (repeat (first | exact AnyR.nil | refine AnyR.skip rfl ?_))
  all_goals
    refine XE.retg tok Try.results50 rfl (by simp only [and_self, and_true]) (fun w' S => ?_)
    rw [hE, hDD]
    subst hy
    exact ⟨_, _, rfl, ⟨q1, rfl, rfl⟩, fun x hx => by rw [List.mem_singleton.1 hx]; exact Fam.get (hF1.sys S ZZHL) (.head _), hB1.trans S.toBelow⟩
end Go.Proofs.Ytmckmlmfilmiaaa.X
/-
  The walks of the document's Do and Cost (runoff); the law RunoffDoes.
-/
namespace Go.Proofs.Ytmckmlmfilmiaaa.X
open Go Go.RowKit Go.Proofs.Ytmckmlmfilmiaaa.Bs
set_option linter.unusedVariables false
set_option maxHeartbeats 4000000 in
theorem refShaped_any {v : RTV} {t : RTk} {pq : SV} {es : List (SV × List Bool)} {w : World} (ht : TskAt w w.heap.size v t) (ho : RtOk t) (hp : ListAt plnK w (Lt w.heap.size) pq es) :
    Calls Try.prog 49 #[tskV v t, svV pq] w fun e w' => e = .returned (.bool (t.shaped (es.map (·.2)))) ∧ Below w.heap.size w w' := by
  have hs2 := ho.s2
  have hp2 := ho.p2
  have hn6 := ho.n6
  have hmm : t.m = t.many := t.devs_len
  have hma := fun (w5 : World) => many_any (v := v) (t := t) (w := w5) (ht.slu.len (by decide)) (ht.pmp.len (by decide)) (by omega)
  have lo := ht.outer.len
  have hmx := hp.max
  obtain ⟨Ap, np, cp⟩ := pq
  have lp := hp.len (by decide)
  simp only at lp hmx
  subst lp
  simp only [tskV, tskC, svV] at hma ⊢
  rw [← hmm] at hma
  have hS : t.shaped (es.map (·.2)) = (decide (es.length = t.outer.length) && es.all fun e => decide (e.2.length = t.m)) := by
    unfold RTk.shaped RTk.n
    rw [List.length_map, List.all_map]; rfl
  refine enter Try.func49 rfl Try.ntmps49 rfl ?_; simp only [frame, Nat.zero_add, Nat.reduceAdd]
  repeat (first | (refine M0 ?_; first | refine SL ?_ | refine SB fun _ _ => ?_) | (refine M1 ?_; refine SC ?_) | (refine M2 ?_; refine SE ?_))
  rename_i g2 hg2
  by_cases hL : es.length = t.outer.length
  rotate_left
  · rw [show decide ((es.length : Int) ≠ (v.o.n : Int)) = true from decide_eq_true (by omega)]
    repeat (first | (refine M0 ?_; first | refine SL ?_ | refine SB fun _ _ => ?_) | (refine M1 ?_; refine SC ?_) | (refine M2 ?_; refine SE ?_))
    refine XE.retg tok Try.results49 rfl (by simp only [and_self, and_true]) (fun w' S => ?_)
    rw [hS, decide_eq_false hL]
    exact ⟨rfl, S.toBelow⟩
  rw [show decide ((es.length : Int) ≠ (v.o.n : Int)) = false from decide_eq_false (by omega)]
  rw [decide_eq_true hL, Bool.true_and] at hS
  repeat (first | (refine M0 ?_; first | refine SL ?_ | refine SB fun _ _ => ?_) | (refine M1 ?_; refine SC ?_) | (refine M2 ?_; refine SE ?_))
  refine XC.loopk [1, 2] rfl (fun k : Nat => [(5, .int .i64 (k : Nat))]) (fun _ => [(g2, cel 33 (tskC v t))]) (fun _ => w) (fun k => k ≤ es.length ∧ ∀ e, e ∈ es.take k → e.2.length = t.m) (fun k => es.length - k) 0 ⟨Nat.zero_le _, fun e h => by cases h⟩ ZZSUB (fun _ h => h) ?_
  rintro k ⟨hk, h0⟩
  simp only [tskC]
  dsimp only [List.cons_append, List.nil_append]
  repeat (first | (refine M0 ?_; first | refine SL ?_ | refine SB fun _ _ => ?_) | (refine M1 ?_; refine SC ?_) | (refine M2 ?_; refine SE ?_))
  refine XC.cond _ rfl (fun h2 => ?_) (fun h2 => ?_)
  rotate_left
  · have hkn : k = es.length := by have := of_decide_eq_false h2; omega
    subst hkn
    repeat (first | (refine M0 ?_; first | refine SL ?_ | refine SB fun _ _ => ?_) | (refine M1 ?_; refine SC ?_) | (refine M2 ?_; refine SE ?_))
    refine XE.retg tok Try.results49 rfl (by simp only [and_self, and_true]) (fun w' S => ?_)
    rw [List.take_length] at h0
    rw [hS, List.all_eq_true.2 fun e he => decide_eq_true (h0 e he)]
    exact ⟨rfl, S.toBelow⟩
  have hkn : k < es.length := by have := of_decide_eq_true h2; omega
  obtain ⟨ap, rfl, hlp⟩ := hp.addr (by decide) (by omega)
  have hcell := hp.elem (List.getElem?_eq_getElem hkn) 0 (svV es[k].1) rfl
  rw [add_add, Nat.add_zero] at hcell
  have hon : ListAt boolK w (Lt w.heap.size) es[k].1 es[k].2 := hp.ins es[k] (List.getElem_mem hkn) (hList boolK es[k].1 es[k].2) (.head _)
  have hol := hon.len (by decide)
  have hcell : w.cell? (ap.add (k * 1)) = some (.slice es[k].1.A es[k].1.n es[k].1.c) := hcell
  rw [hol] at hcell
  repeat (first | (refine M0 ?_; first | refine SL ?_ | refine SB fun _ _ => ?_ | refine Y4 (Ev.load_old tok rfl rfl (add_lt hlp) hcell) ?_ | refine Y4 (Ev.call (f := 60) (ck rfl) rfl (fun w5 S5 => hma w5)) ?_) | (refine M1 ?_; first | refine SC ?_ | refine SD ?_) | (refine M2 ?_; refine SE ?_) | (refine M3 ?_; first | refine SG ?_ | refine SF ?_ | refine YF (Ev.load_old tok rfl rfl (add_lt hlp) hcell) ?_ | refine YF (Ev.call (f := 60) (ck rfl) rfl (fun w5 S5 => hma w5)) ?_) | (refine M4 ?_; refine SR ?_) | (refine M5 ?_; first | exact M7 | refine YM ?_ | refine YN ?_ ?_))
  refine XC.cond _ rfl (fun h3 => ?_) (fun h3 => ?_)
  · have hne : es[k].2.length ≠ t.m := by have := of_decide_eq_true h3; omega
    repeat (first | (refine M0 ?_; first | refine SL ?_ | refine SB fun _ _ => ?_) | (refine M1 ?_; first | refine SC ?_ | refine SD ?_) | (refine M2 ?_; refine SE ?_) | (refine M3 ?_; first | refine SG ?_ | refine SF ?_) | (refine M4 ?_; refine SR ?_) | (refine M5 ?_; first | exact M7 | refine YM ?_ | refine YN ?_ ?_))
    refine XE.retg tok Try.results49 rfl (by simp only [and_self, and_true]) (fun w' S => ?_)
    rw [hS, List.all_eq_false.2 ⟨es[k], List.getElem_mem hkn, by simpa using hne⟩]
    exact ⟨rfl, S.toBelow⟩
  · have he : es[k].2.length = t.m := by have := of_decide_eq_false h3; omega
    repeat (first | (refine M0 ?_; first | refine SL ?_ | refine SB fun _ _ => ?_) | (refine M1 ?_; first | refine SC ?_ | refine SD ?_) | (refine M2 ?_; refine SE ?_) | (refine M3 ?_; first | refine SG ?_ | refine SF ?_) | (refine M4 ?_; refine SR ?_) | (refine M5 ?_; first | exact M7 | refine YM ?_ | refine YN ?_ ?_))
    refine XE.round (s := k) (k + 1) ⟨hkn, fun e hm => ?_⟩ (by omega) ZZSUB (fun _ h => h)
    rw [List.take_succ_eq_append_getElem hkn] at hm
    rcases List.mem_append.1 hm with h | h
    · exact h0 e h
    · rw [List.mem_singleton.1 h]; exact he
structure F2Inv (w : World) (t : RTk) (p : Plan) (ks : List Nat) (z : FSt) : Prop where
  le : z.k ≤ p.length
  bel : Below w.heap.size w z.W
  fam : Fam z.W w.heap.size ks [⟨SV × Done, donK, svV z.rq, z.ds⟩] [hMix w z.sq z.s.fil]
  lt : ∀ x, x ∈ ks → x < z.W.heap.size
  bef : ListAt boolK w (Lt w.heap.size) z.bq z.b
  bl : z.b.length = t.m
  sta : StaOk t.b z.s
  one : (t.flw 0 t.s t.on p).1 = z.ds.map (·.2) ++ (t.flw z.k z.s z.b (p.drop z.k)).1
  two : (t.flw 0 t.s t.on p).2 = (t.flw z.k z.s z.b (p.drop z.k)).2
  len : z.ds.length = z.k
set_option maxHeartbeats 16000000 in
theorem ref7Do_made {v : RTV} {t : RTk} {pq : SV} {p : Plan} {es : List (SV × List Bool)} {w : World} (ht : TskAt w w.heap.size v t) (hn : t.slu.length + t.pmp.length ≤ 5000000) (hp : ListAt plnK w (Lt w.heap.size) pq es) (hes : es.map (·.2) = p) :
    Calls Try.prog 18 #[tskV v t, svV pq] w (Made w (DoV2 t p)) := by
  have hgood := fun (w5 : World) (hB : Below w.heap.size w w5) => good7_any (v := v) (t := t) (w := w5) (ht.sys (Sys.ofBelow hB)) hn
  have hshp := fun (ho : RtOk t) (w5 : World) (hB : Below w.heap.size w w5) => refShaped_any (v := v) (t := t) (w := w5) (ht.sys (Sys.ofBelow hB)) ho ((hp.keep fun k hk => hB.block k hk).mono fun k hk => Nat.lt_of_lt_of_le hk hB.size)
  rw [hes] at hshp
  obtain ⟨Ap, np, cp⟩ := pq
  have lp := hp.len (by decide)
  have hmx := hp.max
  simp only at lp hmx
  subst lp
  have hpl : es.length = p.length := by have := congrArg List.length hes; simpa using this
  have hE : folE t p = if rtE t ≠ 0 then rtE t else if t.shaped p = false then 2 else 0 := rfl
  have hL : folL t p = if folE t p = 0 then (t.flw 0 t.s t.on p).1 else [] := rfl
  have hF : folF t p = if folE t p = 0 then (t.flw 0 t.s t.on p).2 else 0 := rfl
  have hno : ∀ (e : Int) (w' : World), folE t p = e → e ≠ 0 → Below w.heap.size w w' → Made w (DoV2 t p) (.returned (.tuple ⟨[.slice none 0 0, .int .i64 0, .int .i64 e]⟩)) w' := fun e w' h h0 hB => by
    rw [h, if_neg h0] at hL hF
    refine ⟨_, _, rfl, ⟨⟨none, 0, 0⟩, [], by rw [h, hF]; rfl, by rw [hL]; rfl, rfl⟩, fun x hx => ?_, hB⟩
    rw [List.mem_singleton.1 hx]; exact ListAt.nil
  simp only [tskV, tskC, svV] at hgood hshp ⊢
  refine enter Try.func18 rfl Try.ntmps18 rfl ?_; simp only [frame, Nat.zero_add, Nat.reduceAdd]
  repeat (first | (refine M0 ?_; first | refine SL ?_ | refine SB fun _ _ => ?_ | refine Y4 (Ev.call (f := 39) (ck rfl) rfl (fun w5 S5 => hgood w5 S5.toBelow)) ?_) | (refine M1 ?_; refine SC ?_) | (refine M2 ?_; refine SE ?_))
  rename_i g2 hg2
  by_cases h0 : rtE t = 0
  rotate_left
  · rw [if_pos h0] at hE
    rw [show decide (rtE t = 0) = false from decide_eq_false h0]
    repeat (first | (refine M0 ?_; first | refine SL ?_ | refine SB fun _ _ => ?_) | (refine M1 ?_; refine SC ?_) | (refine M2 ?_; refine SE ?_))
    rw [show decide (rtE t ≠ 0) = true from decide_eq_true h0]
    repeat (first | (refine M0 ?_; first | refine SL ?_ | refine SB fun _ _ => ?_) | (refine M1 ?_; refine SC ?_) | (refine M2 ?_; refine SE ?_))
    refine XE.retg tok Try.results18 rfl (by simp only [and_self, and_true]) (fun w' S => ?_)
    exact hno _ _ hE h0 S.toBelow
  rw [if_neg (by simp [h0])] at hE
  have ho := rtOk_of h0
  rw [show decide (rtE t = 0) = true from decide_eq_true h0, h0]
  cases h1 : t.shaped p with
  | false =>
    rw [if_pos h1] at hE
    rw [h1] at hshp
    repeat (first | (refine M0 ?_; first | refine SL ?_ | refine SB fun _ _ => ?_ | refine Y4 (Ev.call (f := 49) (ck rfl) rfl (fun w5 S5 => hshp ho w5 S5.toBelow)) ?_) | (refine M1 ?_; refine SC ?_) | (refine M2 ?_; refine SE ?_))
    refine XE.retg tok Try.results18 rfl (by simp only [and_self, and_true]) (fun w' S => ?_)
    exact hno _ _ hE (by decide) S.toBelow
  | true =>
  rw [if_neg (by simp [h1])] at hE
  rw [if_pos hE] at hL hF
  rw [h1] at hshp
  obtain ⟨hsl, hrow⟩ := shaped_len h1
  have hn6 : t.n ≤ 6 := ho.n6
  have hnn : t.n = t.outer.length := rfl
  have hdo := fun (w5 : World) (hB : Below w.heap.size w w5) {k : Nat} (hk : k < t.outer.length) {s : Sta} (hs : StaOk t.b s) {b f : List Bool} {sq bq q : SV} (hq : IntsAt w5 (Lt w5.heap.size) sq s.fil) (hb : ListAt boolK w (Lt w.heap.size) bq b) (hbl : b.length = t.m) (hf : ListAt boolK w (Lt w.heap.size) q f) (hfl : f.length = t.m) => refDo_made (ht.sys (Sys.ofBelow hB)) (chk_rt h0) ho hq hs hk ((hb.keep fun k hk => hB.block k hk).mono fun k hk => Nat.lt_of_lt_of_le hk hB.size) hbl ((hf.keep fun k hk => hB.block k hk).mono fun k hk => Nat.lt_of_lt_of_le hk hB.size) hfl
  simp only [tskV, tskC, staV, staC, svV] at hdo
  repeat (first | (refine M0 ?_; first | refine SL ?_ | refine SB fun _ _ => ?_ | refine Y4 (Ev.call (f := 49) (ck rfl) rfl (fun w5 S5 => hshp ho w5 S5.toBelow)) ?_) | (refine M1 ?_; refine SC ?_) | (refine M2 ?_; refine SE ?_))
  refine XC.cutn [1, 2] rfl (fun g9 : Nat => [(9, .pointer (some ⟨g9, 0, none⟩)), (10, .slice v.on.A v.on.n v.on.c), (8, .slice none 0 0)]) (fun g9 => [(g9, cel 28 [.int .i64 t.s.vol, .slice v.q.A v.q.n v.q.c]), (g2, cel 33 (tskC v t))]) (fun _ => w) (fun g9 => w.heap.size ≤ g9) ?_ (fun g9 hg9 => ?_)
  · refine XC.drawR _ [0, 1, 2, 3] [4, 5, 6] mixed (fun _ h => h) rfl (by kernel_rfl) ?_
    repeat (any_goals (first | (refine M0 ?_; first | refine SL ?_ | refine SB fun _ _ => ?_) | (refine M1 ?_; refine SC ?_) | (refine M2 ?_; refine SE ?_) | (refine M3 ?_; first | refine SG ?_ | refine SF ?_) | (refine M4 ?_; refine SR ?_) | (refine M5 ?_; first | exact M7 | refine YM ?_ | refine YN ?_ ?_)))
    any_goals (repeat (first | exact AnyR.nil | refine AnyR.skip rfl ?_))
    all_goals exact XE.leaf _ ZZSUB (fun _ S' => by first | exact S' | exact S'.perm (by repeat (first | exact List.Perm.refl _ | refine perm1 ?_ | refine List.Perm.cons _ ?_ | refine perm2 ?_)) | exact (S'.pop (by assumption)) | exact (S'.pop2 (by assumption))) (by assumption)
  refine XC.rebase (List.Sublist.refl _) (fun W1 S1 => ?_)
  have hk1 : ∀ k, k ∈ [g9, g2] → k < W1.heap.size := fun k hk => S1.keyLt k hk
  have hB1 := S1.toBelow
  have F1' := ((Fam.start (ks := [g9, g2]) S1.size).hold (x := hMix w v.q t.s.fil) (ok := fun _ => False) (.inl ht.fil) (fun _ h => h.elim)).nil donK
  clear S1
  refine XC.hint 9 1 ?_
  repeat (first | (refine M0 ?_; first | refine SL ?_ | refine SB fun _ _ => ?_) | (refine M1 ?_; refine SC ?_) | (refine M2 ?_; refine SE ?_))
  refine XC.loopk [1, 2, 9] rfl (fun z : FSt => [(11, .int .i64 (z.k : Nat)), (8, svV z.rq), (10, svV z.bq)]) (fun z => [(g9, cel 28 (staC z.sq z.s)), (g2, cel 33 (tskC v t))]) (fun z => z.W) (F2Inv w t p [g9, g2]) (fun z => p.length - z.k) ⟨0, W1, ⟨none, 0, 0⟩, v.q, v.on, t.s, t.on, []⟩ ⟨Nat.zero_le _, hB1, F1', hk1, ht.on, ho.on, ho.sta, rfl, rfl, rfl⟩ ZZSUB (fun _ h => h) ?_
  rintro ⟨k, W, rq, sq, bq, s, b, ds⟩ ⟨hk, hBW, hFW, hkW, hbef, hbl, hsta, hone, htwo, hlen⟩
  simp only at hk hBW hFW hkW hbef hbl hsta hone htwo hlen
  simp only [staC, svV, tskC]
  dsimp only [List.cons_append, List.nil_append]
  repeat (first | (refine M0 ?_; first | refine SL ?_ | refine SB fun _ _ => ?_) | (refine M1 ?_; refine SC ?_) | (refine M2 ?_; refine SE ?_))
  refine XC.cond _ rfl (fun h2 => ?_) (fun h2 => ?_)
  rotate_left
  · have hkn : k = p.length := by have := of_decide_eq_false h2; omega
    subst hkn
    rw [List.drop_length] at hone htwo
    repeat (first | (refine M0 ?_; first | refine SL ?_ | refine SB fun _ _ => ?_) | (refine M1 ?_; refine SC ?_) | (refine M2 ?_; refine SE ?_))
    refine XE.retg tok Try.results18 rfl (by simp only [and_self, and_true]) (fun w' S => ?_)
    have F9 := Fam.sys (Fam.freeze hFW) S ZZHL
    refine ⟨_, _, rfl, ⟨rq, ds, by rw [hE, hF, htwo]; rfl, by rw [hL, hone]; simp [RTk.flw], rfl⟩, fun x hx => ?_, hBW.trans S.toBelow⟩
    rw [List.mem_singleton.1 hx]
    exact F9.get (.head _)
  have hkn : k < p.length := by have := of_decide_eq_true h2; omega
  have hke : k < es.length := by omega
  have hpk : p[k] = es[k].2 := by simp [← hes]
  have hdrop : p.drop k = es[k].2 :: p.drop (k + 1) := by rw [List.drop_eq_getElem_cons hkn, hpk]
  rw [hdrop] at hone htwo
  obtain ⟨ap, rfl, hlp⟩ := hp.addr (by decide) (by omega)
  have hcell := hp.elem (List.getElem?_eq_getElem hke) 0 (svV es[k].1) rfl
  rw [add_add, Nat.add_zero] at hcell
  have hcellW := (below_cell hBW (ad := ap.add (k * 1)) (add_lt hlp)).trans hcell
  have hlpW : ap.block < W.heap.size := Nat.lt_of_lt_of_le hlp hBW.size
  have hon : ListAt boolK w (Lt w.heap.size) es[k].1 es[k].2 := hp.ins es[k] (List.getElem_mem hke) (hList boolK es[k].1 es[k].2) (.head _)
  have honl : es[k].2.length = t.m := hrow _ (by rw [← hpk]; exact List.getElem_mem hkn)
  obtain ⟨oq, hoq⟩ : ∃ oq, oq = es[k].1 := ⟨_, rfl⟩
  obtain ⟨on, hon'⟩ : ∃ on, on = es[k].2 := ⟨_, rfl⟩
  rw [← hoq] at hcellW hon
  rw [← hon'] at hone htwo hon honl
  have hki : k < t.outer.length := by omega
  simp only [svV] at hcellW
  have hcell' := hcell
  rw [← hoq] at hcell'
  simp only [svV] at hcell'
  have hsq : ∀ (w1 : World) {ks' : List Nat} (hF1 : Fam w1 w.heap.size ks' [⟨SV × Done, donK, svV rq, ds⟩] [hMix w sq s.fil]) (hB1 : Below w.heap.size w w1), IntsAt w1 (Lt w1.heap.size) sq s.fil := fun w1 ks' hF1 hB1 => mix_lt (hF1.held (hMix w sq s.fil) (.head _)) hB1 (fun k hk => hk.2.1)
  have hds := do_sta ho hsta hki (b := b) (f := on)
  obtain ⟨E, hEe⟩ : ∃ E, E = t.doE s k b on := ⟨_, rfl⟩
  obtain ⟨d, hd⟩ : ∃ d, d = t.doD s k b on := ⟨_, rfl⟩
  repeat (first | (refine M0 ?_; first | refine SL ?_ | refine SB fun _ _ => ?_) | (refine M1 ?_; refine SC ?_) | (refine M2 ?_; refine SE ?_))
  refine XC.cutn [1, 2, 8, 9, 10, 11] rfl (fun z : World × Nat × SV => [(12, .pointer (some ⟨z.2.1, 0, none⟩)), (13, .int .i64 E)]) (fun z => [(z.2.1, cel 82 (doneC z.2.2 d)), (g9, cel 28 [.int .i64 s.vol, .slice sq.A sq.n sq.c]), (g2, cel 33 [.slice v.p.A v.p.n v.p.c, .int .i64 t.b.leak, .int .i64 t.b.crest, .int .i64 t.b.over, .slice v.p.A2 v.p.n2 v.p.c2, .int .i64 t.s.vol, .slice v.q.A v.q.n v.q.c, .slice v.o.A v.o.n v.o.c, .slice v.r.A v.r.n v.r.c, .slice v.c.A v.c.n v.c.c, .int .i64 t.low, .int .i64 t.high, .slice v.su.A v.su.n v.su.c, .slice v.pu.A v.pu.n v.pu.c, .slice v.on.A v.on.n v.on.c])]) (fun z => z.1) (fun z => Below w.heap.size w z.1 ∧ Fam z.1 w.heap.size [z.2.1, g9, g2] [⟨SV × Done, donK, svV rq, ds⟩] [hInts z.2.2 d.s.fil] ∧ ∀ k, k ∈ [z.2.1, g9, g2] → k < z.1.heap.size) ?_ ?_
  · refine XC.drawRS _ [(g9, _), (g2, _)] [0, 1, 2, 3, 4, 5, 6, 7] [8, 9, 10, 11, 12, 13, 14] mixed (fun _ h => Sys.anchor2 (by assumption) h ZZSM) rfl (by kernel_rfl) ?_
    repeat (any_goals (first | (refine M0 ?_; first | refine SL ?_ | refine SB fun _ _ => ?_ | refine Y4 (Ev.load_old tok rfl rfl (add_lt hlp) hcell') ?_ | (refine XL.at_call 50 ?_; refine XL.callF (wE := w) (DoV E d) (ck rfl) rfl rfl hFW hkW hBW (fun w1 S1 hF1 hB1 => by rw [hEe, hd]; exact hdo w1 hB1 hki hsta (hsq w1 hF1 hB1) hbef hbl hon honl) (fun w2 x new hR hF2 hB2 hk2 => ?_); obtain ⟨q2, rfl, rfl⟩ := hR; simp only [doneC])) | (refine M1 ?_; refine SC ?_) | (refine M2 ?_; refine SE ?_) | (refine M3 ?_; first | refine SG ?_ | refine SF ?_ | refine YF (Ev.load_old tok rfl rfl (add_lt hlp) hcell') ?_) | (refine M4 ?_; refine SR ?_) | (refine M5 ?_; first | exact M7 | refine YM ?_ | refine YN ?_ ?_)))
    any_goals (repeat (first | exact AnyR.nil | refine AnyR.skip rfl ?_))
    all_goals
      refine XE.leafW (fun w9 S9 => ?_)
      apply Exists.intro (w9, _, q2)
      refine ⟨?pre, ?sub, ?sys⟩
      case sub => repeat (first | exact Sub.nil | refine Sub.cons rfl ?_)
      case sys => exact S9.rebase ZZSM
      case pre => exact ⟨Below.trans (by assumption) S9.toBelow, Fam.forget (Fam.add (Fam.atEnd (by assumption) S9 ZZHL) (fun k hk => by left; simp only [List.mem_cons, List.not_mem_nil, or_false] at hk; simp only [List.map_cons, List.map_nil, List.mem_append, List.mem_cons, List.not_mem_nil, or_false]; omega)) (fun x hx => by simp only [List.mem_cons, List.not_mem_nil, or_false] at hx; subst hx; simp), fun k hk => S9.keyLt k (by simp only [List.map_cons, List.map_nil, List.mem_cons, List.not_mem_nil, or_false] at hk ⊢; omega)⟩
  rintro ⟨W2, g12, q2⟩ ⟨hB2, hF2, hk2⟩
  simp only at hB2 hF2 hk2
  dsimp only [List.cons_append, List.nil_append]
  simp only [doneC]
  refine XC.hint 12 2 (XC.hint 9 1 ?_)
  by_cases hE0 : E = 0
  rotate_left
  · repeat (first | (refine M0 ?_; first | refine SL ?_ | refine SB fun _ _ => ?_) | (refine M1 ?_; refine SC ?_) | (refine M2 ?_; refine SE ?_))
    rw [show decide (E ≠ 0) = true from decide_eq_true hE0]
    repeat (first | (refine M0 ?_; first | refine SL ?_ | refine SB fun _ _ => ?_) | (refine M1 ?_; refine SC ?_) | (refine M2 ?_; refine SE ?_))
    refine XE.retg tok Try.results18 rfl (by simp only [and_self, and_true]) (fun w' S => ?_)
    have e1 : t.flw k s b (on :: p.drop (k + 1)) = ([], E) := by rw [flw_eq, if_neg (by rw [← hEe]; exact hE0), hEe]
    rw [e1] at hone htwo
    have F9 := Fam.sys (Fam.freeze hF2) S ZZHL
    refine ⟨_, _, rfl, ⟨rq, ds, by rw [hE, hF, htwo]; rfl, by rw [hL, hone, List.append_nil], rfl⟩, fun x hx => ?_, hB2.trans S.toBelow⟩
    rw [List.mem_singleton.1 hx]
    exact F9.get (.head _)
  subst hE0
  obtain ⟨hsta', _, _, _⟩ := hds hEe.symm
  have e1 := flw_cons_of (r := p.drop (k + 1)) hEe.symm
  rw [← hd] at e1 hsta'
  rw [e1] at hone htwo
  have hcell2 := (below_cell hB2 (ad := ap.add (k * 1)) (add_lt hlp)).trans ((below_cell hBW (ad := ap.add (k * 1)) (add_lt hlp)).symm.trans hcellW)
  have hv12 : ∀ (k : Nat) (u : Value), ([.int .i64 d.s.vol, .slice q2.A q2.n q2.c] : List Value)[k]? = some u → ([.int .i64 d.s.vol, .slice q2.A q2.n q2.c, .int .i64 d.out, .int .i64 d.energy, .int .i64 d.cost] : List Value)[0 + 0 + k]? = some u := fun k u h => by
    rw [show 0 + 0 + k = k by omega]
    match k, h with
    | 0, h => exact h
    | 1, h => exact h
  repeat (first | (refine M0 ?_; first | refine SL ?_ | refine SB fun _ _ => ?_ | refine XL.buildSlice tok rfl rfl rfl rfl rfl rfl rfl rfl rfl (fun _ _ => ?_)) | (refine M1 ?_; refine SC ?_) | (refine M2 ?_; refine SE ?_))
  refine XL.push (K := donK) (a := (q2, d)) (wE := w) 0 don_el (by decide) rfl rfl rfl hF2 rfl hk2 hB2 (Nat.le_refl _) rfl (by omega) (by decide) (fun x hx => by rw [List.mem_singleton.1 hx]; exact .head _) (fun w3 v3 hF3 hB3 hk3 => ?_)
  obtain ⟨r3, rfl, hn3⟩ := hF3.sv (K := donK) (l := ds ++ [(q2, d)]) (List.mem_singleton.2 rfl)
  simp only [svV]
  repeat (first | (refine M0 ?_; first | refine SL ?_ | refine SB fun _ _ => ?_) | (refine M1 ?_; refine SC ?_) | (refine M2 ?_; refine SE ?_))
  have hlp3 : ap.block < w3.heap.size := Nat.lt_of_lt_of_le hlp hB3.size
  have hcell3 := (below_cell hB3 (ad := ap.add (k * 1)) (add_lt hlp)).trans ((below_cell hBW (ad := ap.add (k * 1)) (add_lt hlp)).symm.trans hcellW)
  refine XC.drawRS _ [(g12, _), (g2, _)] [0, 1, 2, 3, 4, 5] [6, 7] mixed (fun _ h => Sys.anchor2 (by assumption) h ZZSM) rfl (by kernel_rfl) ?_
  repeat (any_goals (first | (refine M0 ?_; first | refine SL ?_ | refine SB fun _ _ => ?_ | refine Y4 (Ev.load_old tok rfl rfl (add_lt hlp) hcell') ?_ | refine Y4 (Ev.load_at_agg tok 0 (g := g12) (o := 0) (j := 0) rfl rfl rfl rfl hv12) ?_) | (refine M1 ?_; refine SC ?_) | (refine M2 ?_; refine SE ?_) | (refine M3 ?_; first | refine SG ?_ | refine SF ?_ | refine YF (Ev.load_old tok rfl rfl (add_lt hlp) hcell') ?_ | refine YF (Ev.load_at_agg tok 0 (g := g12) (o := 0) (j := 0) rfl rfl rfl rfl hv12) ?_) | (refine M4 ?_; refine SR ?_) | (refine M5 ?_; first | exact M7 | refine YM ?_ | refine YN ?_ ?_)))
  any_goals (repeat (first | exact AnyR.nil | refine AnyR.skip rfl ?_))
  all_goals
    refine XE.roundW (s := FSt.mk k W rq sq bq s b ds) (fun w6 S6 => ⟨FSt.mk (k + 1) w6 r3 q2 oq d.s on (ds ++ [(q2, d)]), ⟨hkn, hB3.trans S6.toBelow, ?_, fun x hx => S6.keyLt x (by simp only [List.map_cons, List.map_nil, List.mem_cons, List.not_mem_nil, or_false] at hx ⊢; omega), hon, honl, hsta', ?_, ?_, by simp [hlen]⟩, by simp only; omega, ZZSUB, S6.rebase ZZSL⟩)
    · have F5 := Fam.add (ks' := [g9, g2]) (hF3.sys S6 ZZHL) (fun x hx => .inl (by simp only [List.map_cons, List.map_nil, List.mem_append, List.mem_cons, List.not_mem_nil, or_false] at hx ⊢; omega))
      have h7 := F5.held (hInts q2 d.s.fil) (.head _)
      refine Fam.forget (F5.hold (x := hMix w q2 d.s.fil) (ok := Free w6 w.heap.size [g9, g2] _) (.inr h7) (fun j hj => hj)) (fun x hx => ?_)
      rw [List.mem_singleton.1 hx]; exact .head _
    · rw [hone]; simp
    · rw [htwo]
end Go.Proofs.Ytmckmlmfilmiaaa.X
/-
  The walks of the document's rest and Best (runoff); the law RunoffFinds.
-/
namespace Go.Proofs.Ytmckmlmfilmiaaa.X
open Go Go.RowKit Go.Proofs.Ytmckmlmfilmiaaa.Bs
set_option linter.unusedVariables false
def RestV (x : Bs.Fd) (v : Value) (new : List Held) : Prop := ∃ q : SV, v = .tuple ⟨[svV q, .int .i64 (fdC x), .bool x.isSome]⟩ ∧ new = [hPlan q (fdP x)]
structure RsSt where
  i : Nat
  W : World
  q : SV
  x : Bs.Fd
structure RsInv (w : World) (t : RTk) (k : Nat) (s : Sta) (b : List Bool) (n : Nat) (ks : List Nat) (q1 : SV) (e1 : List (SV × List Bool)) (z : RsSt) : Prop where
  le : z.i ≤ n
  bel : Below w.heap.size w z.W
  fam : Fam z.W w.heap.size ks [] [hPlan z.q (fdP z.x), hList plnK q1 e1]
  lt : ∀ x, x ∈ ks → x < z.W.heap.size
  val : z.x = pick (fun i => t.one (t.rest k) s (t.n - (k + 1)) b (chc t.m i)) z.i
set_option maxHeartbeats 32000000 in
theorem refRest_made {v : RTV} {t : RTk} (h0 : rtE t = 0) : ∀ {k : Nat}, k ≤ t.n → ∀ {w : World} {sq p : SV} {s : Sta} {b : List Bool}, TskAt w w.heap.size v t → StaOk t.b s → IntsAt w (Lt w.heap.size) sq s.fil → b.length = t.m → ListAt boolK w (Lt w.heap.size) p b →
    Calls Try.prog 40 #[tskV v t, staV sq s, .int .i64 (t.n - k : Nat), svV p] w (Made w (RestV (t.rest k s b))) := by
  have ho := rtOk_of h0
  have hnn : t.n = t.outer.length := rfl
  have hn6 : t.n ≤ 6 := ho.n6
  have hm4 : t.m ≤ 4 := by have := t.devs_len; unfold RTk.many at this; have := ho.s2; have := ho.p2; unfold RTk.m; omega
  have hmm : t.m = t.many := t.devs_len
  have hs2 := ho.s2
  have hp2 := ho.p2
  intro k
  induction k with
  | zero =>
    intro hk w sq p s b ht hs hq hbl hb
    have lo := ht.outer.len
    simp only [tskV, tskC, staV, staC, svV]
    refine enter Try.func40 rfl Try.ntmps40 rfl ?_; simp only [frame, Nat.zero_add, Nat.reduceAdd]
    repeat (first | (refine M0 ?_; first | refine SL ?_ | refine SB fun _ _ => ?_) | (refine M1 ?_; refine SC ?_) | (refine M2 ?_; refine SE ?_))
    rw [show decide (((t.n - 0 : Nat) : Int) = (v.o.n : Int)) = true from decide_eq_true (by omega)]
    repeat (first | (refine M0 ?_; first | refine SL ?_ | refine SB fun _ _ => ?_) | (refine M1 ?_; refine SC ?_) | (refine M2 ?_; refine SE ?_))
    refine XE.retg tok Try.results40 rfl (by simp only [and_self, and_true]) (fun w' S => ?_)
    exact ⟨_, _, rfl, ⟨⟨none, 0, 0⟩, rfl, rfl⟩, fun x hx => by rw [List.mem_singleton.1 hx]; exact PlanAt.nil, S.toBelow⟩
  | succ k ih =>
    intro hk w sq p s b ht hs hq hbl hb
    have ih := @ih (by omega)
    have lo := ht.outer.len
    have hma := fun (w5 : World) => many_any (v := v) (t := t) (w := w5) (ht.slu.len (by decide)) (ht.pmp.len (by decide)) (by omega)
    obtain ⟨i0, hi0⟩ : ∃ i0, i0 = t.n - (k + 1) := ⟨_, rfl⟩
    have hi0l : i0 < t.outer.length := by omega
    have hdo := fun (w5 : World) (hB : Below w.heap.size w w5) {f : List Bool} {q : SV} (hf : ListAt boolK w5 (Lt w5.heap.size) q f) (hfl : f.length = t.m) => refDo_made (sq := sq) (p := p) (before := b) (ht.sys (Sys.ofBelow hB)) (chk_rt h0) ho ((hq.keep fun k hk => hB.block k hk).mono fun k hk => Nat.lt_of_lt_of_le hk hB.size) hs hi0l ((hb.keep fun k hk => hB.block k hk).mono fun k hk => Nat.lt_of_lt_of_le hk hB.size) hbl hf hfl
    have hre := fun (w5 : World) (hB : Below w.heap.size w w5) {f : List Bool} {q sq2 : SV} {s2 : Sta} (hs2 : StaOk t.b s2) (hq2 : IntsAt w5 (Lt w5.heap.size) sq2 s2.fil) (hf : ListAt boolK w5 (Lt w5.heap.size) q f) (hfl : f.length = t.m) => ih (ht.sys (Sys.ofBelow hB)) hs2 hq2 hfl hf
    rw [← hi0]
    rw [show t.n - k = i0 + 1 by omega] at hre
    simp only [tskV, tskC, staV, staC, svV] at hma hdo hre ⊢
    rw [← hmm] at hma
    refine enter Try.func40 rfl Try.ntmps40 rfl ?_; simp only [frame, Nat.zero_add, Nat.reduceAdd]
    repeat (first | (refine M0 ?_; first | refine SL ?_ | refine SB fun _ _ => ?_) | (refine M1 ?_; refine SC ?_) | (refine M2 ?_; refine SE ?_))
    rename_i g4 hg4 g5 hg5
    rw [show decide ((i0 : Int) = (v.o.n : Int)) = false from decide_eq_false (by omega)]
    repeat (first | (refine M0 ?_; first | refine SL ?_ | refine SB fun _ _ => ?_ | refine Y4 (Ev.call (f := 60) (ck rfl) rfl (fun w5 S5 => hma w5)) ?_) | (refine M1 ?_; refine SC ?_) | (refine M2 ?_; refine SE ?_))
    refine XL.rebase (List.Sublist.refl _) (fun W0 S0 => ?_)
    refine XL.callF (ks := [g5, g4]) (rs := []) (hs := []) (b0 := w.heap.size) (wE := w) (ChoV t.m) (ck rfl) rfl rfl (Fam.start S0.size) (fun k hk => S0.keyLt k hk) S0.toBelow (fun w1 S1 _ hB1 => refChoices_made hm4) (fun w2 x new hR hF2 hB2 hk2 => ?_) ZZHL
    obtain ⟨⟨A1, n1, c1⟩, e1, rfl, he1, rfl⟩ := hR
    have hl1 : e1.length = 2 ^ t.m := by have := congrArg List.length he1; simpa [chs] using this
    have hp2 : ListAt plnK w2 _ ⟨A1, n1, c1⟩ e1 := hF2.held (hList plnK ⟨A1, n1, c1⟩ e1) (.head _)
    have hn1 := hp2.len (by decide)
    simp only at hn1
    subst hn1
    clear hp2
    have h16 : 2 ^ t.m ≤ 16 := Nat.pow_le_pow_right (n := 2) (by decide) hm4
    have hpos : 0 < e1.length := by rw [hl1]; exact Nat.pow_pos (by decide)
    simp only [svV]
    clear S0
    have F2 : Fam w2 w.heap.size [g5, g4] [] [hPlan ⟨none, 0, 0⟩ [], hList plnK ⟨A1, e1.length, c1⟩ e1] := (hF2.add (ks' := [g5, g4]) (fun k hk => .inl (List.mem_append_right _ hk))).hold (x := hPlan ⟨none, 0, 0⟩ []) (ok := fun _ => False) PlanAt.nil (fun _ h => h.elim)
    have hk2' : ∀ k, k ∈ [g5, g4] → k < w2.heap.size := fun k hk => hk2 k (List.mem_append_right _ hk)
    repeat (first | (refine M0 ?_; first | refine SL ?_ | refine SB fun _ _ => ?_) | (refine M1 ?_; refine SC ?_) | (refine M2 ?_; refine SE ?_))
    refine XC.loopk [2, 3, 4, 5, 14] rfl (fun z : RsSt => [(15, .int .i64 (z.i : Nat)), (11, .bool z.x.isSome), (12, .int .i64 (fdC z.x)), (13, svV z.q)]) (fun _ => [(g5, cel 28 (staC sq s)), (g4, cel 33 (tskC v t))]) (fun z => z.W) (RsInv w t k s b e1.length [g5, g4] ⟨A1, e1.length, c1⟩ e1) (fun z => e1.length - z.i) ⟨0, w2, ⟨none, 0, 0⟩, none⟩ ⟨Nat.zero_le _, hB2, F2, hk2', rfl⟩ ZZSUB (fun _ h => h) ?_
    clear hF2 F2 hB2 hk2 hk2'
    rintro ⟨i, W, q, x⟩ ⟨hi, hBW, hFW, hkW, hx⟩
    simp only at hi hBW hFW hkW hx
    simp only [staC, tskC, svV]
    dsimp only [List.cons_append, List.nil_append]
    repeat (first | (refine M0 ?_; first | refine SL ?_ | refine SB fun _ _ => ?_) | (refine M1 ?_; refine SC ?_) | (refine M2 ?_; refine SE ?_))
    refine XC.cond _ rfl (fun h4 => ?_) (fun h4 => ?_)
    rotate_left
    · have hin : i = e1.length := by have := of_decide_eq_false h4; omega
      subst hin
      repeat (first | (refine M0 ?_; first | refine SL ?_ | refine SB fun _ _ => ?_) | (refine M1 ?_; refine SC ?_) | (refine M2 ?_; refine SE ?_))
      refine XE.retg tok Try.results40 rfl (by simp only [and_self, and_true]) (fun w' S => ?_)
      have hX : t.rest (k + 1) s b = x := by rw [hx, hl1]; rfl
      rw [hX]
      refine ⟨_, _, rfl, ⟨q, rfl, rfl⟩, fun y hy => ?_, hBW.trans S.toBelow⟩
      rw [List.mem_singleton.1 hy]
      exact (hFW.sys S ZZHL).get (x := hPlan q (fdP x)) (.head _)
    have hin : i < e1.length := by have := of_decide_eq_true h4; omega
    have hon := chs_at he1 hin
    have hpW : ListAt plnK W _ ⟨A1, e1.length, c1⟩ e1 := hFW.held (hList plnK ⟨A1, e1.length, c1⟩ e1) (by simp)
    obtain ⟨a1, ha1, hf1⟩ := hpW.addr (by decide) (by omega)
    subst ha1
    have hcell := hpW.elem (List.getElem?_eq_getElem hin) 0 (svV e1[i].1) rfl
    rw [add_add, Nat.add_zero] at hcell
    obtain ⟨oq, hoq⟩ : ∃ oq, oq = e1[i].1 := ⟨_, rfl⟩
    obtain ⟨on, hon'⟩ : ∃ on, on = chc t.m i := ⟨_, rfl⟩
    rw [← hoq] at hcell
    have honl : on.length = t.m := by rw [hon', chc_len]
    have hbo : ∀ {w5 : World} {ks' : List Nat} {rs' : List RowX} {hs' : List Held}, Fam w5 w.heap.size ks' rs' hs' → hList plnK ⟨some a1, e1.length, c1⟩ e1 ∈ hs' → ListAt boolK w5 (Free w5 w.heap.size ks' rs') oq on := fun {w5 ks' rs' hs'} F5 hm => by
      have h9 : ListAt boolK w5 _ e1[i].1 e1[i].2 := (F5.held (hList plnK ⟨some a1, e1.length, c1⟩ e1) hm).ins e1[i] (List.getElem_mem hin) (hList boolK e1[i].1 e1[i].2) (.head _)
      rw [← hoq, hon, ← hon'] at h9
      exact h9
    have hbest : ∀ c p, x = some (c, p) → 0 ≤ c ∧ c ≤ 2000000000000000 := fun c p hxe => by
      rw [hxe] at hx
      obtain ⟨j, hj, h1, _, _⟩ := pick_some hx.symm
      obtain ⟨d0, c', p', d1, d2⟩ := one_some h1
      cases d2
      obtain ⟨g1, g2, g3, _⟩ := do_sta ho hs (by rw [← hi0]; exact hi0l) d0
      obtain ⟨g4, g5⟩ := rest_bd ho (by omega) g1 d1
      have hk6 : k ≤ 5 := by omega
      have : 200000000000000 * (k : Int) ≤ 200000000000000 * 5 := by omega
      omega
    have hN : pick (fun i => t.one (t.rest k) s (t.n - (k + 1)) b (chc t.m i)) (i + 1) = better x (t.one (t.rest k) s i0 b on) := by rw [hx, hon', hi0]; rfl
    have hds := do_sta ho hs hi0l (b := b) (f := on)
    obtain ⟨E, hEe⟩ : ∃ E, E = t.doE s i0 b on := ⟨_, rfl⟩
    obtain ⟨d, hd⟩ : ∃ d, d = t.doD s i0 b on := ⟨_, rfl⟩
    obtain ⟨tc, htc⟩ : ∃ tc, tc = tskC v t := ⟨_, rfl⟩
    simp only [svV] at hcell
    repeat (first | (refine M0 ?_; first | refine SL ?_ | refine SB fun _ _ => ?_) | (refine M1 ?_; refine SC ?_) | (refine M2 ?_; refine SE ?_))
    refine XC.cutn [2, 3, 4, 5, 11, 12, 13, 14, 15] rfl (fun z : World × Nat × SV => [(16, .pointer (some ⟨z.2.1, 0, none⟩)), (17, .int .i64 E)]) (fun z => [(z.2.1, cel 82 (doneC z.2.2 d)), (g5, cel 28 (staC sq s)), (g4, cel 33 (tskC v t))]) (fun z => z.1) (fun z => Below w.heap.size w z.1 ∧ Fam z.1 w.heap.size [z.2.1, g5, g4] [] [hInts z.2.2 d.s.fil, hPlan q (fdP x), hList plnK ⟨some a1, e1.length, c1⟩ e1] ∧ ∀ k, k ∈ [z.2.1, g5, g4] → k < z.1.heap.size) ?_ ?_
    · refine XC.drawR _ [0, 1, 2, 3, 4, 5, 6, 7] [8, 9, 10, 11, 12, 13, 14] mixed (fun _ h => h) rfl (by kernel_rfl) ?_
      repeat (any_goals (first | (refine M0 ?_; first | refine SL ?_ | refine SB fun _ _ => ?_ | refine Y4 (Ev.load_far tok rfl rfl (by rw [add_block]; exact hf1.2.1) (Free.far hf1 ZZHL) hcell) ?_ | (refine XL.at_call 50 ?_; refine XL.callFW (wE := w) (DoV E d) (ck rfl) rfl rfl hFW hkW hBW (fun w1 S1 hF1 hB1 => by rw [hEe, hd]; exact hdo w1 hB1 ((hbo hF1 (by simp)).mono fun j hj => hj.2.1) honl) (fun w2 x new hR hF2 hB2 hk2 S2 => ?_); obtain ⟨q2, rfl, rfl⟩ := hR; simp only [doneC]; have hz2 := S2.size; try have S3 := S2.pop (by assumption))) | (refine M1 ?_; refine SC ?_) | (refine M2 ?_; first | refine SE ?_ | refine z5 ?_) | (refine M3 ?_; first | refine SG ?_ | refine SF ?_ | refine YF (Ev.load_far tok rfl rfl (by rw [add_block]; exact hf1.2.1) (Free.far hf1 ZZHL) hcell) ?_) | (refine M4 ?_; refine SR ?_) | (refine M5 ?_; first | exact M7 | refine YM ?_ | refine YN ?_ ?_)))
      any_goals (repeat (first | exact AnyR.nil | refine AnyR.skip rfl ?_))
      all_goals
        refine XE.leafW (fun w9 S9 => ?_)
        apply Exists.intro (w9, _, q2)
        refine ⟨?pre, ?sub, ?sys⟩
        case sub => repeat (first | exact Sub.nil | refine Sub.cons rfl ?_)
        case sys => exact S9.rebase ZZSM
        case pre => exact ⟨Below.trans (by assumption) S9.toBelow, Fam.forget (Fam.add (Fam.atEnd (by assumption) S9 ZZHL) (fun k hk => by left; simp only [List.mem_cons, List.not_mem_nil, or_false] at hk; simp only [List.map_cons, List.map_nil, List.mem_append, List.mem_cons, List.not_mem_nil, or_false]; omega)) (fun x hx => by simp only [List.mem_cons, List.not_mem_nil, or_false] at hx; rcases hx with rfl | rfl | rfl <;> simp), fun k hk => S9.keyLt k (by simp only [List.map_cons, List.map_nil, List.mem_cons, List.not_mem_nil, or_false] at hk ⊢; omega)⟩
    clear hpW hf1 hcell
    rintro ⟨W2, g16, q2⟩ ⟨hB2, hF2, hk2⟩
    simp only at hB2 hF2 hk2
    dsimp only [List.cons_append, List.nil_append]
    simp only [doneC, staC, tskC]
    refine XC.hint 16 2 (XC.hint 5 1 ?_)
    by_cases hE0 : E = 0
    rotate_left
    · repeat (first | (refine M0 ?_; first | refine SL ?_ | refine SB fun _ _ => ?_) | (refine M1 ?_; refine SC ?_) | (refine M2 ?_; refine SE ?_))
      rw [show decide (E ≠ 0) = true from decide_eq_true hE0]
      repeat (first | (refine M0 ?_; first | refine SL ?_ | refine SB fun _ _ => ?_) | (refine M1 ?_; refine SC ?_) | (refine M2 ?_; refine SE ?_))
      refine XE.roundW (s := RsSt.mk i W q x) (fun w6 S6 => ⟨RsSt.mk (i + 1) w6 q x, ⟨hin, hB2.trans S6.toBelow, Fam.forget ((hF2.sys S6 ZZHL).add (fun k hk => .inl (List.mem_cons_of_mem _ hk))) (fun y hy => List.mem_cons_of_mem _ hy), fun y hy => S6.keyLt y (List.mem_cons_of_mem _ hy), ?_⟩, by simp only; omega, ZZSUB, S6.rebase ZZSL⟩)
      simp only
      rw [hN, one_none (by rw [← hEe]; exact hE0), better_none]
    subst hE0
    obtain ⟨hsta', hc0, hc1, _⟩ := hds hEe.symm
    rw [← hd] at hsta' hc0 hc1
    repeat (first | (refine M0 ?_; first | refine SL ?_ | refine SB fun _ _ => ?_) | (refine M1 ?_; refine SC ?_) | (refine M2 ?_; refine SE ?_))
    rw [show decide ((0 : Int) ≠ 0) = false from rfl]
    obtain ⟨y, hy⟩ : ∃ y, y = t.rest k d.s on := ⟨_, rfl⟩
    have hybd : ∀ c p, y = some (c, p) → 0 ≤ c ∧ c ≤ 2000000000000000 := fun c p hye => by
      obtain ⟨g4, g5⟩ := rest_bd ho (by omega) hsta' (show t.rest k d.s on = some (c, p) by rw [← hy, hye])
      have hk6 : k ≤ 5 := by omega
      have : 200000000000000 * (k : Int) ≤ 200000000000000 * 5 := by omega
      omega
    have hpW : ListAt plnK W2 _ ⟨some a1, e1.length, c1⟩ e1 := hF2.held (hList plnK ⟨some a1, e1.length, c1⟩ e1) (by simp)
    obtain ⟨a9, ha9, hf1⟩ := hpW.addr (by decide) (by omega)
    obtain rfl : a1 = a9 := Option.some.inj ha9
    have hcell := hpW.elem (List.getElem?_eq_getElem hin) 0 (svV e1[i].1) rfl
    rw [add_add, Nat.add_zero, ← hoq] at hcell
    have hq2 : ∀ (w1 : World) {ks' : List Nat} (hF1 : Fam w1 w.heap.size ks' [] [hInts q2 d.s.fil, hPlan q (fdP x), hList plnK ⟨some a1, e1.length, c1⟩ e1]), IntsAt w1 (Lt w1.heap.size) q2 d.s.fil := fun w1 ks' hF1 => (hF1.held (hInts q2 d.s.fil) (.head _)).mono fun j hj => hj.2.1
    simp only [svV] at hcell
    repeat (first | (refine M0 ?_; first | refine SL ?_ | refine SB fun _ _ => ?_) | (refine M1 ?_; refine SC ?_) | (refine M2 ?_; refine SE ?_))
    refine XC.cutn [2, 3, 4, 5, 11, 12, 13, 14, 15, 16] rfl (fun z : World × SV => [(18, svV z.2), (19, .int .i64 (fdC y)), (20, .bool y.isSome)]) (fun z => [(g16, cel 82 (doneC q2 d)), (g5, cel 28 (staC sq s)), (g4, cel 33 (tskC v t))]) (fun z => z.1) (fun z => Below w.heap.size w z.1 ∧ Fam z.1 w.heap.size [g16, g5, g4] [] [hPlan z.2 (fdP y), hPlan q (fdP x), hList plnK ⟨some a1, e1.length, c1⟩ e1] ∧ ∀ k, k ∈ [g16, g5, g4] → k < z.1.heap.size) ?_ ?_
    · refine XC.drawR _ [0, 1, 2, 3, 4, 5, 6, 7, 8] [9, 10, 11, 12, 13, 14, 15, 16] mixed (fun _ h => h) rfl (by kernel_rfl) ?_
      repeat (any_goals (first | (refine M0 ?_; first | refine SL ?_ | refine SB fun _ _ => ?_ | refine Y4 (Ev.load_far tok rfl rfl (by rw [add_block]; exact hf1.2.1) (Free.far hf1 ZZHL) hcell) ?_ | (refine XL.at_call 40 ?_; refine XL.callFW (wE := w) (RestV y) (ck rfl) rfl rfl hF2 hk2 hB2 (fun w1 S1 hF1 hB1 => by rw [hy]; exact hre w1 hB1 hsta' (hq2 w1 hF1) ((hbo hF1 (by simp)).mono fun j hj => hj.2.1) honl) (fun w2 x new hR hF3 hB3 hk3 S2 => ?_); obtain ⟨q3, rfl, rfl⟩ := hR; have hz2 := S2.size; try have S3 := S2.pop (by assumption))) | (refine M1 ?_; refine SC ?_) | (refine M2 ?_; first | refine SE ?_ | refine z5 ?_) | (refine M3 ?_; first | refine SG ?_ | refine SF ?_ | refine YF (Ev.load_far tok rfl rfl (by rw [add_block]; exact hf1.2.1) (Free.far hf1 ZZHL) hcell) ?_) | (refine M4 ?_; refine SR ?_) | (refine M5 ?_; first | exact M7 | refine YM ?_ | refine YN ?_ ?_)))
      any_goals (repeat (first | exact AnyR.nil | refine AnyR.skip rfl ?_))
      all_goals
        refine XE.leafW (fun w9 S9 => ?_)
        refine ⟨(w9, q3), ?pre, ?sub, ?sys⟩
        case sub => repeat (first | exact Sub.nil | refine Sub.cons rfl ?_)
        case sys => exact S9.rebase ZZSM
        case pre => exact ⟨Below.trans (by assumption) S9.toBelow, Fam.forget (Fam.add (Fam.atEnd (by assumption) S9 ZZHL) (fun k hk => by left; simp only [List.mem_cons, List.not_mem_nil, or_false] at hk; simp only [List.map_cons, List.map_nil, List.mem_append, List.mem_cons, List.not_mem_nil, or_false]; omega)) (fun x hx => by simp only [List.mem_cons, List.not_mem_nil, or_false] at hx; rcases hx with rfl | rfl | rfl <;> simp), fun k hk => S9.keyLt k (by simp only [List.map_cons, List.map_nil, List.mem_cons, List.not_mem_nil, or_false] at hk ⊢; omega)⟩
    clear hpW hf1 hcell hF2 hk2
    rintro ⟨W3, q3⟩ ⟨hB3, hF3, hk3⟩
    simp only at hB3 hF3 hk3
    dsimp only [List.cons_append, List.nil_append]
    simp only [doneC, staC, tskC, svV]
    refine XC.hint 16 2 (XC.hint 5 1 ?_)
    have hnxt : ∀ (w6 : World) (x' : Bs.Fd) (q' : SV), better x (t.one (t.rest k) s i0 b on) = x' → Fam w6 w.heap.size [g5, g4] [] [hPlan q' (fdP x'), hList plnK ⟨some a1, e1.length, c1⟩ e1] → Below w.heap.size w w6 → (∀ k, k ∈ [g5, g4] → k < w6.heap.size) → RsInv w t k s b e1.length [g5, g4] ⟨some a1, e1.length, c1⟩ e1 ⟨i + 1, w6, q', x'⟩ := fun w6 x' q' h1 h2 h3 h4 => ⟨hin, h3, h2, h4, by simp only; rw [hN, h1]⟩
    cases y with
    | none =>
      repeat (first | (refine M0 ?_; first | refine SL ?_ | refine SB fun _ _ => ?_) | (refine M1 ?_; refine SC ?_) | (refine M2 ?_; refine SE ?_))
      refine XE.roundW (s := RsSt.mk i W q x) (fun w6 S6 => ⟨RsSt.mk (i + 1) w6 q x, hnxt _ _ _ (by rw [one_none2 (by rw [← hd, ← hy]), better_none]) (Fam.forget ((hF3.sys S6 ZZHL).add (fun k hk => .inl (List.mem_cons_of_mem _ hk))) (fun y hy => List.mem_cons_of_mem _ hy)) (hB3.trans S6.toBelow) (fun y hy => S6.keyLt y (List.mem_cons_of_mem _ hy)), by simp only; omega, ZZSUB, S6.rebase ZZSL⟩)
    | some yy =>
    obtain ⟨c5, p5⟩ := yy
    obtain ⟨b1, b2⟩ := hybd c5 p5 rfl
    have hC5 : fdC (some (c5, p5)) = c5 := rfl
    have hP5 : fdP (some (c5, p5)) = p5 := rfl
    rw [hC5]
    rw [hP5] at hF3
    have hlen5 : p5.length ≤ k := by
      have := rest_len (t := t) (k := k) (s := d.s) (b := on) (by omega)
      rw [← hy, hP5] at this
      exact this
    have hxb : 0 ≤ fdC x ∧ fdC x ≤ 2000000000000000 := by
      cases x with
      | none => exact ⟨Int.le_refl _, by decide⟩
      | some xx => exact hbest xx.1 xx.2 rfl
    obtain ⟨B, hBd⟩ : ∃ B : Bool, B = (!x.isSome || decide (d.cost + c5 < fdC x)) := ⟨_, rfl⟩
    refine XC.seq ?_
    refine XC.cutln [2, 3, 4, 5, 11, 12, 13, 14, 15, 16, 18, 19] rfl (fun _ : Unit => [(75, .bool B)]) (fun _ => []) (fun _ => True) ?_ (fun _ _ => ?_)
    · obtain ⟨xs, hxs⟩ : ∃ xs, xs = x.isSome := ⟨_, rfl⟩
      obtain ⟨xc, hxc⟩ : ∃ xc, xc = fdC x := ⟨_, rfl⟩
      rw [← hxs, ← hxc] at hBd ⊢
      rw [← hxc] at hxb
      subst hBd
      cases xs with
      | false =>
        repeat (first | (refine M0 ?_; first | refine SL ?_ | refine SB fun _ _ => ?_) | (refine M1 ?_; refine SC ?_) | (refine M2 ?_; refine SE ?_))
        exact XE.leaf () ZZSUB (fun _ S' => by first | exact S' | exact S'.perm (by repeat (first | exact List.Perm.refl _ | refine perm1 ?_ | refine List.Perm.cons _ ?_ | refine perm2 ?_)) | exact (S'.pop (by assumption)) | exact (S'.pop2 (by assumption))) trivial
      | true =>
        rw [Bool.not_true, Bool.false_or]
        repeat (first | (refine M0 ?_; first | refine SL ?_ | refine SB fun _ _ => ?_) | (refine M1 ?_; refine SC ?_) | (refine M2 ?_; refine SE ?_))
        exact XE.leaf () ZZSUB (fun _ S' => by first | exact S' | exact S'.perm (by repeat (first | exact List.Perm.refl _ | refine perm1 ?_ | refine List.Perm.cons _ ?_ | refine perm2 ?_)) | exact (S'.pop (by assumption)) | exact (S'.pop2 (by assumption))) trivial
    dsimp only [List.cons_append, List.nil_append]
    refine XC.hint 16 2 (XC.hint 5 1 ?_)
    cases B with
    | false =>
      have hbx := hBd.symm
      simp only [Bool.or_eq_false_iff, Bool.not_eq_false', decide_eq_false_iff_not] at hbx
      have hbo2 : better x (t.one (t.rest k) s i0 b on) = x := better_old hbx.1 (fun c p h => by
        rw [← hd] at h ⊢
        rw [← hy] at h
        cases h
        have := hbx.2
        omega)
      repeat (first | (refine M0 ?_; first | refine SL ?_ | refine SB fun _ _ => ?_) | (refine M1 ?_; refine SC ?_) | (refine M2 ?_; refine SE ?_))
      exact XE.roundW (s := RsSt.mk i W q x) (fun w6 S6 => ⟨RsSt.mk (i + 1) w6 q x, hnxt _ _ _ hbo2 (Fam.forget ((hF3.sys S6 ZZHL).add (fun k hk => .inl (List.mem_cons_of_mem _ hk))) (fun y hy => List.mem_cons_of_mem _ hy)) (hB3.trans S6.toBelow) (fun y hy => S6.keyLt y (List.mem_cons_of_mem _ hy)), by simp only; omega, ZZSUB, S6.rebase ZZSL⟩)
    | true =>
    have hbn : better x (t.one (t.rest k) s i0 b on) = some (d.cost + c5, on :: p5) := by
      rw [better_new hEe.symm (c := c5) (p := p5) (by rw [← hd, ← hy]) (fun h => by
        have hbx := hBd.symm
        rw [h, Bool.not_true, Bool.false_or] at hbx
        rw [← hd]
        exact of_decide_eq_true hbx), ← hd]
    have hpW : ListAt plnK W3 _ ⟨some a1, e1.length, c1⟩ e1 := hF3.held (hList plnK ⟨some a1, e1.length, c1⟩ e1) (by simp)
    obtain ⟨a9, ha9, hf1⟩ := hpW.addr (by decide) (by omega)
    obtain rfl : a1 = a9 := Option.some.inj ha9
    have hcell := hpW.elem (List.getElem?_eq_getElem hin) 0 (svV e1[i].1) rfl
    rw [add_add, Nat.add_zero, ← hoq] at hcell
    simp only [svV] at hcell
    repeat (first | (refine M0 ?_; first | refine SL ?_ | refine SB fun _ _ => ?_) | (refine M1 ?_; refine SC ?_) | (refine M2 ?_; refine SE ?_))
    refine XC.cutln [2, 3, 4, 5, 13, 14, 15, 16, 18, 19] rfl (fun _ : Unit => [(11, .bool true), (12, .int .i64 (d.cost + c5))]) (fun _ => []) (fun _ => True) ?_ (fun _ _ => ?_)
    · refine XC.drawR _ [0, 1, 2, 3] [4, 5] mixed (fun _ h => h) rfl (by kernel_rfl) ?_
      repeat (any_goals (first | (refine M0 ?_; first | refine SL ?_ | refine SB fun _ _ => ?_) | (refine M1 ?_; refine SC ?_) | (refine M2 ?_; refine SE ?_) | (refine M3 ?_; first | refine SG ?_ | refine SF ?_) | (refine M4 ?_; refine SR ?_) | (refine M5 ?_; first | exact M7 | refine YM ?_ | refine YN ?_ ?_)))
      any_goals (repeat (first | exact AnyR.nil | refine AnyR.skip rfl ?_))
      all_goals exact XE.leaf () ZZSUB (fun _ S' => by first | exact S' | exact S'.perm (by repeat (first | exact List.Perm.refl _ | refine perm1 ?_ | refine List.Perm.cons _ ?_ | refine perm2 ?_)) | exact (S'.pop (by assumption)) | exact (S'.pop2 (by assumption))) trivial
    dsimp only [List.cons_append, List.nil_append]
    refine XC.hint 16 2 (XC.hint 5 1 ?_)
    repeat (first | (refine M0 ?_; first | refine SL ?_ | refine SB fun _ _ => ?_ | refine Y4 (Ev.load_far tok rfl rfl (by rw [add_block]; exact hf1.2.1) (Free.far hf1 ZZHL) hcell) ?_) | (refine M1 ?_; refine SC ?_) | (refine M2 ?_; refine SE ?_))
    refine XL.newRow tok (K := plnK) (l := [(oq, on)]) rfl rfl rfl rfl rfl rfl rfl rfl rfl ⟨rfl, rfl⟩ rfl rfl hF3 hk3 hB3 hB3.size (fun a ha x hx => by
      rw [List.mem_singleton.1 ha] at hx
      rw [List.mem_singleton.1 hx]
      exact hbo hF3 (by simp)) (fun w7 g7 hF7 hB7 hk7 => ?_)
    obtain ⟨es5, hL5, he5⟩ : PlanAt w7 _ q3 p5 := hF7.held (hPlan q3 p5) (.head _)
    have hl5 : es5.length ≤ 6 := by have := congrArg List.length he5; simp at this; omega
    repeat (first | (refine M0 ?_; first | refine SL ?_ | refine SB fun _ _ => ?_) | (refine M1 ?_; refine SC ?_) | (refine M2 ?_; refine SE ?_))
    refine XL.pushL (K := plnK) (l := [(oq, on)]) (l2 := es5) (r2 := q3) (wE := w) 0 plan_el (by decide) rfl rfl rfl hF7 rfl hk7 hB7 (Nat.le_refl _) (fun w9 S9 => hL5.sys S9 (fun j hj => ⟨hj.2.1, fun e he e1 => hj.2.2.1 (by rw [← e1]; exact List.mem_append_left _ (List.mem_map.2 ⟨e, he, rfl⟩))⟩)) (fun a ha x hx => hL5.ins a ha x hx) (fun a => rfl) (by simp only [List.length_singleton]; omega) (by decide) (fun w8 v8 hF8 hB8 hk8 => ?_)
    obtain ⟨r8, rfl, hn8⟩ := hF8.sv (K := plnK) (l := [(oq, on)] ++ es5) (.head _)
    have F8 := Fam.freeze (r := r8) hF8
    have F9 := F8.hold (x := hPlan r8 (on :: p5)) (ok := Free w8 w.heap.size _ []) ⟨_, F8.held (hList plnK r8 ([(oq, on)] ++ es5)) (.head _), by simp [he5]⟩ (fun j hj => hj)
    simp only [svV]
    repeat (first | (refine M0 ?_; first | refine SL ?_ | refine SB fun _ _ => ?_) | (refine M1 ?_; refine SC ?_) | (refine M2 ?_; refine SE ?_))
    exact XE.roundW (s := RsSt.mk i W q x) (fun w6 S6 => ⟨RsSt.mk (i + 1) w6 r8 (some (d.cost + c5, on :: p5)), hnxt _ _ _ hbn (Fam.forget ((F9.sys S6 ZZHL).add (fun k hk => .inl (by simp only [List.map_cons, List.map_nil, List.mem_append, List.mem_cons, List.not_mem_nil, or_false] at hk ⊢; omega))) (fun y hy => by
      rcases List.mem_cons.1 hy with rfl | hy
      · exact .head _
      · rw [List.mem_singleton.1 hy]; simp)) (hB8.trans S6.toBelow) (fun y hy => S6.keyLt y (List.mem_cons_of_mem _ hy)), by simp only; omega, ZZSUB, S6.rebase ZZSL⟩)
set_option maxHeartbeats 4000000 in
theorem refBest_made {v : RTV} {t : RTk} {w : World} (ht : TskAt w w.heap.size v t) (hn : t.slu.length + t.pmp.length ≤ 5000000) :
    Calls Try.prog 14 #[tskV v t] w (Made w (BestV t)) := by
  have hgood := fun (w5 : World) (hB : Below w.heap.size w w5) => good7_any (v := v) (t := t) (w := w5) (ht.sys (Sys.ofBelow hB)) hn
  have hre := fun (h0 : rtE t = 0) (w5 : World) (hB : Below w.heap.size w w5) => refRest_made (v := v) h0 (Nat.le_refl t.n) (ht.sys (Sys.ofBelow hB)) (rtOk_of h0).sta (ht.sys (Sys.ofBelow hB)).fil (rtOk_of h0).on (ht.sys (Sys.ofBelow hB)).on
  rw [Nat.sub_self] at hre
  simp only [tskV, tskC, staV, staC, svV] at hgood hre ⊢
  refine enter Try.func14 rfl Try.ntmps14 rfl ?_; simp only [frame, Nat.zero_add, Nat.reduceAdd]
  repeat (first | (refine M0 ?_; first | refine SL ?_ | refine SB fun _ _ => ?_ | refine Y4 (Ev.call (f := 39) (ck rfl) rfl (fun w5 S5 => hgood w5 S5.toBelow)) ?_) | (refine M1 ?_; refine SC ?_) | (refine M2 ?_; refine SE ?_))
  rename_i g1 hg1
  by_cases h0 : rtE t = 0
  rotate_left
  · obtain ⟨e1, e2⟩ := bst_err h0
    rw [show decide (rtE t ≠ 0) = true from decide_eq_true h0]
    repeat (first | (refine M0 ?_; first | refine SL ?_ | refine SB fun _ _ => ?_) | (refine M1 ?_; refine SC ?_) | (refine M2 ?_; refine SE ?_))
    refine XE.retg tok Try.results14 rfl (by simp only [and_self, and_true]) (fun w' S => ?_)
    exact ⟨_, _, rfl, ⟨⟨none, 0, 0⟩, by rw [e1, e2]; rfl, rfl⟩, fun x hx => by rw [List.mem_singleton.1 hx, e1]; exact PlanAt.nil, S.toBelow⟩
  rw [h0]
  repeat (first | (refine M0 ?_; first | refine SL ?_ | refine SB fun _ _ => ?_) | (refine M1 ?_; refine SC ?_) | (refine M2 ?_; refine SE ?_))
  refine XL.rebase (List.Sublist.refl _) (fun W0 S0 => ?_)
  refine XL.callF (ks := [g1]) (rs := []) (hs := []) (b0 := w.heap.size) (wE := w) (RestV (t.rest t.n t.s t.on)) (ck rfl) rfl rfl (Fam.start S0.size) (fun k hk => S0.keyLt k hk) S0.toBelow (fun w1 S1 _ hB1 => hre h0 w1 hB1) (fun w2 x new hR hF2 hB2 hk2 => ?_) ZZHL
  obtain ⟨q, rfl, rfl⟩ := hR
  simp only [svV]
  cases hr : t.rest t.n t.s t.on with
  | none =>
    obtain ⟨e1, e2⟩ := bst_none h0 hr
    repeat (first | (refine M0 ?_; first | refine SL ?_ | refine SB fun _ _ => ?_) | (refine M1 ?_; refine SC ?_) | (refine M2 ?_; refine SE ?_))
    refine XE.retg tok Try.results14 rfl (by simp only [and_self, and_true]) (fun w' S => ?_)
    exact ⟨_, _, rfl, ⟨⟨none, 0, 0⟩, by rw [e1, e2]; rfl, rfl⟩, fun x hx => by rw [List.mem_singleton.1 hx, e1]; exact PlanAt.nil, hB2.trans S.toBelow⟩
  | some y =>
    obtain ⟨e1, e2⟩ := bst_some h0 hr
    rw [hr] at hF2
    repeat (first | (refine M0 ?_; first | refine SL ?_ | refine SB fun _ _ => ?_) | (refine M1 ?_; refine SC ?_) | (refine M2 ?_; refine SE ?_))
    refine XE.retg tok Try.results14 rfl (by simp only [and_self, and_true]) (fun w' S => ?_)
    refine ⟨_, _, rfl, ⟨q, by rw [e1, e2]; rfl, rfl⟩, fun x hx => ?_, hB2.trans S.toBelow⟩
    rw [List.mem_singleton.1 hx, e1]
    exact (hF2.sys S ZZHL).get (x := hPlan q (fdP (some y))) (.head _)
set_option maxHeartbeats 4000000 in
theorem RunoffFinds_any {v : RTV} {t : RTk} {w : World} (ht : TskAt w w.heap.size v t) (hn : t.slu.length + t.pmp.length ≤ 5000000) (hno : t.outer.length ≤ 5000000) :
    Calls Try.prog 3 #[tskV v t] w fun e w' => e = .returned (.bool true) ∧ Below w.heap.size w w' := by
  have h2 := fun (w5 : World) (hB : Below w.heap.size w w5) => Great_any (ht.sys (Sys.ofBelow hB)) hn hno
  have h3 := fun (w5 : World) (hB : Below w.heap.size w w5) => Best_made (ht.sys (Sys.ofBelow hB)) hn
  have h4 := fun (w5 : World) (hB : Below w.heap.size w w5) => refBest_made (ht.sys (Sys.ofBelow hB)) hn
  have haw := fun {L : Lo} {W : World} (w5 : World) (S5 : Sys w.heap.size W L w5) => Awake_any (w := w5)
  simp only [tskV, tskC, svV] at h2 h3 h4 ⊢
  refine enter Try.func3 rfl Try.ntmps3 rfl ?_; simp only [frame, Nat.zero_add, Nat.reduceAdd]
  repeat (first | (refine M0 ?_; first | refine SL ?_ | refine SB fun _ _ => ?_ | refine Y4 (Ev.call (f := 11) (ck rfl) rfl (fun w5 S5 => h2 w5 S5.toBelow)) ?_) | (refine M1 ?_; refine SC ?_) | (refine M2 ?_; refine SE ?_))
  rename_i g1 hg1
  cases hG : greatB t with
  | true =>
    repeat (first | (refine M0 ?_; first | refine SL ?_ | refine SB fun _ _ => ?_ | refine Y4 (Ev.call (f := 12) (ck rfl) rfl (fun w5 S5 => haw w5 S5)) ?_) | (refine M1 ?_; refine SC ?_) | (refine M2 ?_; refine SE ?_))
    refine XE.retg tok Try.results3 rfl (by simp only [and_self, and_true]) (fun w' S => ?_)
    exact ⟨rfl, S.toBelow⟩
  | false =>
  repeat (first | (refine M0 ?_; first | refine SL ?_ | refine SB fun _ _ => ?_) | (refine M1 ?_; refine SC ?_) | (refine M2 ?_; refine SE ?_))
  refine XL.rebase (List.Sublist.refl _) (fun W0 S0 => ?_)
  refine XL.callF (ks := [g1]) (rs := []) (hs := []) (b0 := w.heap.size) (wE := w) (BestV t) (ck rfl) rfl rfl (Fam.start S0.size) (fun k hk => S0.keyLt k hk) S0.toBelow (fun w1 S1 _ hB1 => h3 w1 hB1) (fun w2 x new hR hF2 hB2 hk2 => ?_) ZZHL
  obtain ⟨q1, rfl, rfl⟩ := hR
  simp only [svV]
  repeat (first | (refine M0 ?_; first | refine SL ?_ | refine SB fun _ _ => ?_) | (refine M1 ?_; refine SC ?_) | (refine M2 ?_; refine SE ?_))
  refine XL.callF (wE := w) (BestV t) (ck rfl) rfl rfl hF2 hk2 hB2 (fun w1 S1 hF1 hB1 => h4 w1 hB1) (fun w3 x new hR hF3 hB3 hk3 => ?_) ZZHL
  obtain ⟨q2, rfl, rfl⟩ := hR
  have hsp : ∀ {L : Lo} (w5 : World) (S5 : Sys w.heap.size w3 L w5) (hL5 : ∀ e, e ∈ L → e.1 ∈ [g1] ∨ w3.heap.size ≤ e.1), Calls Try.prog 15 #[svV q1, svV q2] w5 fun e w' => e = .returned (.bool true) ∧ Below w5.heap.size w5 w' := fun {L} w5 S5 hL5 => by
    have F5 := hF3.sys S5 (fun e he => (hL5 e he).imp (fun h => List.mem_append_right _ (List.mem_append_right _ h)) id)
    obtain ⟨es, a1, a2⟩ : PlanAt w5 _ q1 (fdP (bst t)) := F5.held (hPlan q1 (fdP (bst t))) (by simp)
    obtain ⟨fs, b1, b2⟩ : PlanAt w5 _ q2 (fdP (bst t)) := F5.held (hPlan q2 (fdP (bst t))) (by simp)
    have h := SamePlan_any (a1.mono fun j hj => hj.2.1) (b1.mono fun j hj => hj.2.1)
    rw [a2, b2, decide_eq_true rfl] at h
    exact h
  simp only [svV] at hsp ⊢
  obtain ⟨e, he⟩ : ∃ a, a = bstE t := ⟨_, rfl⟩
  obtain ⟨m, hm⟩ : ∃ a, a = fdC (bst t) := ⟨_, rfl⟩
  rw [← he, ← hm]
  repeat (first | (refine M0 ?_; first | refine SL ?_ | refine SB fun _ _ => ?_) | (refine M1 ?_; refine SC ?_) | (refine M2 ?_; refine SE ?_))
  refine XL.step _ (Ev.call (f := 15) (ck rfl) rfl (fun w5 S5 => hsp w5 S5 ZZHL)) rfl ?_
  repeat (first | (refine M0 ?_; first | refine SL ?_ | refine SB fun _ _ => ?_) | (refine M1 ?_; refine SC ?_) | (refine M2 ?_; refine SE ?_))
  rw [decide_eq_true (rfl : m = m)]
  repeat (first | (refine M0 ?_; first | refine SL ?_ | refine SB fun _ _ => ?_) | (refine M1 ?_; refine SC ?_) | (refine M2 ?_; refine SE ?_))
  rw [decide_eq_true (rfl : e = e)]
  repeat (first | (refine M0 ?_; first | refine SL ?_ | refine SB fun _ _ => ?_ | refine Y4 (Ev.call (f := 12) (ck rfl) rfl (fun w5 S5 => haw w5 S5)) ?_) | (refine M1 ?_; refine SC ?_) | (refine M2 ?_; refine SE ?_))
  refine XE.retg tok Try.results3 rfl (by simp only [and_self, and_true]) (fun w' S => ?_)
  exact ⟨rfl, hB3.trans S.toBelow⟩
end Go.Proofs.Ytmckmlmfilmiaaa.X
/-
  The walks of the document's Cost and SameDone (runoff); the law RunoffDoes.
-/
namespace Go.Proofs.Ytmckmlmfilmiaaa.Bs
open Go.Proofs.Ytmckmlmfilmiaaa.X
/-- what following costs, told by what is followed. -/
theorem cost_fol (t : RTk) (p : Plan) : costE t p = (if folE t p = 0 then folF t p else folE t p) := by
  unfold costE folF folE
  by_cases h0 : rtE t = 0
  · by_cases h1 : t.shaped p = false
    · simp [h0, h1]
    · simp [h0, h1]
  · simp [h0]
theorem fol_0 {t : RTk} {p : Plan} (h : costE t p = 0) : folE t p = 0 ∧ folF t p = 0 ∧ costN t p = costs (folL t p) := by
  have h2 := cost_fol t p
  rw [h] at h2
  by_cases h3 : folE t p = 0
  · rw [if_pos h3] at h2
    refine ⟨h3, h2.symm, ?_⟩
    unfold costN folL
    rw [if_pos h, if_pos h3]
  · rw [if_neg h3] at h2; exact absurd h2.symm h3
end Go.Proofs.Ytmckmlmfilmiaaa.Bs
namespace Go.Proofs.Ytmckmlmfilmiaaa.X
open Go Go.RowKit Go.Proofs.Ytmckmlmfilmiaaa.Bs
set_option linter.unusedVariables false
set_option maxHeartbeats 8000000 in
theorem ref7Cost_any {v : RTV} {t : RTk} {pq : SV} {p : Plan} {es : List (SV × List Bool)} {w : World} (ht : TskAt w w.heap.size v t) (hn : t.slu.length + t.pmp.length ≤ 5000000) (hp : ListAt plnK w (Lt w.heap.size) pq es) (hes : es.map (·.2) = p) :
    Calls Try.prog 21 #[tskV v t, svV pq] w fun e w' => e = .returned (.tuple ⟨[.int .i64 (costN t p), .int .i64 (costE t p)]⟩) ∧ Below w.heap.size w w' := by
  have hfol := fun (w5 : World) (hB : Below w.heap.size w w5) => ref7Do_made (v := v) (t := t) (w := w5) (pq := pq) (ht.sys (Sys.ofBelow hB)) hn ((hp.keep fun k hk => hB.block k hk).mono fun k hk => Nat.lt_of_lt_of_le hk hB.size) hes
  have hC := cost_fol t p
  have hN : costE t p ≠ 0 → costN t p = 0 := fun h => by unfold costN; rw [if_neg h]
  simp only [tskV, tskC, svV] at hfol ⊢
  refine enter Try.func21 rfl Try.ntmps21 rfl ?_; simp only [frame, Nat.zero_add, Nat.reduceAdd]
  repeat (first | (refine M0 ?_; first | refine SL ?_ | refine SB fun _ _ => ?_) | (refine M1 ?_; refine SC ?_) | (refine M2 ?_; refine SE ?_))
  rename_i g2 hg2
  refine XL.rebase (List.Sublist.refl _) (fun W0 S0 => ?_)
  refine XL.callF (ks := [g2]) (rs := []) (hs := []) (b0 := w.heap.size) (wE := w) (DoV2 t p) (ck rfl) rfl rfl (Fam.start S0.size) (fun k hk => S0.keyLt k hk) S0.toBelow (fun w1 S1 _ hB1 => hfol w1 hB1) (fun w2 x new hR hF2 hB2 hk2 => ?_) ZZHL
  obtain ⟨q, ds, rfl, hds, rfl⟩ := hR
  obtain ⟨fe, hfe⟩ : ∃ a, a = folE t p := ⟨_, rfl⟩
  obtain ⟨ff, hff⟩ : ∃ a, a = folF t p := ⟨_, rfl⟩
  rw [← hfe, ← hff] at hC ⊢
  by_cases h0 : fe = 0
  rotate_left
  · rw [if_neg h0] at hC
    repeat (first | (refine M0 ?_; first | refine SL ?_ | refine SB fun _ _ => ?_) | (refine M1 ?_; refine SC ?_) | (refine M2 ?_; refine SE ?_))
    rw [show decide (fe = 0) = false from decide_eq_false h0]
    repeat (first | (refine M0 ?_; first | refine SL ?_ | refine SB fun _ _ => ?_) | (refine M1 ?_; refine SC ?_) | (refine M2 ?_; refine SE ?_))
    rw [show decide (fe ≠ 0) = true from decide_eq_true h0]
    repeat (first | (refine M0 ?_; first | refine SL ?_ | refine SB fun _ _ => ?_) | (refine M1 ?_; refine SC ?_) | (refine M2 ?_; refine SE ?_))
    refine XE.retg tok Try.results21 rfl (by simp only [and_self, and_true]) (fun w' S => ?_)
    rw [hC, hN (by rw [hC]; exact h0)]
    exact ⟨rfl, hB2.trans S.toBelow⟩
  subst h0
  rw [if_pos rfl] at hC
  by_cases h1 : ff = 0
  rotate_left
  · repeat (first | (refine M0 ?_; first | refine SL ?_ | refine SB fun _ _ => ?_) | (refine M1 ?_; refine SC ?_) | (refine M2 ?_; refine SE ?_))
    rw [show decide (ff ≠ 0) = true from decide_eq_true h1]
    repeat (first | (refine M0 ?_; first | refine SL ?_ | refine SB fun _ _ => ?_) | (refine M1 ?_; refine SC ?_) | (refine M2 ?_; refine SE ?_))
    refine XE.retg tok Try.results21 rfl (by simp only [and_self, and_true]) (fun w' S => ?_)
    rw [hC, hN (by rw [hC]; exact h1)]
    exact ⟨rfl, hB2.trans S.toBelow⟩
  subst h1
  obtain ⟨_, _, hcn⟩ := fol_0 hC
  have hr0 : rtE t = 0 := by
    unfold costE at hC
    split at hC
    · rename_i h; exact absurd hC h
    · rename_i h; simpa using h
  have ho := rtOk_of hr0
  have hsh : t.shaped p = true := by
    unfold costE at hC
    rw [if_neg (by simp [hr0])] at hC
    split at hC
    · cases hC
    · rename_i h; simpa using h
  obtain ⟨hsl, hrow⟩ := shaped_len hsh
  have hLe : folL t p = (t.flw 0 t.s t.on p).1 := by unfold folL; rw [if_pos hfe.symm]
  obtain ⟨l1, l2⟩ := flw_bd ho (p := p) (i := 0) (s := t.s) (b := t.on) ho.sta (by rw [Nat.zero_add, hsl]; exact Nat.le_refl _)
  rw [← hLe] at l1 l2
  have hn6 : t.n ≤ 6 := ho.n6
  obtain ⟨dl, hdl⟩ : ∃ dl, dl = folL t p := ⟨_, rfl⟩
  rw [← hdl] at l1 l2 hds hcn
  have hlen : ds.length = dl.length := by rw [← hds]; simp
  obtain ⟨Aq, nq, cq⟩ := q
  have hlq : ListAt donK w2 _ ⟨Aq, nq, cq⟩ ds := hF2.held (hList donK ⟨Aq, nq, cq⟩ ds) (.head _)
  have hlnq := hlq.len (by decide)
  simp only at hlnq
  subst hlnq
  simp only [svV]
  repeat (first | (refine M0 ?_; first | refine SL ?_ | refine SB fun _ _ => ?_) | (refine M1 ?_; refine SC ?_) | (refine M2 ?_; refine SE ?_))
  refine XC.loopk [6] rfl (fun k : Nat => [(10, .int .i64 (k : Nat)), (9, .int .i64 (costs (dl.take k)))]) (fun _ => [(g2, cel 33 (tskC v t))]) (fun _ => w2) (fun k => k ≤ ds.length) (fun k => ds.length - k) 0 (Nat.zero_le _) ZZSUB (fun _ h => h) ?_
  intro k hk
  simp only [tskC]
  dsimp only [List.cons_append, List.nil_append]
  repeat (first | (refine M0 ?_; first | refine SL ?_ | refine SB fun _ _ => ?_) | (refine M1 ?_; refine SC ?_) | (refine M2 ?_; refine SE ?_))
  refine XC.cond _ rfl (fun h2 => ?_) (fun h2 => ?_)
  rotate_left
  · have hkn : k = ds.length := by have := of_decide_eq_false h2; omega
    subst hkn
    rw [hlen, List.take_length]
    repeat (first | (refine M0 ?_; first | refine SL ?_ | refine SB fun _ _ => ?_) | (refine M1 ?_; refine SC ?_) | (refine M2 ?_; refine SE ?_))
    refine XE.retg tok Try.results21 rfl (by simp only [and_self, and_true]) (fun w' S => ?_)
    rw [hC, hcn]
    exact ⟨rfl, hB2.trans S.toBelow⟩
  have hkn : k < ds.length := by have := of_decide_eq_true h2; omega
  obtain ⟨aq, haq, hfl⟩ := hlq.addr (by decide) (by omega)
  subst haq
  have hel := hlq.elem (List.getElem?_eq_getElem hkn) 4 (.int .i64 ds[k].2.cost) rfl
  have hdk : dl[k]'(by omega) = ds[k].2 := by simp [← hds]
  have hct := costs_take (l := dl) (k := k) (by omega)
  rw [hdk] at hct
  have hb1 := costs_bd (l := dl.take k) (fun x hx => l2 x (List.mem_of_mem_take hx))
  have hb2 := l2 ds[k].2 (by rw [← hds]; exact List.mem_map_of_mem (List.getElem_mem hkn))
  have hb3 : (dl.take k).length ≤ 6 := by rw [List.length_take]; omega
  have hb4 : 200000000000000 * ((dl.take k).length : Int) ≤ 200000000000000 * 6 := by omega
  obtain ⟨cs, hcs⟩ : ∃ x, x = ds[k].2.cost := ⟨_, rfl⟩
  obtain ⟨c0, hc0⟩ : ∃ x, x = costs (dl.take k) := ⟨_, rfl⟩
  rw [← hcs] at hel hct hb2
  rw [← hc0] at hct hb1
  rw [← hc0]
  repeat (first | (refine M0 ?_; first | refine SL ?_ | refine SB fun _ _ => ?_ | refine Y4 (Ev.load_far tok rfl rfl (by rw [add_block, add_block]; exact hfl.2.1) (Free.far2 hfl ZZHL) hel) ?_) | (refine M1 ?_; refine SC ?_) | (refine M2 ?_; refine SE ?_))
  rw [← hct]
  exact XE.round (s := k) (k + 1) hkn (by omega) ZZSUB (fun _ h => h)
theorem sameState_selfR {q r : SV} {s : Sta} {w : World} (hq : IntsAt w (Lt w.heap.size) q s.fil) (hr : IntsAt w (Lt w.heap.size) r s.fil) :
    Calls Try.prog 51 #[staV q s, staV r s] w fun e w' => e = .returned (.bool true) ∧ Below w.heap.size w w' := by
  have := sameState_any hq hr
  rw [show sameStaB s s = true by simp [sameStaB]] at this
  exact this
set_option maxHeartbeats 8000000 in
theorem sameDone_self {p q : SV} {ds es : List (SV × Done)} {w : World} (hp : ListAt donK w (Lt w.heap.size) p ds) (hq : ListAt donK w (Lt w.heap.size) q es) (he : ds.map (·.2) = es.map (·.2)) :
    Calls Try.prog 19 #[svV p, svV q] w fun e w' => e = .returned (.bool true) ∧ Below w.heap.size w w' := by
  obtain ⟨Ap, np, cp⟩ := p
  obtain ⟨Aq, nq, cq⟩ := q
  have lp := hp.len (by decide)
  have lq := hq.len (by decide)
  have mp := hp.max
  have mq := hq.max
  have hlen : ds.length = es.length := by have := congrArg List.length he; simpa using this
  simp only at lp lq mp mq
  subst lp lq
  simp only [svV]
  refine enter Try.func19 rfl Try.ntmps19 rfl ?_; simp only [frame, Nat.zero_add, Nat.reduceAdd]
  repeat (first | (refine M0 ?_; first | refine SL ?_ | refine SB fun _ _ => ?_) | (refine M1 ?_; refine SC ?_) | (refine M2 ?_; refine SE ?_))
  rw [show decide ((ds.length : Int) ≠ (es.length : Int)) = false from decide_eq_false (by omega)]
  repeat (first | (refine M0 ?_; first | refine SL ?_ | refine SB fun _ _ => ?_) | (refine M1 ?_; refine SC ?_) | (refine M2 ?_; refine SE ?_))
  refine XC.loopk [0, 1] rfl (fun k : Nat => [(5, .int .i64 (k : Nat))]) (fun _ => []) (fun _ => w) (fun k => k ≤ ds.length) (fun k => ds.length - k) 0 (Nat.zero_le _) ZZSUB (fun _ h => h) ?_
  intro k hk
  dsimp only [List.cons_append, List.nil_append]
  repeat (first | (refine M0 ?_; first | refine SL ?_ | refine SB fun _ _ => ?_) | (refine M1 ?_; refine SC ?_) | (refine M2 ?_; refine SE ?_))
  refine XC.cond _ rfl (fun h2 => ?_) (fun h2 => ?_)
  rotate_left
  · have hkn : k = ds.length := by have := of_decide_eq_false h2; omega
    repeat (first | (refine M0 ?_; first | refine SL ?_ | refine SB fun _ _ => ?_) | (refine M1 ?_; refine SC ?_) | (refine M2 ?_; refine SE ?_))
    refine XE.retg tok Try.results19 rfl (by simp only [and_self, and_true]) (fun w' S => ?_)
    exact ⟨rfl, S.toBelow⟩
  have hkn : k < ds.length := by have := of_decide_eq_true h2; omega
  have hkf : k < es.length := by omega
  obtain ⟨ap, rfl, hlp⟩ := hp.addr (by decide) (by omega)
  obtain ⟨aq, rfl, hlq⟩ := hq.addr (by decide) (by omega)
  have c1 := hp.elem (List.getElem?_eq_getElem hkn)
  have c2 := hq.elem (List.getElem?_eq_getElem hkf)
  have i1 : IntsAt w (Lt w.heap.size) ds[k].1 ds[k].2.s.fil := hp.ins ds[k] (List.getElem_mem hkn) (hInts ds[k].1 ds[k].2.s.fil) (.head _)
  have i2 : IntsAt w (Lt w.heap.size) es[k].1 es[k].2.s.fil := hq.ins es[k] (List.getElem_mem hkf) (hInts es[k].1 es[k].2.s.fil) (.head _)
  have hd : ds[k].2 = es[k].2 := by
    have h1 : (ds.map (·.2))[k]? = (es.map (·.2))[k]? := by rw [he]
    simpa [hkn, hkf] using h1
  obtain ⟨⟨p1, d1⟩, h1e⟩ : ∃ z, z = ds[k] := ⟨_, rfl⟩
  obtain ⟨⟨q1, d2⟩, h1f⟩ : ∃ z, z = es[k] := ⟨_, rfl⟩
  rw [← h1e] at c1 i1 hd
  rw [← h1f] at c2 i2 hd
  simp only at hd i1 i2
  subst hd
  have a1 : ∀ j u, ([.int .i64 d1.s.vol, .slice p1.A p1.n p1.c] : List Value)[j]? = some u → w.cell? (((ap.add (k * 5)).add 0).add j) = some u := fun j u h => (congrArg w.cell? (by rw [add_add, Nat.zero_add]; rfl)).trans (c1 j u (by
    match j, h with
    | 0, h => exact h
    | 1, h => exact h))
  have a2 : ∀ j u, ([.int .i64 d1.s.vol, .slice q1.A q1.n q1.c] : List Value)[j]? = some u → w.cell? (((aq.add (k * 5)).add 0).add j) = some u := fun j u h => (congrArg w.cell? (by rw [add_add, Nat.zero_add]; rfl)).trans (c2 j u (by
    match j, h with
    | 0, h => exact h
    | 1, h => exact h))
  have b2 := c1 2 (.int .i64 d1.out) rfl
  have b3 := c1 3 (.int .i64 d1.energy) rfl
  have b4 := c1 4 (.int .i64 d1.cost) rfl
  have e2 := c2 2 (.int .i64 d1.out) rfl
  have e3 := c2 3 (.int .i64 d1.energy) rfl
  have e4 := c2 4 (.int .i64 d1.cost) rfl
  have b2' : w.cell? ((ap.add (k * 5)).add 2) = some (.int .i64 d1.out) := b2
  have b3' : w.cell? ((ap.add (k * 5)).add 3) = some (.int .i64 d1.energy) := b3
  have b4' : w.cell? ((ap.add (k * 5)).add 4) = some (.int .i64 d1.cost) := b4
  have e2' : w.cell? ((aq.add (k * 5)).add 2) = some (.int .i64 d1.out) := e2
  have e3' : w.cell? ((aq.add (k * 5)).add 3) = some (.int .i64 d1.energy) := e3
  have e4' : w.cell? ((aq.add (k * 5)).add 4) = some (.int .i64 d1.cost) := e4
  have hcall := fun {L : Lo} (w5 : World) (S5 : Sys w.heap.size w L w5) => sameState_selfR (s := d1.s) (i1.arg S5) (i2.arg S5)
  simp only [staV, staC] at hcall
  have z1' : ∀ x : Int, decide (x ≠ x) = false := fun x => decide_eq_false (fun h => h rfl)
  repeat (first | (refine M0 ?_; first | refine SL ?_ | refine SB fun _ _ => ?_ | refine Y4 (Ev.load_old_agg tok [.int .i64 d1.s.vol, .slice p1.A p1.n p1.c] rfl rfl rfl (add_lt2 hlp) a1) ?_ | refine Y4 (Ev.load_old_agg tok [.int .i64 d1.s.vol, .slice q1.A q1.n q1.c] rfl rfl rfl (add_lt2 hlq) a2) ?_ | refine Y4 (Ev.call (f := 51) (ck rfl) rfl (fun w5 S5 => hcall w5 S5)) ?_ | refine Y4 (Ev.load_old tok rfl rfl (add_lt2 hlp) b2') ?_ | refine Y4 (Ev.load_old tok rfl rfl (add_lt2 hlq) e2') ?_) | (refine M1 ?_; first | refine SC ?_ | refine SD ?_) | (refine M2 ?_; refine SE ?_) | (refine M3 ?_; first | refine SG ?_ | refine SF ?_ | refine YF (Ev.load_old_agg tok [.int .i64 d1.s.vol, .slice p1.A p1.n p1.c] rfl rfl rfl (add_lt2 hlp) a1) ?_ | refine YF (Ev.load_old_agg tok [.int .i64 d1.s.vol, .slice q1.A q1.n q1.c] rfl rfl rfl (add_lt2 hlq) a2) ?_ | refine YF (Ev.call (f := 51) (ck rfl) rfl (fun w5 S5 => hcall w5 S5)) ?_ | refine YF (Ev.load_old tok rfl rfl (add_lt2 hlp) b2') ?_ | refine YF (Ev.load_old tok rfl rfl (add_lt2 hlq) e2') ?_) | (refine M4 ?_; refine SR ?_) | (refine M5 ?_; first | exact M7 | refine YM ?_ | refine YN ?_ ?_))
  rw [z1' d1.out]
  repeat (first | (refine M0 ?_; first | refine SL ?_ | refine SB fun _ _ => ?_ | refine Y4 (Ev.load_old tok rfl rfl (add_lt2 hlp) b3') ?_ | refine Y4 (Ev.load_old tok rfl rfl (add_lt2 hlq) e3') ?_) | (refine M1 ?_; first | refine SC ?_ | refine SD ?_) | (refine M2 ?_; refine SE ?_) | (refine M3 ?_; first | refine SG ?_ | refine SF ?_ | refine YF (Ev.load_old tok rfl rfl (add_lt2 hlp) b3') ?_ | refine YF (Ev.load_old tok rfl rfl (add_lt2 hlq) e3') ?_) | (refine M4 ?_; refine SR ?_) | (refine M5 ?_; first | exact M7 | refine YM ?_ | refine YN ?_ ?_))
  rw [z1' d1.energy]
  repeat (first | (refine M0 ?_; first | refine SL ?_ | refine SB fun _ _ => ?_ | refine Y4 (Ev.load_old tok rfl rfl (add_lt2 hlp) b4') ?_ | refine Y4 (Ev.load_old tok rfl rfl (add_lt2 hlq) e4') ?_) | (refine M1 ?_; first | refine SC ?_ | refine SD ?_) | (refine M2 ?_; refine SE ?_) | (refine M3 ?_; first | refine SG ?_ | refine SF ?_ | refine YF (Ev.load_old tok rfl rfl (add_lt2 hlp) b4') ?_ | refine YF (Ev.load_old tok rfl rfl (add_lt2 hlq) e4') ?_) | (refine M4 ?_; refine SR ?_) | (refine M5 ?_; first | exact M7 | refine YM ?_ | refine YN ?_ ?_))
  rw [z1' d1.cost]
  repeat (first | (refine M0 ?_; first | refine SL ?_ | refine SB fun _ _ => ?_) | (refine M1 ?_; first | refine SC ?_ | refine SD ?_) | (refine M2 ?_; refine SE ?_) | (refine M3 ?_; first | refine SG ?_ | refine SF ?_) | (refine M4 ?_; refine SR ?_) | (refine M5 ?_; first | exact M7 | refine YM ?_ | refine YN ?_ ?_))
  exact XE.round (s := k) (k + 1) hkn (by omega) ZZSUB (fun _ h => h)
set_option maxHeartbeats 4000000 in
theorem RunoffDoes_any {v : RTV} {t : RTk} {pq : SV} {es : List (SV × List Bool)} {w : World} (ht : TskAt w w.heap.size v t) (hn : t.slu.length + t.pmp.length ≤ 5000000) (hp : ListAt plnK w (Lt w.heap.size) pq es) :
    Calls Try.prog 5 #[tskV v t, svV pq] w fun e w' => e = .returned (.bool true) ∧ Below w.heap.size w w' := by
  have hpt : ∀ (w5 : World), Below w.heap.size w w5 → ListAt plnK w5 (Lt w5.heap.size) pq es := fun w5 hB => (hp.keep fun k hk => hB.block k hk).mono fun k hk => Nat.lt_of_lt_of_le hk hB.size
  obtain ⟨pl, hpl⟩ : ∃ pl, es.map (·.2) = pl := ⟨_, rfl⟩
  have h1 := fun (w5 : World) (hB : Below w.heap.size w w5) => Do_made (ht.sys (Sys.ofBelow hB)) hn (hpt w5 hB) hpl
  have h2 := fun (w5 : World) (hB : Below w.heap.size w w5) => ref7Do_made (ht.sys (Sys.ofBelow hB)) hn (hpt w5 hB) hpl
  have h3 := fun (w5 : World) (hB : Below w.heap.size w w5) => Cost_any (ht.sys (Sys.ofBelow hB)) hn (hpt w5 hB) hpl
  have h4 := fun (w5 : World) (hB : Below w.heap.size w w5) => ref7Cost_any (ht.sys (Sys.ofBelow hB)) hn (hpt w5 hB) hpl
  have haw := fun {L : Lo} {W : World} (w5 : World) (S5 : Sys w.heap.size W L w5) => Awake_any (w := w5)
  have dn : ∀ a : Int, decide (a ≠ a) = false := fun a => decide_eq_false (fun h => h rfl)
  have de : ∀ a : Int, decide (a = a) = true := fun a => decide_eq_true rfl
  simp only [tskV, tskC, svV] at h1 h2 h3 h4 ⊢
  refine enter Try.func5 rfl Try.ntmps5 rfl ?_; simp only [frame, Nat.zero_add, Nat.reduceAdd]
  repeat (first | (refine M0 ?_; first | refine SL ?_ | refine SB fun _ _ => ?_) | (refine M1 ?_; refine SC ?_) | (refine M2 ?_; refine SE ?_))
  rename_i g2 hg2
  refine XL.rebase (List.Sublist.refl _) (fun W0 S0 => ?_)
  refine XL.callF (ks := [g2]) (rs := []) (hs := []) (b0 := w.heap.size) (wE := w) (DoV2 t pl) (ck rfl) rfl rfl (Fam.start S0.size) (fun k hk => S0.keyLt k hk) S0.toBelow (fun w1 S1 _ hB1 => h1 w1 hB1) (fun w2 x new hR hF2 hB2 hk2 => ?_) ZZHL
  obtain ⟨q1, ds1, rfl, hds1, rfl⟩ := hR
  simp only [svV]
  repeat (first | (refine M0 ?_; first | refine SL ?_ | refine SB fun _ _ => ?_) | (refine M1 ?_; refine SC ?_) | (refine M2 ?_; refine SE ?_))
  refine XL.callF (wE := w) (DoV2 t pl) (ck rfl) rfl rfl hF2 hk2 hB2 (fun w1 S1 hF1 hB1 => h2 w1 hB1) (fun w3 x new hR hF3 hB3 hk3 => ?_) ZZHL
  obtain ⟨q2, ds2, rfl, hds2, rfl⟩ := hR
  have hsd : ∀ {L : Lo} (w5 : World) (S5 : Sys w.heap.size w3 L w5) (hL5 : ∀ e, e ∈ L → e.1 ∈ [g2] ∨ w3.heap.size ≤ e.1), Calls Try.prog 19 #[svV q1, svV q2] w5 fun e w' => e = .returned (.bool true) ∧ Below w5.heap.size w5 w' := fun {L} w5 S5 hL5 => by
    have F5 := hF3.sys S5 (fun e he => (hL5 e he).imp (fun h => List.mem_append_right _ (List.mem_append_right _ h)) id)
    have k1 : ListAt donK w5 _ q1 ds1 := F5.held (hList donK q1 ds1) (by simp)
    have k2 : ListAt donK w5 _ q2 ds2 := F5.held (hList donK q2 ds2) (by simp)
    exact sameDone_self (k1.mono fun j hj => hj.2.1) (k2.mono fun j hj => hj.2.1) (hds1.trans hds2.symm)
  simp only [svV] at hsd ⊢
  obtain ⟨a, ha⟩ : ∃ a, a = folF t pl := ⟨_, rfl⟩
  obtain ⟨b, hb⟩ : ∃ a, a = folE t pl := ⟨_, rfl⟩
  rw [← ha, ← hb]
  repeat (first | (refine M0 ?_; first | refine SL ?_ | refine SB fun _ _ => ?_) | (refine M1 ?_; refine SC ?_) | (refine M2 ?_; refine SE ?_))
  refine XL.step _ (Ev.call (f := 19) (ck rfl) rfl (fun w5 S5 => hsd w5 S5 ZZHL)) rfl ?_
  repeat (first | (refine M0 ?_; first | refine SL ?_ | refine SB fun _ _ => ?_) | (refine M1 ?_; refine SC ?_) | (refine M2 ?_; refine SE ?_))
  rw [dn a]
  repeat (first | (refine M0 ?_; first | refine SL ?_ | refine SB fun _ _ => ?_) | (refine M1 ?_; refine SC ?_) | (refine M2 ?_; refine SE ?_))
  rw [dn b]
  repeat (first | (refine M0 ?_; first | refine SL ?_ | refine SB fun _ _ => ?_ | refine Y4 (Ev.call (f := 20) (ck rfl) rfl (fun w5 S5 => h3 w5 (hB3.trans S5.toBelow))) ?_ | refine Y4 (Ev.call (f := 21) (ck rfl) rfl (fun w5 S5 => h4 w5 (hB3.trans S5.toBelow))) ?_) | (refine M1 ?_; refine SC ?_) | (refine M2 ?_; refine SE ?_))
  rw [de (costN t pl)]
  repeat (first | (refine M0 ?_; first | refine SL ?_ | refine SB fun _ _ => ?_) | (refine M1 ?_; refine SC ?_) | (refine M2 ?_; refine SE ?_))
  rw [de (costE t pl)]
  repeat (first | (refine M0 ?_; first | refine SL ?_ | refine SB fun _ _ => ?_ | refine Y4 (Ev.call (f := 12) (ck rfl) rfl (fun w5 S5 => haw w5 S5)) ?_) | (refine M1 ?_; refine SC ?_) | (refine M2 ?_; refine SE ?_))
  refine XE.retg tok Try.results5 rfl (by simp only [and_self, and_true]) (fun w' S => ?_)
  exact ⟨rfl, hB3.trans S.toBelow⟩
end Go.Proofs.Ytmckmlmfilmiaaa.X
