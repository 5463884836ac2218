/-
  Alarms: the walk of From.
-/
import Derived.Test.YtgddcbpbadookaaGreatDoorPart5
import Derived.Test.YtgddcbpbadookaaGreatDoorPart4
import Derived.Test.YtgddcbpbadookaaGreatDoorPart3
import Derived.Test.YtgddcbpbadookaaGreatDoorPart2
namespace Go.Proofs.YtgddcbpbadookaaGreatDoor
set_option linter.unusedVariables false
set_option linter.unusedSimpArgs false
namespace Bs
open X
def addF (fr : Int) (l : List Int) : List Int := l.map fun n => if 0 ≤ n then n + fr else n
def lateF (fr : Int) (l : List Int) : Bool := l.any fun n => decide (0 ≤ n) && decide (200000 < n + fr)
open Classical in
noncomputable def fromE (b : Bas) (s : Sta) (fr : Int) (hs : List (List Tick)) : Int :=
  if staErr b s ≠ 0 then staErr b s else if outB fr 0 200000 then 7 else if outB hs.length 1 8 then 3 else
  match hs.find? fun ts => decide (runE b s ts ≠ 0) with
  | some ts => runE b s ts
  | none => if (hs.any fun ts => lateF fr (floods b s ts)) then 7 else 0
noncomputable def fromL (b : Bas) (s : Sta) (fr : Int) (hs : List (List Tick)) : List (List Int) := if fromE b s fr hs ≠ 0 then [] else hs.map fun ts => addF fr (floods b s ts)
def mixF (fr : Int) (l : List Int) (i : Nat) : List Int := addF fr (l.take i) ++ l.drop i
section
variable {fr : Int} {l : List Int} {i : Nat}
theorem mixF_0 : mixF fr l 0 = l := by simp [mixF, addF]
theorem mixF_n : mixF fr l l.length = addF fr l := by simp [mixF]
theorem mixF_len : (mixF fr l i).length = l.length := by simp [mixF, addF]; omega
theorem mixF_get (h : i < l.length) : (mixF fr l i)[i]? = some l[i] := by
  have h1 : (addF fr (l.take i)).length = i := by simp [addF]; omega
  unfold mixF
  rw [List.getElem?_append_right (by omega), h1, Nat.sub_self, List.getElem?_drop]
  simp [h]
theorem mixF_set (h : i < l.length) : (mixF fr l i).set i (if 0 ≤ l[i] then l[i] + fr else l[i]) = mixF fr l (i + 1) := by
  have h1 : (addF fr (l.take i)).length = i := by simp [addF]; omega
  unfold mixF
  rw [List.set_append_right i _ (by omega), h1, Nat.sub_self, List.drop_eq_getElem_cons h, List.set_cons_zero]
  have h2 : addF fr (l.take (i + 1)) = addF fr (l.take i) ++ [if 0 ≤ l[i] then l[i] + fr else l[i]] := by
    rw [List.take_succ_eq_append_getElem h]
    unfold addF
    rw [List.map_append]; rfl
  rw [h2, List.append_assoc]
  rfl
theorem mixF_same (h : i < l.length) (hn : ¬ 0 ≤ l[i]) : mixF fr l (i + 1) = mixF fr l i := by
  rw [← mixF_set h, if_neg hn]
  apply List.ext_getElem? 
  intro j
  rw [List.getElem?_set]
  split
  · rename_i e
    subst e
    rw [mixF_get h]
    have : i < (mixF fr l i).length := by rw [mixF_len]; exact h
    simp [this]
  · rfl
theorem lateF_add (h : i < l.length) : lateF fr (l.take (i + 1)) = (lateF fr (l.take i) || (decide (0 ≤ l[i]) && decide (200000 < l[i] + fr))) := by
  unfold lateF
  rw [List.take_succ_eq_append_getElem h, List.any_append]
  simp
end
end Bs
namespace X
open Go Go.RowKit Bs
def hTksA (q : SV) (ts : List Tick) : Held := ⟨fun w ok => TksAt w ok q ts, TksAt.keep, fun h hk => ⟨h.rd.mono hk, h.max⟩⟩
def tkkK : Kind (SV × List Tick) := ⟨49, 1, fun e => [.slice e.1.A e.1.n e.1.c], fun e => [hTksA e.1 e.2], fun _ => rfl⟩
theorem lis_el : elemOk Tryz.prog 52 26 1 24 = true := by kernel_rfl
def FromV (b : Bs.Bas) (s : Sta) (fr : Int) (hs : List (List Tick)) (x : Value) (new : List Held) : Prop := ∃ (r : SV) (es : List (SV × List Int)), x = .tuple ⟨[svV r, .int .i64 (fromE b s fr hs)]⟩ ∧ new = [hList lisK r es] ∧ es.map (·.2) = fromL b s fr hs
theorem FromV.no {b : Bs.Bas} {s : Sta} {fr : Int} {hs : List (List Tick)} {w w' : World} {e : Int} (he : fromE b s fr hs = e) (h0 : e ≠ 0) (hB : Below w.heap.size w w') : Made w (FromV b s fr hs) (.returned (.tuple ⟨[.slice none 0 0, .int .i64 e]⟩)) w' :=
  ⟨_, [hList lisK ⟨none, 0, 0⟩ []], rfl, ⟨⟨none, 0, 0⟩, [], by rw [he]; rfl, rfl, by unfold fromL; rw [if_pos (by rw [he]; exact h0)]; rfl⟩, fun x hx => by rw [List.mem_singleton.1 hx]; exact ListAt.nil, hB⟩
set_option maxHeartbeats 32000000 in
set_option maxRecDepth 10000 in
theorem from_made {p : BV} {b : Bs.Bas} {q rh : SV} {s : Sta} {fr : Int} {hs : List (SV × List Tick)} {w : World} (hL : Laid w) (hb : BasAt w w.heap.size p b) (hq : IntsAt w (Lt w.heap.size) q s.fil) (hh : ListAt tkkK w (Lt w.heap.size) rh hs) :
    Calls Tryz.prog 7 #[basV p b, staV q s, .int .i64 fr, svV rh] w (Made w (FromV b s fr (hs.map (·.2)))) := by
  obtain ⟨A, n, c, A2, n2, c2⟩ := p
  have hn2 := hb.n2_eq
  simp only at hn2
  subst hn2
  have hlh := hh.len (by decide)
  obtain ⟨Ah, nh, ch⟩ := rh
  simp only at hlh
  subst hlh
  have hck := fun {L : Lo} (w5 : World) (S5 : Sys w.heap.size w L w5) => checkState_any (p := ⟨A, n, c, A2, b.pols.length, c2⟩) (q := q) (hb.sys S5) (hq.arg S5)
  have hfl := fun (ts : List Tick) (r : SV) (w5 : World) (hB5 : Below w.heap.size w w5) (ht : TksAt w5 (Lt w5.heap.size) r ts) => Floods_own (p := ⟨A, n, c, A2, b.pols.length, c2⟩) (q := q) (r := r) (s := s) (ts := ts) (hL.below hB5) (hb.sys (Sys.ofBelow hB5)) ((hq.below hB5).mono fun j hj => Nat.lt_of_lt_of_le hj hB5.size) ht
  simp only [basV, basC, staV, staC, svV] at hck hfl ⊢
  refine enter Tryz.func7 rfl Tryz.ntmps7 rfl ?_; simp only [frame, Nat.zero_add, Nat.reduceAdd]
  repeat (first | (refine M0 ?_; first | refine SL ?_ | refine SB fun _ _ => ?_ | refine Y4 (Ev.call (f := 22) (ck rfl) rfl (fun w5 S5 => hck w5 S5)) ?_) | (refine M1 ?_; refine SC ?_) | (refine M2 ?_; refine SE ?_))
  rename_i g4 hg4 g5 hg5
  refine XC.cond _ rfl (fun h1 => ?_) (fun h1 => ?_)
  · have hne : staErr b s ≠ 0 := by simpa using h1
    have hE : fromE b s fr (hs.map (·.2)) = staErr b s := by unfold fromE; rw [if_pos hne]
    repeat (first | (refine M0 ?_; first | refine SL ?_ | refine SB fun _ _ => ?_) | (refine M1 ?_; refine SC ?_) | (refine M2 ?_; refine SE ?_))
    refine XE.retg tok Tryz.results7 rfl (by simp only [and_self, and_true]) (fun w' S => ?_)
    exact FromV.no hE hne S.toBelow
  have h0 : staErr b s = 0 := by simpa using h1
  repeat (first | (refine M0 ?_; first | refine SL ?_ | refine SB fun _ _ => ?_ | refine Y4 (Ev.call (f := 23) (ck rfl) rfl (fun w S => aout_any _ _ _ w)) ?_) | (refine M1 ?_; refine SC ?_) | (refine M2 ?_; refine SE ?_))
  refine XC.cond _ rfl (fun h2 => ?_) (fun h2 => ?_)
  · have hE : fromE b s fr (hs.map (·.2)) = 7 := by unfold fromE; rw [if_neg (by simp [h0]), if_pos h2]
    repeat (first | (refine M0 ?_; first | refine SL ?_ | refine SB fun _ _ => ?_) | (refine M1 ?_; refine SC ?_) | (refine M2 ?_; refine SE ?_))
    refine XE.retg tok Tryz.results7 rfl (by simp only [and_self, and_true]) (fun w' S => ?_)
    exact FromV.no hE (by decide) S.toBelow
  have hfr := outB_f.1 (by simpa using h2)
  repeat (first | (refine M0 ?_; first | refine SL ?_ | refine SB fun _ _ => ?_ | refine Y4 (Ev.call (f := 23) (ck rfl) rfl (fun w S => aout_any _ _ _ w)) ?_) | (refine M1 ?_; refine SC ?_) | (refine M2 ?_; refine SE ?_))
  refine XC.cond _ rfl (fun h3 => ?_) (fun h3 => ?_)
  · have hE : fromE b s fr (hs.map (·.2)) = 3 := by unfold fromE; rw [if_neg (by simp [h0]), if_neg (by simpa using h2), List.length_map, if_pos h3]
    repeat (first | (refine M0 ?_; first | refine SL ?_ | refine SB fun _ _ => ?_) | (refine M1 ?_; refine SC ?_) | (refine M2 ?_; refine SE ?_))
    refine XE.retg tok Tryz.results7 rfl (by simp only [and_self, and_true]) (fun w' S => ?_)
    exact FromV.no hE (by decide) S.toBelow
  have h8 := outB_f.1 (by simpa using h3)
  repeat (first | (refine M0 ?_; first | refine SL ?_ | refine SB fun _ _ => ?_) | (refine M1 ?_; refine SC ?_) | (refine M2 ?_; refine SE ?_))
  obtain ⟨ah, rfl, hah⟩ := hh.addr (by decide) (by omega)
  refine XC.rebase (List.Sublist.refl _) (fun W0 S0 => ?_)
  have hle0 : w.heap.size ≤ W0.heap.size := S0.size
  refine XC.loopk [2, 4, 5, 31, 32] rfl (fun y : Nat × World × Value × List (SV × List Int) × Bool => [(8, y.2.2.1), (10, .bool y.2.2.2.2), (33, .int .i64 (y.1 : Nat))])
    (fun _ => [(g5, cel 47 [.int .i64 s.vol, .slice q.A q.n q.c]), (g4, cel 25 [.slice A n c, .int .i64 b.leak, .int .i64 b.crest, .int .i64 b.over, .slice A2 b.pols.length c2])]) (fun y => y.2.1)
    (fun y => y.1 ≤ hs.length ∧ Below w.heap.size w y.2.1 ∧ Fam y.2.1 w.heap.size [g5, g4] [⟨_, lisK, y.2.2.1, y.2.2.2.1⟩] [] ∧ (∀ x, x ∈ [g5, g4] → x < y.2.1.heap.size) ∧ y.2.2.2.1.map (·.2) = (hs.take y.1).map (fun h => addF fr (floods b s h.2)) ∧ y.2.2.2.2 = (hs.take y.1).any (fun h => lateF fr (floods b s h.2)) ∧ (∀ h, h ∈ hs.take y.1 → runE b s h.2 = 0))
    (fun y => hs.length - y.1) (0, W0, .slice none 0 0, [], false) ⟨Nat.zero_le _, S0.toBelow, (Fam.start hle0).nil lisK, fun x hx => S0.keyLt x hx, rfl, rfl, fun h hm => by cases hm⟩ ZZSUB (fun _ h => h) ?_
  clear S0
  rintro ⟨k, W, lv, es, late⟩ ⟨hk, hBW, hF, hks, hes, hlate, hrun⟩
  simp only at hk hBW hF hks hes hlate hrun
  dsimp only [List.cons_append, List.nil_append]
  repeat (first | (refine M0 ?_; first | refine SL ?_ | refine SB fun _ _ => ?_) | (refine M1 ?_; refine SC ?_) | (refine M2 ?_; refine SE ?_))
  refine XC.cond _ rfl (fun h4 => ?_) (fun h4 => ?_)
  rotate_left
  · have hkn : k = hs.length := by have := of_decide_eq_false h4; omega
    subst hkn
    rw [List.take_length] at hes hlate hrun
    have hfind : (hs.map (·.2)).find? (fun ts => decide (runE b s ts ≠ 0)) = none := by
      rw [List.find?_eq_none]
      intro ts hts
      obtain ⟨h, hm, rfl⟩ := List.mem_map.1 hts
      simp [hrun h hm]
    have hany : ((hs.map (·.2)).any fun ts => lateF fr (floods b s ts)) = late := by rw [hlate, List.any_map]; rfl
    have hE : fromE b s fr (hs.map (·.2)) = if late = true then 7 else 0 := by
      unfold fromE
      rw [if_neg (by simp [h0]), if_neg (by simpa using h2), List.length_map, if_neg (by simpa using h3), hfind, hany]
    cases late with
    | true =>
      repeat (first | (refine M0 ?_; first | refine SL ?_ | refine SB fun _ _ => ?_) | (refine M1 ?_; refine SC ?_) | (refine M2 ?_; refine SE ?_))
      refine XE.retg tok Tryz.results7 rfl (by simp only [and_self, and_true]) (fun w' S => ?_)
      exact FromV.no (by rw [hE]; rfl) (by decide) (hBW.trans S.toBelow)
    | false =>
      have hE0 : fromE b s fr (hs.map (·.2)) = 0 := by rw [hE]; rfl
      repeat (first | (refine M0 ?_; first | refine SL ?_ | refine SB fun _ _ => ?_) | (refine M1 ?_; refine SC ?_) | (refine M2 ?_; refine SE ?_))
      refine XE.retg tok Tryz.results7 rfl (by simp only [and_self, and_true]) (fun w' S => ?_)
      have hF6 := hF.sys S fun e he => .inl (List.mem_map.2 ⟨e, he, rfl⟩)
      obtain ⟨r1, rfl, h5⟩ := hF6.list (.head _)
      refine ⟨_, [hList lisK r1 es], rfl, ⟨r1, es, by rw [hE0]; rfl, rfl, ?_⟩, (fun x hx => by rw [List.mem_singleton.1 hx]; exact h5), hBW.trans S.toBelow⟩
      unfold fromL
      rw [if_neg (by simp [hE0]), hes, List.map_map]; rfl
  have hkn : k < hs.length := by have := of_decide_eq_true h4; omega
  have hhk : hs[k]? = some hs[k] := List.getElem?_eq_getElem hkn
  have hcell := hh.elem hhk 0 _ rfl
  have hins := hh.ins hs[k] (List.getElem_mem hkn) (hTksA hs[k].1 hs[k].2) (List.mem_singleton.2 rfl)
  have htk1 : hs.take (k + 1) = hs.take k ++ [hs[k]] := List.take_succ_eq_append_getElem hkn
  obtain ⟨⟨⟨Aq, nq, cq⟩, ts⟩, hkk⟩ : ∃ x : SV × List Tick, x = hs[k] := ⟨_, rfl⟩
  rw [← hkk] at hhk hcell hins htk1
  rw [add_add, Nat.add_zero] at hcell
  simp only at hcell hins
  have hcW : W.cell? (ah.add (k * 1)) = some (.slice Aq nq cq) := (hBW.cell (p := ah.add (k * 1)) (add_lt hah)).trans hcell
  have hfl2 := fun (w5 : World) (S5 : Sys w.heap.size W [(g5, cel 47 [.int .i64 s.vol, .slice q.A q.n q.c]), (g4, cel 25 [.slice A n c, .int .i64 b.leak, .int .i64 b.crest, .int .i64 b.over, .slice A2 b.pols.length c2])] w5) => hfl ts ⟨Aq, nq, cq⟩ w5 (hBW.trans S5.toBelow) ⟨(TksAt.below (show TksAt w (Lt w.heap.size) ⟨Aq, nq, cq⟩ ts from hins) (hBW.trans S5.toBelow)).rd.mono (fun j hj => Nat.lt_of_lt_of_le hj (Nat.le_trans hBW.size S5.size)), (show TksAt w (Lt w.heap.size) ⟨Aq, nq, cq⟩ ts from hins).max⟩
  repeat (first | (refine M0 ?_; first | refine SL ?_ | refine SB fun _ _ => ?_ | refine Y4 (Ev.load_old tok rfl rfl (add_lt hah) hcW) ?_) | (refine M1 ?_; refine SC ?_) | (refine M2 ?_; refine SE ?_))
  refine XL.callr (fst := []) (cap := []) (fun w5 vv w6 => ∃ r : SV, vv = .tuple ⟨[.slice r.A r.n r.c, .int .i64 (runE b s ts)]⟩ ∧ Below w5.heap.size w5 w6 ∧ w6.ownsRow w5.heap.size 3 1 (svV r) (floods b s ts).length (ints (floods b s ts))) (ck rfl) rfl rfl rfl (fun w5 S5 => ?_) (fun w5 vv w6 S5 hR => ?_)
  · exact (hfl2 w5 S5).mono fun e w' ⟨r, h1, h2⟩ => ⟨_, h1, r, rfl, h2⟩
  obtain ⟨⟨Ar, nr, cr⟩, rfl, hb6, hrow⟩ := hR
  refine ⟨_, w6, S5.made hb6, ?_⟩
  have hB6 : Below w.heap.size w w6 := hBW.trans (S5.toBelow.trans (hb6.mono (Nat.le_trans S5.base S5.size)))
  have hks5 : ∀ x, x ∈ [g5, g4] → x < w5.heap.size := fun x hx => S5.keyLt x hx
  have hks6 : ∀ x, x ∈ [g5, g4] → x < w6.heap.size := fun x hx => Nat.lt_of_lt_of_le (hks5 x hx) hb6.size
  have hw5 : w.heap.size ≤ w5.heap.size := Nat.le_trans S5.base S5.size
  have hF6 : Fam w6 w.heap.size [g5, g4] [⟨Int, intK, svV ⟨Ar, nr, cr⟩, floods b s ts⟩, ⟨_, lisK, lv, es⟩] [] := (hF.sys S5 fun e he => .inl (List.mem_map.2 ⟨e, he, rfl⟩)).fresh hb6.size (fun j hj _ => hb6.block j hj) (by simp only [ints_flat']; exact owns_base hrow hw5) (fun kk hkk2 => by
    have h5 := (hrow.lt kk hkk2).1
    exact ⟨h5, fun hm => by have := hks5 kk hm; omega⟩) (fun a ha x hx => by cases hx)
  clear hfl2 hF
  repeat (first | (refine M0 ?_; first | refine SL ?_ | refine SB fun _ _ => ?_) | (refine M1 ?_; refine SC ?_) | (refine M2 ?_; refine SE ?_))
  refine XC.cond _ rfl (fun h5 => ?_) (fun h5 => ?_)
  · have hne : runE b s ts ≠ 0 := by simpa using h5
    have hfind : (hs.map (·.2)).find? (fun ts => decide (runE b s ts ≠ 0)) = some ts := by
      refine List.find?_eq_some_iff_getElem.2 ⟨by simpa using hne, k, by simpa using hkn, ?_, fun j hj => ?_⟩
      · simp [← hkk]
      · have h7 : hs[j] ∈ hs.take k := List.mem_take_iff_getElem.2 ⟨j, by omega, rfl⟩
        simp [hrun hs[j] h7]
    have hE : fromE b s fr (hs.map (·.2)) = runE b s ts := by
      unfold fromE
      rw [if_neg (by simp [h0]), if_neg (by simpa using h2), List.length_map, if_neg (by simpa using h3), hfind]
    repeat (first | (refine M0 ?_; first | refine SL ?_ | refine SB fun _ _ => ?_) | (refine M1 ?_; refine SC ?_) | (refine M2 ?_; refine SE ?_))
    refine XE.retg tok Tryz.results7 rfl (by simp only [and_self, and_true]) (fun w' S => ?_)
    exact FromV.no hE hne (hB6.trans S.toBelow)
  have hr0 : runE b s ts = 0 := by simpa using h5
  obtain ⟨fl, hfl0⟩ : ∃ fl, fl = floods b s ts := ⟨_, rfl⟩
  have hflI : ∀ n, n ∈ fl → -1 ≤ n ∧ n ≤ 300 := fun n hn => floods_in (by rw [← hfl0]; exact hn)
  rw [← hfl0] at hF6
  obtain ⟨r9, hr9, hn9⟩ := hF6.sv (.head _)
  cases svV_inj hr9
  simp only at hn9
  subst hn9
  have hflc : fl.length ≤ 9223372036854775807 := by
    have := (hF6.freeze).held (hList intK ⟨Ar, fl.length, cr⟩ fl) (.head _)
    exact (show ListAt intK w6 _ ⟨Ar, fl.length, cr⟩ fl from this).max
  have hfl0' : fl = floods b s ts := hfl0
  simp only
  repeat (first | (refine M0 ?_; first | refine SL ?_ | refine SB fun _ _ => ?_) | (refine M1 ?_; refine SC ?_) | (refine M2 ?_; refine SE ?_))
  by_cases hp : fl.length = 0
  · have hnil : fl = [] := List.length_eq_zero_iff.1 hp
    have hlf : lateF fr fl = false := by rw [hnil]; rfl
    have haf : addF fr fl = fl := by rw [hnil]; rfl
    refine XC.loopk [2, 4, 5, 8, 10, 13, 31, 32, 33, 47, 48] rfl (fun _ : Unit => [(49, .int .i64 0)]) (fun _ => [(g5, cel 47 [.int .i64 s.vol, .slice q.A q.n q.c]), (g4, cel 25 [.slice A n c, .int .i64 b.leak, .int .i64 b.crest, .int .i64 b.over, .slice A2 b.pols.length c2])]) (fun _ => w6) (fun _ => True) (fun _ => 0) () trivial ZZSUB (fun _ h => h) ?_
    intro _ _
    dsimp only [List.cons_append, List.nil_append]
    repeat (first | (refine M0 ?_; first | refine SL ?_ | refine SB fun _ _ => ?_) | (refine M1 ?_; refine SC ?_) | (refine M2 ?_; refine SE ?_))
    refine XC.cond _ rfl (fun h6 => ?_) (fun h6 => ?_)
    · have := of_decide_eq_true h6; omega
    have hFz : Fam w6 w.heap.size [g5, g4] [⟨_, lisK, lv, es⟩] [hInts ⟨Ar, fl.length, cr⟩ (addF fr fl)] := ((hF6.freeze).hold (x := hInts ⟨Ar, fl.length, cr⟩ (addF fr fl)) (by rw [haf]; exact ListAt.ints (show ListAt intK w6 _ ⟨Ar, fl.length, cr⟩ fl from hF6.freeze.held (hList intK ⟨Ar, fl.length, cr⟩ fl) (.head _))) fun _ h => h).forget fun x hx => by rw [List.mem_singleton.1 hx]; exact .head _
    have hl1 : es.length + 1 ≤ 10000000 := by
      have := congrArg List.length hes
      simp only [List.length_map, List.length_take] at this
      omega
    repeat (first | (refine M0 ?_; first | refine SL ?_ | refine SB fun _ _ => ?_) | (refine M1 ?_; refine SC ?_) | (refine M2 ?_; refine SE ?_))
    refine XL.buildSlice tok rfl rfl rfl rfl rfl rfl rfl rfl rfl (fun gn hgn => ?_)
    repeat (first | (refine M0 ?_; first | refine SL ?_ | refine SB fun _ _ => ?_) | (refine M1 ?_; refine SC ?_) | (refine M2 ?_; refine SE ?_))
    refine XL.push (K := lisK) (a := (⟨Ar, fl.length, cr⟩, addF fr fl)) (wE := w) 0 lis_el (by decide) rfl rfl rfl hFz rfl hks6 hB6 (Nat.le_refl _) rfl hl1 (by decide) (fun x hx => hx) (fun W3 u3 hF3 hB3 hk3 => ?_)
    simp only [List.set_cons_zero] at hF3
    repeat (first | (refine M0 ?_; first | refine SL ?_ | refine SB fun _ _ => ?_) | (refine M1 ?_; refine SC ?_) | (refine M2 ?_; refine SE ?_))
    refine XE.roundW (s := (k, W, lv, es, late)) (fun w7 S7 => ⟨(k + 1, w7, u3, es ++ [(⟨Ar, fl.length, cr⟩, addF fr fl)], late), ⟨hkn, hB3.trans S7.toBelow, ?_, fun x hx => S7.keyLt x (List.mem_cons_of_mem _ hx), ?_, ?_, ?_⟩, by simp only; omega, ZZSUB, S7.rebase (List.sublist_cons_self _ _)⟩)
    · exact ((hF3.sys S7 fun e he => .inl (List.mem_append_left _ (List.mem_map.2 ⟨e, he, rfl⟩))).add (ks' := [g5, g4]) fun x hx => .inl (List.mem_append_right _ hx)).forget fun x hx => by cases hx
    · rw [htk1, List.map_append, List.map_append, hes]
      simp only [List.map_cons, List.map_nil, ← hfl0']
    · rw [htk1, List.any_append, ← hlate]
      simp only [List.any_cons, List.any_nil, Bool.or_false, ← hfl0', hlf, Bool.or_false]
    · intro h hh3
      rw [htk1] at hh3
      rcases List.mem_append.1 hh3 with h6 | h6
      · exact hrun h h6
      · rw [List.mem_singleton.1 h6]; exact hr0
  have hpos : 0 < fl.length := by omega
  have hrow6 := hF6.row _ (.head _)
  simp only [ints_flat', svV] at hrow6
  obtain ⟨g, sp, rfl, _, hgr, hgo, hcap, hcm⟩ := owns_block hrow6 hpos
  have hgk := hF6.sep _ (.head _) g rfl
  have hFd := hF6.dropA (g := g) rfl
  have hsplen : (ints (mixF fr fl 0) ++ sp) = ints fl ++ sp := by rw [mixF_0]
  refine XC.grab hgo hgr (fun e he e1 => hgk (by rw [← e1]; exact List.mem_map.2 ⟨e, he, rfl⟩)) (fun w7 S7 => ?_)
  have hF7 := hFd.sys S7 fun e he => .inl (List.mem_cons_of_mem _ (List.mem_map.2 ⟨e, he, rfl⟩))
  have hB7 := hB6.trans S7.toBelow
  rw [← hsplen]
  refine XC.loopk [2, 4, 5, 8, 13, 31, 32, 33, 47, 48] rfl (fun y : Nat × Bool => [(10, .bool y.2), (49, .int .i64 (y.1 : Nat))]) (fun y => [(g, cel 3 (ints (mixF fr fl y.1) ++ sp)), (g5, cel 47 [.int .i64 s.vol, .slice q.A q.n q.c]), (g4, cel 25 [.slice A n c, .int .i64 b.leak, .int .i64 b.crest, .int .i64 b.over, .slice A2 b.pols.length c2])]) (fun _ => w7)
    (fun y => y.1 ≤ fl.length ∧ y.2 = (late || lateF fr (fl.take y.1))) (fun y => fl.length - y.1) (0, late) ⟨Nat.zero_le _, by simp [lateF]⟩ ZZSUB (fun _ h => h) ?_
  rintro ⟨i, lt⟩ ⟨hi, hlt⟩
  simp only at hi hlt
  dsimp only [List.cons_append, List.nil_append]
  repeat (first | (refine M0 ?_; first | refine SL ?_ | refine SB fun _ _ => ?_) | (refine M1 ?_; refine SC ?_) | (refine M2 ?_; refine SE ?_))
  refine XC.cond _ rfl (fun h6 => ?_) (fun h6 => ?_)
  · have hil : i < fl.length := by have := of_decide_eq_true h6; omega
    have hfi := hflI fl[i] (List.getElem_mem hil)
    have hml : (mixF fr fl i).length = fl.length := mixF_len
    have hcv : (ints (mixF fr fl i) ++ sp)[0 + i * 1]? = some (.int .i64 fl[i]) := by
      rw [Nat.zero_add, Nat.mul_one, List.getElem?_append_left (by rw [ints_len]; omega)]
      unfold ints
      rw [List.getElem?_map, mixF_get hil]; rfl
    have hla := lateF_add (fr := fr) hil
    repeat (first | (refine M0 ?_; first | refine SL ?_ | refine SB fun _ _ => ?_ | refine Y4 (Ev.load_at tok 0 (g := g) (o := 0) (j := i * 1) rfl rfl rfl hcv) ?_) | (refine M1 ?_; refine SC ?_) | (refine M2 ?_; refine SE ?_))
    refine XC.cond _ rfl (fun h7 => ?_) (fun h7 => ?_)
    · have h0i : 0 ≤ fl[i] := by simpa using h7
      have hst : (ints (mixF fr fl i) ++ sp).set (0 + i * 1) (.int .i64 (fl[i] + fr)) = ints (mixF fr fl (i + 1)) ++ sp := by
        have := mixF_set (fr := fr) hil
        rw [if_pos h0i] at this
        rw [← this, Nat.zero_add, Nat.mul_one]
        unfold ints
        rw [List.set_append_left i _ (by rw [List.length_map]; omega), List.map_set]
      have hcv2 : (ints (mixF fr fl (i + 1)) ++ sp)[0 + i * 1]? = some (.int .i64 (fl[i] + fr)) := by
        rw [← hst, List.getElem?_set_self]
        rw [List.length_append, ints_len]; omega
      rw [h0i |> decide_eq_true] at hla
      have hlt2 : (lt || decide (200000 < fl[i] + fr)) = (late || lateF fr (fl.take (i + 1))) := by
        rw [hla, hlt, Bool.true_and, Bool.or_assoc]
      repeat (first | (refine M0 ?_; first | refine SL ?_ | refine SB fun _ _ => ?_ | refine Y4 (Ev.load_at tok 0 (g := g) (o := 0) (j := i * 1) rfl rfl rfl hcv) ?_) | (refine M1 ?_; refine SC ?_) | (refine M2 ?_; refine SE ?_))
      refine XL.store_at tok 0 (g := g) (o := 0) (j := i * 1) rfl rfl rfl rfl rfl (by rw [List.length_append, ints_len]; omega) rfl ?_
      rw [hst]
      cases lt with
      | true =>
        repeat (first | (refine M0 ?_; first | refine SL ?_ | refine SB fun _ _ => ?_) | (refine M1 ?_; refine SC ?_) | (refine M2 ?_; refine SE ?_))
        exact XE.round (s := (i, true)) (i + 1, true) ⟨hil, by simpa using hlt2⟩ (by simp only; omega) ZZSUB (fun _ h => h)
      | false =>
        repeat (first | (refine M0 ?_; first | refine SL ?_ | refine SB fun _ _ => ?_ | refine Y4 (Ev.load_at tok 0 (g := g) (o := 0) (j := i * 1) rfl rfl rfl hcv2) ?_) | (refine M1 ?_; refine SC ?_) | (refine M2 ?_; refine SE ?_))
        exact XE.round (s := (i, false)) (i + 1, decide (200000 < fl[i] + fr)) ⟨hil, by simpa using hlt2⟩ (by simp only; omega) ZZSUB (fun _ h => h)
    · have h0i : ¬ 0 ≤ fl[i] := by simpa using h7
      rw [decide_eq_false h0i, Bool.false_and, Bool.or_false] at hla
      rw [← mixF_same (fr := fr) hil h0i]
      repeat (first | (refine M0 ?_; first | refine SL ?_ | refine SB fun _ _ => ?_) | (refine M1 ?_; refine SC ?_) | (refine M2 ?_; refine SE ?_))
      exact XE.round (s := (i, lt)) (i + 1, lt) ⟨hil, by simp only; rw [hla]; exact hlt⟩ (by simp only; omega) ZZSUB (fun _ h => h)
  have hil : i = fl.length := by have := of_decide_eq_false h6; omega
  subst hil
  rw [List.take_length] at hlt
  rw [mixF_n]
  refine XC.rebase (List.sublist_cons_self _ _) (fun w8 S8 => ?_)
  have hF8 := hF7.sys S8 fun e he => .inl (List.mem_map.2 ⟨e, he, rfl⟩)
  have hro8 : w8.ownsRow w.heap.size 3 1 (.slice (some ⟨g, 0, none⟩) fl.length cr) (addF fr fl).length (ints (addF fr fl)) := by
    have hal : (addF fr fl).length = fl.length := by simp [addF]
    rw [hal]
    exact owns_of (S8.own _ (.head _)).2 hgr (by rw [ints_len, hal]) (by rw [ints_len] at hcap ⊢; rw [hal]; exact hcap) hcm
  have hB8 := hB7.trans S8.toBelow
  have hks8 : ∀ x, x ∈ [g5, g4] → x < w8.heap.size := fun x hx => S8.keyLt x (List.mem_cons_of_mem _ hx)
  have hFu := hF8.undropA (K := intK) (l := addF fr fl) (by simp only [ints_flat']; exact hro8) rfl hgk fun _ => rfl
  have hFz : Fam w8 w.heap.size [g5, g4] [⟨_, lisK, lv, es⟩] [hInts ⟨some ⟨g, 0, none⟩, fl.length, cr⟩ (addF fr fl)] := ((Fam.freeze (r := ⟨some ⟨g, 0, none⟩, fl.length, cr⟩) hFu).hold (x := hInts ⟨some ⟨g, 0, none⟩, fl.length, cr⟩ (addF fr fl)) (ListAt.ints (show ListAt intK w8 _ ⟨some ⟨g, 0, none⟩, fl.length, cr⟩ (addF fr fl) from (Fam.freeze (r := ⟨some ⟨g, 0, none⟩, fl.length, cr⟩) hFu).held (hList intK ⟨some ⟨g, 0, none⟩, fl.length, cr⟩ (addF fr fl)) (.head _))) fun _ h => h).forget fun x hx => by rw [List.mem_singleton.1 hx]; exact .head _
  have hl1 : es.length + 1 ≤ 10000000 := by
    have := congrArg List.length hes
    simp only [List.length_map, List.length_take] at this
    omega
  repeat (first | (refine M0 ?_; first | refine SL ?_ | refine SB fun _ _ => ?_) | (refine M1 ?_; refine SC ?_) | (refine M2 ?_; refine SE ?_))
  refine XL.buildSlice tok rfl rfl rfl rfl rfl rfl rfl rfl rfl (fun gn hgn => ?_)
  repeat (first | (refine M0 ?_; first | refine SL ?_ | refine SB fun _ _ => ?_) | (refine M1 ?_; refine SC ?_) | (refine M2 ?_; refine SE ?_))
  refine XL.push (K := lisK) (a := (⟨some ⟨g, 0, none⟩, fl.length, cr⟩, addF fr fl)) (wE := w) 0 lis_el (by decide) rfl rfl rfl hFz rfl hks8 hB8 (Nat.le_refl _) rfl hl1 (by decide) (fun x hx => hx) (fun W3 u3 hF3 hB3 hk3 => ?_)
  simp only [List.set_cons_zero] at hF3
  repeat (first | (refine M0 ?_; first | refine SL ?_ | refine SB fun _ _ => ?_) | (refine M1 ?_; refine SC ?_) | (refine M2 ?_; refine SE ?_))
  refine XE.roundW (s := (k, W, lv, es, late)) (fun w7 S7 => ⟨(k + 1, w7, u3, es ++ [(⟨some ⟨g, 0, none⟩, fl.length, cr⟩, addF fr fl)], lt), ⟨hkn, hB3.trans S7.toBelow, ?_, fun x hx => S7.keyLt x (List.mem_cons_of_mem _ hx), ?_, ?_, ?_⟩, by simp only; omega, ZZSUB, S7.rebase (List.sublist_cons_self _ _)⟩)
  · exact ((hF3.sys S7 fun e he => .inl (List.mem_append_left _ (List.mem_map.2 ⟨e, he, rfl⟩))).add (ks' := [g5, g4]) fun x hx => .inl (List.mem_append_right _ hx)).forget fun x hx => by cases hx
  · rw [htk1, List.map_append, List.map_append, hes]
    simp only [List.map_cons, List.map_nil, ← hfl0']
  · rw [htk1, List.any_append, ← hlate]
    simp only [List.any_cons, List.any_nil, Bool.or_false, ← hfl0', hlt]
  · intro h hh3
    rw [htk1] at hh3
    rcases List.mem_append.1 hh3 with h6 | h6
    · exact hrun h h6
    · rw [List.mem_singleton.1 h6]; exact hr0
end X
namespace X
open Go Go.RowKit Bs
section
variable {N : Nat} {B : Nat} {w0 : World} {ds : List Deferred} {F : Fr} {L : Lo} {pu : Prop} {dst : Option Tmp} {ty : TypeId} {p : String} {af : Array Edge} {gd : Option (Nat × Bool)}
theorem slo_eq (w : World) (a b c d e f : Int) : (Op.equalIn 10000 71 (.agg ⟨[.int .i64 a, .int .i64 b, .int .i64 c]⟩) (.agg ⟨[.int .i64 d, .int .i64 e, .int .i64 f]⟩)).run Tryz.prog w = .ok (decide (a = d) && (decide (b = e) && decide (c = f))) w := by
  have hu := Tryz.underlying71
  have hf : Tryz.prog.underlying 71 = some (.struct (Tryz.prog.fieldsOf 71)) := by simp [Program.fieldsOf, hu]
  rw [run_equalIn_struct w 9999 71 _ _ hf (by kernel_rfl)]
  simp only [Program.fieldsOf, hu]
  simp only [Op.eqFields]
  have h1 := part_int5 w [.int .i64 a, .int .i64 b, .int .i64 c] 0 (.int .i64 a) rfl
  have h2 := part_int5 w [.int .i64 d, .int .i64 e, .int .i64 f] 0 (.int .i64 d) rfl
  have h3 := part_int5 w [.int .i64 a, .int .i64 b, .int .i64 c] 1 (.int .i64 b) rfl
  have h4 := part_int5 w [.int .i64 d, .int .i64 e, .int .i64 f] 1 (.int .i64 e) rfl
  have h5 := part_int5 w [.int .i64 a, .int .i64 b, .int .i64 c] 2 (.int .i64 c) rfl
  have h6 := part_int5 w [.int .i64 d, .int .i64 e, .int .i64 f] 2 (.int .i64 f) rfl
  have k1 := run_equalIn_int (P := Tryz.prog) w 9998 3 .i64 .i64 a d Tryz.underlying3
  have k2 := run_equalIn_int (P := Tryz.prog) w 9998 3 .i64 .i64 b e Tryz.underlying3
  have k3 := run_equalIn_int (P := Tryz.prog) w 9998 3 .i64 .i64 c f Tryz.underlying3
  simp [Sem.run_bind, h1, h2, h3, h4, h5, h6, k1, k2, k3]
  by_cases e1 : a = d <;> by_cases e2 : b = e <;> by_cases e3 : c = f <;> simp [e1, e2, e3, h3, h4, h5, h6, k2, k3]
theorem Ev.sloEql {x y : Operand} {u : TypeId} {a b c d e f : Int} (hx : evo F x = some (.agg ⟨[.int .i64 a, .int .i64 b, .int .i64 c]⟩)) (hy : evo F y = some (.agg ⟨[.int .i64 d, .int .i64 e, .int .i64 f]⟩)) :
    Ev Tryz.prog N B w0 ds pu F L ⟨dst, .binOp .eql 71 x y u, ty, p, af, gd⟩ (.bool (decide (a = d) && (decide (b = e) && decide (c = f)))) := .of_run fun a' w hf hw => by
  have e1 := hf.eval hx
  have e2 := hf.eval hy
  have h1 := run_eqGuard_agg (P := Tryz.prog) w .eql 71 x y ⟨[.int .i64 a, .int .i64 b, .int .i64 c]⟩ ⟨[.int .i64 d, .int .i64 e, .int .i64 f]⟩ (by kernel_rfl)
  have h2 := run_eql_struct (P := Tryz.prog) w 71 ⟨[.int .i64 a, .int .i64 b, .int .i64 c]⟩ ⟨[.int .i64 d, .int .i64 e, .int .i64 f]⟩
  rw [slo_eq] at h2
  simp only [Result.andThen_ok] at h2
  simp [execOp, e1, e2, Sem.run_bind, h1, h2]
theorem msg_same (w : World) (a b c d e : Int) : (Op.equalIn 10000 126 (.agg ⟨[.int .i64 a, .int .i64 b, .int .i64 c, .int .i64 d, .int .i64 e]⟩) (.agg ⟨[.int .i64 a, .int .i64 b, .int .i64 c, .int .i64 d, .int .i64 e]⟩)).run Tryz.prog w = .ok true w := by
  have hu := Tryz.underlying126
  have hf : Tryz.prog.underlying 126 = some (.struct (Tryz.prog.fieldsOf 126)) := by simp [Program.fieldsOf, hu]
  rw [run_equalIn_struct w 9999 126 _ _ hf (by kernel_rfl)]
  simp only [Program.fieldsOf, hu]
  simp only [Op.eqFields]
  have h1 := part_int5 w [.int .i64 a, .int .i64 b, .int .i64 c, .int .i64 d, .int .i64 e] 0 (.int .i64 a) rfl
  have h2 := part_int5 w [.int .i64 a, .int .i64 b, .int .i64 c, .int .i64 d, .int .i64 e] 1 (.int .i64 b) rfl
  have h3 := part_int5 w [.int .i64 a, .int .i64 b, .int .i64 c, .int .i64 d, .int .i64 e] 2 (.int .i64 c) rfl
  have h4 := part_int5 w [.int .i64 a, .int .i64 b, .int .i64 c, .int .i64 d, .int .i64 e] 3 (.int .i64 d) rfl
  have h5 := part_int5 w [.int .i64 a, .int .i64 b, .int .i64 c, .int .i64 d, .int .i64 e] 4 (.int .i64 e) rfl
  have k := fun x => run_equalIn_int (P := Tryz.prog) w 9998 3 .i64 .i64 x x Tryz.underlying3
  simp [Sem.run_bind, h1, h2, h3, h4, h5, k]
theorem Ev.msgNeq {x y : Operand} {u : TypeId} {a b c d e : Int} (hx : evo F x = some (.agg ⟨[.int .i64 a, .int .i64 b, .int .i64 c, .int .i64 d, .int .i64 e]⟩)) (hy : evo F y = some (.agg ⟨[.int .i64 a, .int .i64 b, .int .i64 c, .int .i64 d, .int .i64 e]⟩)) :
    Ev Tryz.prog N B w0 ds pu F L ⟨dst, .binOp .neq 126 x y u, ty, p, af, gd⟩ (.bool false) := .of_run fun a' w hf hw => by
  have e1 := hf.eval hx
  have e2 := hf.eval hy
  have h1 := run_eqGuard_agg (P := Tryz.prog) w .neq 126 x y ⟨[.int .i64 a, .int .i64 b, .int .i64 c, .int .i64 d, .int .i64 e]⟩ ⟨[.int .i64 a, .int .i64 b, .int .i64 c, .int .i64 d, .int .i64 e]⟩ (by kernel_rfl)
  have h2 := run_neq_struct (P := Tryz.prog) w 126 ⟨[.int .i64 a, .int .i64 b, .int .i64 c, .int .i64 d, .int .i64 e]⟩ ⟨[.int .i64 a, .int .i64 b, .int .i64 c, .int .i64 d, .int .i64 e]⟩
  rw [msg_same] at h2
  simp only [Result.andThen_ok] at h2
  simp [execOp, e1, e2, Sem.run_bind, h1, h2]
end
def KeyC (w : World) (f : FuncId) (fst cap : List Value) (l : List Int) (key : Int → Int) : Prop := ∀ x, x ∈ l → ∀ W, Below w.heap.size w W → Calls Tryz.prog f (fst ++ [Value.int .i64 x] ++ cap).toArray W fun e w' => e = .returned (.int .i64 (key x)) ∧ Below W.heap.size W w'
def InOrd (l : List Int) (key : Int → Int) : Prop := ∀ i, i + 1 < l.length → key (at0 l i) ≤ key (at0 l (i + 1))
set_option maxHeartbeats 8000000 in
theorem srt1_any {g : Nat} {f : FuncId} {fst cap : List Value} {l : List Int} {key : Int → Int} {x y : Int} {w : World} (hk : callOk Tryz.prog f = true) (hc : KeyC w f fst cap l key) (hg : w.heap[g]? = some (cel 129 [.func (.func f) ⟨fst⟩ ⟨cap⟩])) (hx : x ∈ l) (hy : y ∈ l) :
    Calls Tryz.prog 65 #[.int .i64 x, .int .i64 y, .pointer (some ⟨g, 0, none⟩)] w fun e w' => e = .returned (.int .i64 (cmpI (key x) (key y))) ∧ Below w.heap.size w w' := by
  have hlt := (Array.getElem?_eq_some_iff.1 hg).1
  have hcl : w.cell? ⟨g, 0, none⟩ = some (.func (.func f) ⟨fst⟩ ⟨cap⟩) := by simp [World.cell?, hg]
  refine enter Tryz.func65 rfl Tryz.ntmps65 rfl ?_; simp only [frame, Nat.zero_add, Nat.reduceAdd]
  repeat (first | (refine M0 ?_; first | refine SL ?_ | refine SB fun _ _ => ?_ | refine Y4 (Ev.load_old tok rfl rfl hlt hcl) ?_) | (refine M1 ?_; first | refine SC ?_ | refine SD ?_) | (refine M2 ?_; refine SE ?_) | (refine M3 ?_; first | refine SG ?_ | refine SF ?_ | refine YF (Ev.load_old tok rfl rfl hlt hcl) ?_) | (refine M4 ?_; refine SR ?_) | (refine M5 ?_; first | exact M7 | refine YM ?_ | refine YN ?_ ?_))
  refine YF (Ev.callv (f := f) (fst := fst) (cap := cap) hk rfl rfl (fun w5 S5 => hc x hx w5 S5.toBelow)) ?_
  repeat (first | (refine M0 ?_; first | refine SL ?_ | refine SB fun _ _ => ?_ | refine Y4 (Ev.load_old tok rfl rfl hlt hcl) ?_) | (refine M1 ?_; first | refine SC ?_ | refine SD ?_) | (refine M2 ?_; refine SE ?_) | (refine M3 ?_; first | refine SG ?_ | refine SF ?_ | refine YF (Ev.load_old tok rfl rfl hlt hcl) ?_) | (refine M4 ?_; refine SR ?_) | (refine M5 ?_; first | exact M7 | refine YM ?_ | refine YN ?_ ?_))
  refine YF (Ev.callv (f := f) (fst := fst) (cap := cap) hk rfl rfl (fun w5 S5 => hc y hy w5 S5.toBelow)) ?_
  repeat (first | (refine M0 ?_; first | refine SL ?_ | refine SB fun _ _ => ?_ | refine Y4 (Ev.call (f := 52) (ck rfl) rfl (fun w _ => compare_any _ _ w)) ?_) | (refine M1 ?_; first | refine SC ?_ | refine SD ?_) | (refine M2 ?_; refine SE ?_) | (refine M3 ?_; first | refine SG ?_ | refine SF ?_ | refine YF (Ev.call (f := 52) (ck rfl) rfl (fun w _ => compare_any _ _ w)) ?_) | (refine M4 ?_; refine SR ?_) | (refine M5 ?_; first | exact M7 | refine YM ?_ | refine YN ?_ ?_))
  refine XE.retg tok Tryz.results65 rfl (by simp only [and_self, and_true]) (fun w' S => ?_)
  exact ⟨rfl, S.toBelow⟩
def CmpC (w : World) (g : Nat) (l : List Int) (key : Int → Int) : Prop := ∀ x y, x ∈ l → y ∈ l → ∀ W, Below w.heap.size w W → Calls Tryz.prog 65 ([] ++ [Value.int .i64 x, Value.int .i64 y] ++ [Value.pointer (some ⟨g, 0, none⟩)]).toArray W fun e w' => e = .returned (.int .i64 (cmpI (key x) (key y))) ∧ Below W.heap.size W w'
theorem CmpC.below {w w' : World} {g : Nat} {l : List Int} {key : Int → Int} (h : CmpC w g l key) (hb : Below w.heap.size w w') : CmpC w' g l key := fun x y hx hy W hW => h x y hx hy W (hb.trans (hW.mono hb.size))
theorem at0_mem {l : List Int} {i : Nat} (h : i < l.length) : at0 l i ∈ l := by
  unfold at0
  rw [List.getElem?_eq_getElem h]
  exact List.getElem_mem h
theorem cmp_ord {a b : Int} (h : a ≤ b) : decide (cmpI b a < 0) = false := by
  unfold cmpI
  split
  · omega
  · split <;> decide
set_option maxHeartbeats 16000000 in
theorem ins_any {q : SV} {l : List Int} {g : Nat} {key : Int → Int} {w : World} (hq : IntsAt w (Lt w.heap.size) q l) (hc : CmpC w g l key) (ho : InOrd l key) (hl : l.length ≤ 19) :
    Calls Tryz.prog 96 #[svV q, .int .i64 0, .int .i64 (l.length : Nat), .func (.func 65) #[] #[.pointer (some ⟨g, 0, none⟩)]] w fun e w' => e = .returned (.tuple #[]) ∧ Below w.heap.size w w' := by
  obtain ⟨A, n, c⟩ := q
  have hln := hq.len
  simp only at hln
  subst hln
  simp only [svV]
  refine enter Tryz.func96 rfl Tryz.ntmps96 rfl ?_; simp only [frame, Nat.zero_add, Nat.reduceAdd]
  repeat (first | (refine M0 ?_; first | refine SL ?_ | refine SB fun _ _ => ?_) | (refine M1 ?_; refine SC ?_) | (refine M2 ?_; refine SE ?_))
  refine XC.loopk [0, 1, 2, 3] rfl (fun i : Nat => [(8, .int .i64 ((i : Nat) + 1))]) (fun _ => []) (fun _ => w) (fun _ => True) (fun i => l.length - i) 0 trivial ZZSUB (fun _ h => h) ?_
  intro i _
  dsimp only [List.cons_append, List.nil_append]
  repeat (first | (refine M0 ?_; first | refine SL ?_ | refine SB fun _ _ => ?_) | (refine M1 ?_; refine SC ?_) | (refine M2 ?_; refine SE ?_))
  refine XC.cond _ rfl (fun h2 => ?_) (fun h2 => ?_)
  rotate_left
  · repeat (first | (refine M0 ?_; first | refine SL ?_ | refine SB fun _ _ => ?_) | (refine M1 ?_; refine SC ?_) | (refine M2 ?_; refine SE ?_))
    refine XE.end0 Tryz.results96 (fun w' S => ?_)
    exact ⟨rfl, S.toBelow⟩
  have hi1 : i + 1 < l.length := by have := of_decide_eq_true h2; omega
  obtain ⟨ad, rfl, hlt, hcells⟩ := hq.at_ (by omega)
  have hc1 := hcells (i + 1) hi1
  have hc0 := hcells i (by omega)
  have ho1 := cmp_ord (ho i hi1)
  repeat (first | (refine M0 ?_; first | refine SL ?_ | refine SB fun _ _ => ?_) | (refine M1 ?_; refine SC ?_) | (refine M2 ?_; refine SE ?_))
  refine XC.loopk [0, 1, 2, 3, 8] rfl (fun _ : Unit => [(9, .int .i64 ((i : Nat) + 1))]) (fun _ => []) (fun _ => w) (fun _ => True) (fun _ => 0) () trivial ZZSUB (fun _ h => h) ?_
  intro _ _
  dsimp only [List.cons_append, List.nil_append]
  repeat (first | (refine M0 ?_; first | refine SL ?_ | refine SB fun _ _ => ?_) | (refine M1 ?_; first | refine SC ?_ | refine SD ?_) | (refine M2 ?_; refine SE ?_) | (refine M3 ?_; first | refine SG ?_ | refine SF ?_) | (refine M4 ?_; refine SR ?_) | (refine M5 ?_; first | exact M7 | refine YM ?_ | refine YN ?_ ?_))
  rw [show decide ((0 : Int) < ((i : Nat) : Int) + 1) = true from decide_eq_true (by omega)]
  repeat (first | (refine M0 ?_; first | refine SL ?_ | refine SB fun _ _ => ?_ | refine Y4 (Ev.load_old tok rfl rfl (add_lt hlt) hc1) ?_) | (refine M1 ?_; first | refine SC ?_ | refine SD ?_) | (refine M2 ?_; refine SE ?_) | (refine M3 ?_; first | refine SG ?_ | refine SF ?_ | refine YF (Ev.load_old tok rfl rfl (add_lt hlt) hc1) ?_) | (refine M4 ?_; refine SR ?_) | (refine M5 ?_; first | exact M7 | refine YM ?_ | refine YN ?_ ?_))
  rw [show ((i : Nat) : Int) + 1 - 1 = ((i : Nat) : Int) from by omega]
  repeat (first | (refine M0 ?_; first | refine SL ?_ | refine SB fun _ _ => ?_ | refine Y4 (Ev.load_old tok rfl rfl (add_lt hlt) hc0) ?_) | (refine M1 ?_; first | refine SC ?_ | refine SD ?_) | (refine M2 ?_; refine SE ?_) | (refine M3 ?_; first | refine SG ?_ | refine SF ?_ | refine YF (Ev.load_old tok rfl rfl (add_lt hlt) hc0) ?_) | (refine M4 ?_; refine SR ?_) | (refine M5 ?_; first | exact M7 | refine YM ?_ | refine YN ?_ ?_))
  refine YF (Ev.callv (f := 65) (fst := []) (cap := [.pointer (some ⟨g, 0, none⟩)]) (ck rfl) rfl rfl (fun w5 S5 => hc _ _ (at0_mem hi1) (at0_mem (by omega)) w5 S5.toBelow)) ?_
  repeat (first | (refine M0 ?_; first | refine SL ?_ | refine SB fun _ _ => ?_) | (refine M1 ?_; first | refine SC ?_ | refine SD ?_) | (refine M2 ?_; refine SE ?_) | (refine M3 ?_; first | refine SG ?_ | refine SF ?_) | (refine M4 ?_; refine SR ?_) | (refine M5 ?_; first | exact M7 | refine YM ?_ | refine YN ?_ ?_))
  rw [ho1]
  repeat (first | (refine M0 ?_; first | refine SL ?_ | refine SB fun _ _ => ?_) | (refine M1 ?_; first | refine SC ?_ | refine SD ?_) | (refine M2 ?_; refine SE ?_) | (refine M3 ?_; first | refine SG ?_ | refine SF ?_) | (refine M4 ?_; refine SR ?_) | (refine M5 ?_; first | exact M7 | refine YM ?_ | refine YN ?_ ?_))
  exact XE.round (s := i) (i + 1) trivial (by omega) ZZSUB (fun _ h => h)
set_option maxHeartbeats 16000000 in
theorem stab_any {q : SV} {l : List Int} {g : Nat} {key : Int → Int} {w : World} (hq : IntsAt w (Lt w.heap.size) q l) (hc : CmpC w g l key) (ho : InOrd l key) (hl : l.length ≤ 19) :
    Calls Tryz.prog 87 #[svV q, .int .i64 (l.length : Nat), .func (.func 65) #[] #[.pointer (some ⟨g, 0, none⟩)]] w fun e w' => e = .returned (.tuple #[]) ∧ Below w.heap.size w w' := by
  obtain ⟨A, n, c⟩ := q
  have hins := fun {L : Lo} (w5 : World) (S5 : Sys w.heap.size w L w5) => ins_any (hq.arg S5) (hc.below S5.toBelow) ho hl
  simp only [svV] at hins ⊢
  refine enter Tryz.func87 rfl Tryz.ntmps87 rfl ?_; simp only [frame, Nat.zero_add, Nat.reduceAdd]
  repeat (first | (refine M0 ?_; first | refine SL ?_ | refine SB fun _ _ => ?_) | (refine M1 ?_; refine SC ?_) | (refine M2 ?_; refine SE ?_))
  refine XC.loopk [0, 1, 2, 6, 7, 8] rfl (fun _ : Unit => []) (fun _ => []) (fun _ => w) (fun _ => True) (fun _ => 0) () trivial ZZSUB (fun _ h => h) ?_
  intro _ _
  dsimp only [List.cons_append, List.nil_append]
  repeat (first | (refine M0 ?_; first | refine SL ?_ | refine SB fun _ _ => ?_) | (refine M1 ?_; refine SC ?_) | (refine M2 ?_; refine SE ?_))
  rw [show decide ((20 : Int) ≤ ((l.length : Nat) : Int)) = false from decide_eq_false (by omega)]
  repeat (first | (refine M0 ?_; first | refine SL ?_ | refine SB fun _ _ => ?_ | refine Y4 (Ev.call (f := 96) (ck rfl) rfl (fun w5 S5 => hins w5 S5)) ?_) | (refine M1 ?_; refine SC ?_) | (refine M2 ?_; refine SE ?_))
  refine XC.loopk [0, 1, 2, 6] rfl (fun _ : Unit => []) (fun _ => []) (fun _ => w) (fun _ => True) (fun _ => 0) () trivial ZZSUB (fun _ h => h) ?_
  intro _ _
  dsimp only [List.cons_append, List.nil_append]
  repeat (first | (refine M0 ?_; first | refine SL ?_ | refine SB fun _ _ => ?_) | (refine M1 ?_; refine SC ?_) | (refine M2 ?_; refine SE ?_))
  rw [show decide ((20 : Int) < ((l.length : Nat) : Int)) = false from decide_eq_false (by omega)]
  repeat (first | (refine M0 ?_; first | refine SL ?_ | refine SB fun _ _ => ?_) | (refine M1 ?_; refine SC ?_) | (refine M2 ?_; refine SE ?_))
  refine XE.end0 Tryz.results87 (fun w' S => ?_)
  exact ⟨rfl, S.toBelow⟩
theorem sst_any {q : SV} {l : List Int} {g : Nat} {key : Int → Int} {w : World} (hq : IntsAt w (Lt w.heap.size) q l) (hc : CmpC w g l key) (ho : InOrd l key) (hl : l.length ≤ 19) :
    Calls Tryz.prog 64 #[svV q, .func (.func 65) #[] #[.pointer (some ⟨g, 0, none⟩)]] w fun e w' => e = .returned (.tuple #[]) ∧ Below w.heap.size w w' := by
  obtain ⟨A, n, c⟩ := q
  have hln := hq.len
  simp only at hln
  subst hln
  have hins := fun {L : Lo} (w5 : World) (S5 : Sys w.heap.size w L w5) => stab_any (hq.arg S5) (hc.below S5.toBelow) ho hl
  simp only [svV] at hins ⊢
  refine enter Tryz.func64 rfl Tryz.ntmps64 rfl ?_; simp only [frame, Nat.zero_add, Nat.reduceAdd]
  repeat (first | (refine M0 ?_; first | refine SL ?_ | refine SB fun _ _ => ?_ | refine Y4 (Ev.call (f := 87) (ck rfl) rfl (fun w5 S5 => hins w5 S5)) ?_) | (refine M1 ?_; refine SC ?_) | (refine M2 ?_; refine SE ?_))
  refine XE.end0 Tryz.results64 (fun w' S => ?_)
  exact ⟨rfl, S.toBelow⟩
theorem srt_any {q : SV} {l : List Int} {f : FuncId} {fst cap : List Value} {key : Int → Int} {w : World} (hk : callOk Tryz.prog f = true) (hq : IntsAt w (Lt w.heap.size) q l) (hc : KeyC w f fst cap l key) (ho : InOrd l key) (hl : l.length ≤ 19) :
    Calls Tryz.prog 38 #[svV q, .func (.func f) ⟨fst⟩ ⟨cap⟩] w fun e w' => e = .returned (svV q) ∧ Below w.heap.size w w' := by
  obtain ⟨A, n, c⟩ := q
  simp only [svV]
  refine enter Tryz.func38 rfl Tryz.ntmps38 rfl ?_; simp only [frame, Nat.zero_add, Nat.reduceAdd]
  repeat (first | (refine M0 ?_; first | refine SL ?_ | refine SB fun _ _ => ?_ | refine Y4 (Ev.makeFunc rfl rfl) ?_) | (refine M1 ?_; refine SC ?_) | (refine M2 ?_; refine SE ?_))
  rename_i g3 hg3
  have hins := fun (w5 : World) (S5 : Sys w.heap.size w [(g3, cel 129 [.func (.func f) ⟨fst⟩ ⟨cap⟩])] w5) => sst_any (q := ⟨A, n, c⟩) (g := g3) (key := key) (hq.arg S5) (fun x y hx hy W hW => srt1_any hk (fun x hx W2 hW2 => hc x hx W2 (S5.toBelow.trans ((hW.mono (Nat.le_trans S5.base S5.size)).trans (hW2.mono (Nat.le_trans (Nat.le_trans S5.base S5.size) hW.size))))) ((hW.block g3 (S5.lt (.head _))).trans (S5.own _ (.head _)).2) hx hy) ho hl
  repeat (first | (refine M0 ?_; first | refine SL ?_ | refine SB fun _ _ => ?_ | refine Y4 (Ev.call (f := 64) (ck rfl) rfl (fun w5 S5 => hins w5 S5)) ?_) | (refine M1 ?_; refine SC ?_) | (refine M2 ?_; refine SE ?_))
  refine XE.retg tok Tryz.results38 rfl (by simp only [and_self, and_true]) (fun w' S => ?_)
  exact ⟨rfl, S.toBelow⟩
end X
namespace Bs
open X
def alT : ATk := ⟨2, [⟨⟨#[115, 105, 114, 101, 110]⟩, 0, 1⟩, ⟨⟨#[114, 97, 100, 105, 111]⟩, 2, 2⟩], [⟨⟨#[100, 105, 107, 101]⟩, 0, 3, 4, [0, 1]⟩, ⟨⟨#[109, 105, 108, 108]⟩, 0, 5, 6, [0]⟩, ⟨⟨#[104, 105, 108, 108]⟩, 1, 0, 10, [1]⟩], [[20, -1], [24, 40]]⟩
theorem alT_0 : alT.alE = 0 := by kernel_rfl
theorem alT_p : alT.planE 18 = 0 := by kernel_rfl
theorem alT_l : alT.planL 18 = [(0, 0, 18), (1, 0, 19), (2, 1, 18)] := by kernel_rfl
end Bs
namespace X
open Go Go.RowKit Bs
theorem alT_s0 : stageV alT 18 0 = 2 := by kernel_rfl
theorem alT_s1 : stageV alT 18 1 = 2 := by kernel_rfl
theorem alT_s2 : stageV alT 18 2 = 1 := by kernel_rfl
theorem alT_f0 : ATk.loL (alT.hits 0) = 23 := by kernel_rfl
theorem alT_f1 : ATk.loL (alT.hits 1) = 25 := by kernel_rfl
theorem alT_f2 : ATk.loL (alT.hits 2) = 40 := by kernel_rfl
structure Msg where
  n : Int
  t : Int
  s : Int
  c : Int
  k : Int
def msgC (m : Msg) : List Value := [.int .i64 m.n, .int .i64 m.t, .int .i64 m.s, .int .i64 m.c, .int .i64 m.k]
def msgK : Kind Msg := ⟨126, 5, msgC, fun _ => [], fun _ => rfl⟩
theorem msg_el : elemOk Tryz.prog 85 126 5 40 = true := by kernel_rfl
def alLg : List Msg := [⟨1, 0, 2, 0, 18⟩, ⟨2, 2, 1, 1, 18⟩]
theorem task11_end {w w' : World} {L : Lo} {g1 g2 g3 g4 g5 g6 g7 g8 : Nat} (S : Sys w.heap.size w L w') (m1 : (g1, cel 73 [.string ⟨#[115, 105, 114, 101, 110]⟩, .int .i64 0, .int .i64 1, .string ⟨#[114, 97, 100, 105, 111]⟩, .int .i64 2, .int .i64 2]) ∈ L)
    (m2 : (g2, cel 3 [.int .i64 0, .int .i64 1]) ∈ L) (m3 : (g3, cel 3 [.int .i64 0]) ∈ L) (m4 : (g4, cel 3 [.int .i64 1]) ∈ L)
    (m5 : (g5, cel 67 [.string ⟨#[100, 105, 107, 101]⟩, .int .i64 0, .int .i64 3, .int .i64 4, .slice (some ⟨g2, 0, none⟩) 2 2, .string ⟨#[109, 105, 108, 108]⟩, .int .i64 0, .int .i64 5, .int .i64 6, .slice (some ⟨g3, 0, none⟩) 1 1, .string ⟨#[104, 105, 108, 108]⟩, .int .i64 1, .int .i64 0, .int .i64 10, .slice (some ⟨g4, 0, none⟩) 1 1]) ∈ L)
    (m6 : (g6, cel 3 [.int .i64 20, .int .i64 (-1)]) ∈ L) (m7 : (g7, cel 3 [.int .i64 24, .int .i64 40]) ∈ L) (m8 : (g8, cel 26 [.slice (some ⟨g6, 0, none⟩) 2 2, .slice (some ⟨g7, 0, none⟩) 2 2]) ∈ L) :
    ∃ v : ATV, (Value.agg ⟨[.int .i64 2, .slice (some ⟨g1, 0, none⟩) 2 2, .slice (some ⟨g5, 0, none⟩) 3 3, .slice (some ⟨g8, 0, none⟩) 2 2]⟩) = atkV v alT ∧ AtAt w' w'.heap.size v alT ∧ Below w.heap.size w w' := by
  have hb : ∀ {g : Nat} {t : TypeId} {cs : List Value} {n size : Nat}, (g, cel t cs) ∈ L → cs.length = n * size → ReadsP w' (Lt w'.heap.size) size (some ⟨g, 0, none⟩) n cs := fun hm hl => (ReadsP.block (S.own _ hm).2 (S.own _ hm).1 hl).mono fun j hj => hj.2
  have k2 : IntsAt w' (Lt w'.heap.size) ⟨some ⟨g2, 0, none⟩, 2, 2⟩ [0, 1] := ⟨hb m2 rfl, by simp⟩
  have k3 : IntsAt w' (Lt w'.heap.size) ⟨some ⟨g3, 0, none⟩, 1, 1⟩ [0] := ⟨hb m3 rfl, by simp⟩
  have k4 : IntsAt w' (Lt w'.heap.size) ⟨some ⟨g4, 0, none⟩, 1, 1⟩ [1] := ⟨hb m4 rfl, by simp⟩
  have k6 : IntsAt w' (Lt w'.heap.size) ⟨some ⟨g6, 0, none⟩, 2, 2⟩ [20, -1] := ⟨hb m6 rfl, by simp⟩
  have k7 : IntsAt w' (Lt w'.heap.size) ⟨some ⟨g7, 0, none⟩, 2, 2⟩ [24, 40] := ⟨hb m7 rfl, by simp⟩
  refine ⟨⟨⟨some ⟨g1, 0, none⟩, 2, 2⟩, ⟨some ⟨g5, 0, none⟩, 3, 3⟩, ⟨some ⟨g8, 0, none⟩, 2, 2⟩, [(⟨some ⟨g2, 0, none⟩, 2, 2⟩, ⟨⟨#[100, 105, 107, 101]⟩, 0, 3, 4, [0, 1]⟩), (⟨some ⟨g3, 0, none⟩, 1, 1⟩, ⟨⟨#[109, 105, 108, 108]⟩, 0, 5, 6, [0]⟩), (⟨some ⟨g4, 0, none⟩, 1, 1⟩, ⟨⟨#[104, 105, 108, 108]⟩, 1, 0, 10, [1]⟩)], [(⟨some ⟨g6, 0, none⟩, 2, 2⟩, [20, -1]), (⟨some ⟨g7, 0, none⟩, 2, 2⟩, [24, 40])]⟩, rfl, ⟨⟨hb m1 rfl, by simp, fun a ha x hx => by cases hx⟩, ⟨hb m5 rfl, by simp, fun a ha x hx => ?_⟩, rfl, ⟨hb m8 rfl, by simp, fun a ha x hx => ?_⟩, rfl, ?_, ?_⟩, S.toBelow⟩
  · simp only [List.mem_cons, List.not_mem_nil, or_false] at ha
    rcases ha with rfl | rfl | rfl
    · rw [List.mem_singleton.1 hx]; exact k2
    · rw [List.mem_singleton.1 hx]; exact k3
    · rw [List.mem_singleton.1 hx]; exact k4
  · simp only [List.mem_cons, List.not_mem_nil, or_false] at ha
    rcases ha with rfl | rfl
    · rw [List.mem_singleton.1 hx]; exact k6
    · rw [List.mem_singleton.1 hx]; exact k7
  · intro x hx
    simp only [alT, List.mem_cons, List.not_mem_nil, or_false] at hx
    rcases hx with rfl | rfl <;> decide
  · intro x hx
    simp only [alT, List.mem_cons, List.not_mem_nil, or_false] at hx
    rcases hx with rfl | rfl | rfl <;> decide
set_option maxHeartbeats 8000000 in
theorem task11_any (w : World) : Calls Tryz.prog 15 #[] w fun e w' => ∃ vv, e = .returned vv ∧ ∃ v : ATV, vv = atkV v alT ∧ AtAt w' w'.heap.size v alT ∧ Below w.heap.size w w' := by
  refine enter Tryz.func15 rfl Tryz.ntmps15 rfl ?_; simp only [frame, Nat.zero_add, Nat.reduceAdd]
  repeat (first | (refine M0 ?_; first | refine SL ?_ | refine SB fun _ _ => ?_ | refine XL.buildSlice tok rfl rfl rfl rfl rfl rfl rfl rfl rfl (fun _ _ => ?_)) | (refine M1 ?_; refine SC ?_) | (refine M2 ?_; refine SE ?_))
  refine XE.retg tok Tryz.results15 rfl (by simp only [and_self, and_true]) (fun w' S => ?_)
  refine ⟨_, rfl, ?_⟩
  apply task11_end (S := S)
  all_goals (repeat (first | exact List.mem_cons_self | apply List.mem_cons_of_mem))
theorem log11_any (w : World) : Calls Tryz.prog 19 #[] w fun e w' => ∃ vv, e = .returned vv ∧ ∃ r : SV, vv = svV r ∧ ListAt msgK w' (Lt w'.heap.size) r alLg ∧ Below w.heap.size w w' := by
  refine enter Tryz.func19 rfl Tryz.ntmps19 rfl ?_; simp only [frame, Nat.zero_add, Nat.reduceAdd]
  repeat (first | (refine M0 ?_; first | refine SL ?_ | refine SB fun _ _ => ?_ | refine XL.buildSlice tok rfl rfl rfl rfl rfl rfl rfl rfl rfl (fun _ _ => ?_)) | (refine M1 ?_; refine SC ?_) | (refine M2 ?_; refine SE ?_))
  rename_i g hg
  refine XE.retg tok Tryz.results19 rfl (by simp only [and_self, and_true]) (fun w' S => ?_)
  exact ⟨_, rfl, ⟨some ⟨g, 0, none⟩, 2, 2⟩, rfl, ⟨(ReadsP.block (S.own _ (.head _)).2 (S.own _ (.head _)).1 rfl).mono fun j hj => hj.2, by simp, fun a ha x hx => by cases hx⟩, S.toBelow⟩
set_option maxHeartbeats 8000000 in
theorem msgs_any {q r : SV} {l : List Msg} {w : World} (hq : ListAt msgK w (Lt w.heap.size) q l) (hr : ListAt msgK w (Lt w.heap.size) r l) : Calls Tryz.prog 18 #[svV q, svV r] w fun e w' => e = .returned (.bool true) ∧ Below w.heap.size w w' := by
  obtain ⟨A, n, c⟩ := q
  obtain ⟨A2, n2, c2⟩ := r
  have hn := hq.len (by decide)
  have hn2 := hr.len (by decide)
  have hmx := hq.max
  simp only at hn hn2 hmx
  subst hn hn2
  simp only [svV]
  refine enter Tryz.func18 rfl Tryz.ntmps18 rfl ?_; simp only [frame, Nat.zero_add, Nat.reduceAdd]
  repeat (first | (refine M0 ?_; first | refine SL ?_ | refine SB fun _ _ => ?_) | (refine M1 ?_; refine SC ?_) | (refine M2 ?_; refine SE ?_))
  rw [show decide (((l.length : Nat) : Int) ≠ ((l.length : Nat) : Int)) = false from decide_eq_false (by simp)]
  repeat (first | (refine M0 ?_; first | refine SL ?_ | refine SB fun _ _ => ?_) | (refine M1 ?_; refine SC ?_) | (refine M2 ?_; refine SE ?_))
  refine XC.loopk [0, 1] rfl (fun k : Nat => [(5, .int .i64 (k : Nat))]) (fun _ => []) (fun _ => w) (fun k => k ≤ l.length) (fun k => l.length - k) 0 (Nat.zero_le _) ZZSUB (fun _ h => h) ?_
  intro k hk
  dsimp only [List.cons_append, List.nil_append]
  repeat (first | (refine M0 ?_; first | refine SL ?_ | refine SB fun _ _ => ?_) | (refine M1 ?_; refine SC ?_) | (refine M2 ?_; refine SE ?_))
  refine XC.cond _ rfl (fun h2 => ?_) (fun h2 => ?_)
  rotate_left
  · repeat (first | (refine M0 ?_; first | refine SL ?_ | refine SB fun _ _ => ?_) | (refine M1 ?_; refine SC ?_) | (refine M2 ?_; refine SE ?_))
    refine XE.retg tok Tryz.results18 rfl (by simp only [and_self, and_true]) (fun w' S => ?_)
    exact ⟨rfl, S.toBelow⟩
  have hkl : k < l.length := by have := of_decide_eq_true h2; omega
  have hlk : l[k]? = some l[k] := List.getElem?_eq_getElem hkl
  obtain ⟨ad, rfl, hlt⟩ := hq.addr (by decide) (by omega)
  obtain ⟨ad2, rfl, hlt2⟩ := hr.addr (by decide) (by omega)
  have c1 := hq.elem hlk
  have c2' := hr.elem hlk
  obtain ⟨m, hm⟩ : ∃ m, m = l[k] := ⟨_, rfl⟩
  rw [← hm] at c1 c2'
  obtain ⟨m1, m2, m3, m4, m5⟩ := m
  simp only [msgK, msgC] at c1 c2'
  repeat (first | (refine M0 ?_; first | refine SL ?_ | refine SB fun _ _ => ?_ | refine Y4 (Ev.load_old_agg tok [.int .i64 m1, .int .i64 m2, .int .i64 m3, .int .i64 m4, .int .i64 m5] rfl rfl rfl (add_lt hlt) c1) ?_ | refine Y4 (Ev.load_old_agg tok [.int .i64 m1, .int .i64 m2, .int .i64 m3, .int .i64 m4, .int .i64 m5] rfl rfl rfl (add_lt hlt2) c2') ?_ | refine Y4 (Ev.msgNeq rfl rfl) ?_) | (refine M1 ?_; first | refine SC ?_ | refine SD ?_) | (refine M2 ?_; refine SE ?_) | (refine M3 ?_; first | refine SG ?_ | refine SF ?_ | refine YF (Ev.load_old_agg tok [.int .i64 m1, .int .i64 m2, .int .i64 m3, .int .i64 m4, .int .i64 m5] rfl rfl rfl (add_lt hlt) c1) ?_ | refine YF (Ev.load_old_agg tok [.int .i64 m1, .int .i64 m2, .int .i64 m3, .int .i64 m4, .int .i64 m5] rfl rfl rfl (add_lt hlt2) c2') ?_ | refine YF (Ev.msgNeq rfl rfl) ?_) | (refine M4 ?_; refine SR ?_) | (refine M5 ?_; first | exact M7 | refine YM ?_ | refine YN ?_ ?_))
  exact XE.round (s := k) (k + 1) hkl (by omega) ZZSUB (fun _ h => h)
theorem wrong0_any {g : Nat} (w : World) : Calls Tryz.prog 36 #[.pointer (some ⟨g, 0, none⟩), .slice none 0 0] w fun e w' => e = .returned (.int .i64 0) ∧ Below w.heap.size w w' := by
  refine enter Tryz.func36 rfl Tryz.ntmps36 rfl ?_; simp only [frame, Nat.zero_add, Nat.reduceAdd]
  repeat (first | (refine M0 ?_; first | refine SL ?_ | refine SB fun _ _ => ?_) | (refine M1 ?_; refine SC ?_) | (refine M2 ?_; refine SE ?_))
  refine XC.loopk [0, 5, 11, 12] rfl (fun _ : Unit => [(13, .int .i64 0)]) (fun _ => []) (fun _ => w) (fun _ => True) (fun _ => 0) () trivial ZZSUB (fun _ h => h) ?_
  intro _ _
  dsimp only [List.cons_append, List.nil_append]
  repeat (first | (refine M0 ?_; first | refine SL ?_ | refine SB fun _ _ => ?_) | (refine M1 ?_; refine SC ?_) | (refine M2 ?_; refine SE ?_))
  refine XE.retg tok Tryz.results36 rfl (by simp only [and_self, and_true]) (fun w' S => ?_)
  exact ⟨rfl, S.toBelow⟩
set_option maxHeartbeats 8000000 in
theorem of3_any {v : ATV} {w : World} (hL : Laid w) (ht : AtAt w w.heap.size v alT) (hl : ∀ x, x ∈ alT.twn → x.chs.length ≤ 5000000) :
    Calls Tryz.prog 44 #[atkV v alT, .int .i64 3] w fun e w' => e = .returned (.tuple ⟨[.pointer none, .int .i64 4]⟩) ∧ Below w.heap.size w w' := by
  have hbeg := fun (w' : World) (hB : Below w.heap.size w w') => begin_made (v := v) (t := alT) (w := w') (hL.below hB) (ht.sys (Sys.ofBelow hB)) hl
  have hnw : v.w.n = 3 := ht.nw
  simp only [atkV, atkC] at hbeg ⊢
  refine enter Tryz.func44 rfl Tryz.ntmps44 rfl ?_; simp only [frame, Nat.zero_add, Nat.reduceAdd]
  repeat (first | (refine M0 ?_; first | refine SL ?_ | refine SB fun _ _ => ?_) | (refine M1 ?_; refine SC ?_) | (refine M2 ?_; refine SE ?_))
  rename_i g2 hg2
  refine XL.callF (BegV v alT) (ck rfl) rfl rfl (Fam.start (ks := []) (Nat.le_refl w.heap.size)) (fun _ h => by cases h) (Below.refl w.heap.size w) (fun w1 S1 _ _ => hbeg w1 S1.toBelow) (fun w2 u new hR hF2 hB2 hk2 => ?_)
  rcases hR with ⟨hne, rfl, rfl⟩ | ⟨h0, gb, q, r, rfl, rfl⟩
  · exact absurd alT_0 hne
  repeat (first | (refine M0 ?_; first | refine SL ?_ | refine SB fun _ _ => ?_) | (refine M1 ?_; refine SC ?_) | (refine M2 ?_; refine SE ?_))
  rw [hnw]
  repeat (first | (refine M0 ?_; first | refine SL ?_ | refine SB fun _ _ => ?_ | refine Y4 (Ev.call (f := 23) (ck rfl) rfl (fun w S => aout_any _ _ _ w)) ?_) | (refine M1 ?_; refine SC ?_) | (refine M2 ?_; refine SE ?_))
  rw [show outB 3 0 (((3 : Nat) : Int) - 1) = true from by decide]
  repeat (first | (refine M0 ?_; first | refine SL ?_ | refine SB fun _ _ => ?_) | (refine M1 ?_; refine SC ?_) | (refine M2 ?_; refine SE ?_))
  refine XE.retg tok Tryz.results44 rfl (by simp only [and_self, and_true]) (fun w' S => ?_)
  exact ⟨rfl, hB2.trans S.toBelow⟩
set_option maxHeartbeats 8000000 in
theorem stage3_any {v : ATV} {w : World} (hL : Laid w) (ht : AtAt w w.heap.size v alT) (hl : ∀ x, x ∈ alT.twn → x.chs.length ≤ 5000000) :
    Calls Tryz.prog 17 #[atkV v alT, .int .i64 3, .int .i64 0] w fun e w' => e = .returned (.tuple ⟨[.int .i64 0, .int .i64 4]⟩) ∧ Below w.heap.size w w' := by
  have hof := fun {L : Lo} (w5 : World) (S5 : Sys w.heap.size w L w5) => of3_any (v := v) (hL.below S5.toBelow) (ht.sys S5) hl
  simp only [atkV, atkC] at hof ⊢
  refine enter Tryz.func17 rfl Tryz.ntmps17 rfl ?_; simp only [frame, Nat.zero_add, Nat.reduceAdd]
  repeat (first | (refine M0 ?_; first | refine SL ?_ | refine SB fun _ _ => ?_ | refine Y4 (Ev.call (f := 44) (ck rfl) rfl (fun w5 S5 => hof w5 S5)) ?_) | (refine M1 ?_; refine SC ?_) | (refine M2 ?_; refine SE ?_))
  refine XE.retg tok Tryz.results17 rfl (by simp only [and_self, and_true]) (fun w' S => ?_)
  exact ⟨rfl, S.toBelow⟩
theorem nx1_any {gc gr : Nat} {a b : Int} {c : Nat} {x : Int} {w : World} (hc : w.heap[gc]? = some (cel 26 [.slice (some ⟨gr, 0, none⟩) 2 2])) (hr : w.heap[gr]? = some (cel 3 [.int .i64 a, .int .i64 b])) (hx : ([a, b] : List Int)[c]? = some x) :
    Calls Tryz.prog 42 #[.int .i64 (c : Nat), .pointer (some ⟨gc, 0, none⟩)] w fun e w' => e = .returned (.bool (decide (x ≤ 0))) ∧ Below w.heap.size w w' := by
  have hlc := (Array.getElem?_eq_some_iff.1 hc).1
  have hlr := (Array.getElem?_eq_some_iff.1 hr).1
  have hcc : w.cell? ⟨gc, 0, none⟩ = some (.slice (some ⟨gr, 0, none⟩) 2 2) := by simp [World.cell?, hc]
  have hc2 : c < 2 := (List.getElem?_eq_some_iff.1 hx).1
  have hcr : w.cell? ((⟨gr, 0, none⟩ : Addr).add (c * 1)) = some (.int .i64 x) := by
    rw [add_off, Nat.zero_add, Nat.mul_one]
    have : ([Value.int .i64 a, .int .i64 b] : List Value)[c]? = some (.int .i64 x) := by
      have h2 := congrArg (Option.map (Value.int .i64)) hx
      rw [← List.getElem?_map] at h2
      exact h2
    simp [World.cell?, hr, this]
  have hlr2 : ((⟨gr, 0, none⟩ : Addr).add (c * 1)).block < w.heap.size := by rw [add_block]; exact hlr
  refine enter Tryz.func42 rfl Tryz.ntmps42 rfl ?_; simp only [frame, Nat.zero_add, Nat.reduceAdd]
  repeat (first | (refine M0 ?_; first | refine SL ?_ | refine SB fun _ _ => ?_ | refine Y4 (Ev.load_old tok rfl rfl hlc hcc) ?_ | refine Y4 (Ev.load_old tok rfl rfl hlr2 hcr) ?_) | (refine M1 ?_; refine SC ?_) | (refine M2 ?_; refine SE ?_))
  refine XE.retg tok Tryz.results42 rfl (by simp only [and_self, and_true]) (fun w' S => ?_)
  exact ⟨rfl, S.toBelow⟩
theorem nx2_any {g : Nat} {v : ATV} {t : ATk} {c : Nat} {w : World} (hg : w.heap[g]? = some (cel 56 (atkC v t))) (ht : AtAt w w.heap.size v t) (hc : c < t.cha.length) (h4 : t.cha.length ≤ 4) :
    Calls Tryz.prog 43 #[.int .i64 (c : Nat), .pointer (some ⟨g, 0, none⟩)] w fun e w' => e = .returned (.int .i64 (t.ch (c : Nat)).delay) ∧ Below w.heap.size w w' := by
  have hlt := (Array.getElem?_eq_some_iff.1 hg).1
  have hnc := ht.nc
  have hcc : w.cell? ⟨g, 1, none⟩ = some (.slice v.c.A v.c.n v.c.c) := by simp [World.cell?, hg, atkC]
  obtain ⟨adc, e2, hlt2, hc4⟩ := ht.chaAt hc
  have hc5 := hc4 1 (.int .i64 (t.ch (c : Nat)).delay) rfl
  rw [e2, hnc] at hcc
  have hcc' : w.cell? ((⟨g, 0, none⟩ : Addr).add 1) = some (.slice (some adc) t.cha.length v.c.c) := by rw [add_off]; exact hcc
  refine enter Tryz.func43 rfl Tryz.ntmps43 rfl ?_; simp only [frame, Nat.zero_add, Nat.reduceAdd]
  repeat (first | (refine M0 ?_; first | refine SL ?_ | refine SB fun _ _ => ?_ | refine Y4 (Ev.load_old tok rfl rfl (add_lt hlt) hcc') ?_ | refine Y4 (Ev.load_old tok rfl rfl (add_lt2 hlt2) hc5) ?_) | (refine M1 ?_; refine SC ?_) | (refine M2 ?_; refine SE ?_))
  refine XE.retg tok Tryz.results43 rfl (by simp only [and_self, and_true]) (fun w' S => ?_)
  exact ⟨rfl, S.toBelow⟩
theorem del0_any {f : FuncId} {cap : List Value} {P : Int → Bool} {q : SV} {l : List Int} {w : World} (hk : callOk Tryz.prog f = true) (hq : IntsAt w (Lt w.heap.size) q l) (hl : l.length ≤ 1000)
    (hc : ∀ m, m ∈ l → ∀ w', Below w.heap.size w w' → Calls Tryz.prog f ([] ++ [Value.int .i64 m] ++ cap).toArray w' fun e w'' => e = .returned (.bool (P m)) ∧ Below w'.heap.size w' w'') (hP : ∀ m, m ∈ l → P m = false) :
    Calls Tryz.prog 40 #[svV q, .func (.func f) #[] cap.toArray] w fun e w' => e = .returned (svV q) ∧ Below w.heap.size w w' := by
  obtain ⟨A, n, c⟩ := q
  have hix : idxL l P = -1 := by
    unfold idxL
    rw [List.findIdx?_eq_none_iff.2 fun x hx => by simpa using hP x hx]
  have hi := fun {L : Lo} (w5 : World) (S5 : Sys w.heap.size w L w5) => idxA (f := f) (cap := cap) (P := P) (r := ⟨A, n, c⟩) (ms := l) hk (hq.arg S5) (by omega) (fun m hm w' hb => hc m hm w' (S5.toBelow.trans (hb.mono S5.size)))
  rw [hix] at hi
  simp only [svV] at hi ⊢
  refine enter Tryz.func40 rfl Tryz.ntmps40 rfl ?_; simp only [frame, Nat.zero_add, Nat.reduceAdd]
  repeat (first | (refine M0 ?_; first | refine SL ?_ | refine SB fun _ _ => ?_ | refine Y4 (Ev.call (f := 66) (ck rfl) rfl (fun w5 S5 => hi w5 S5)) ?_) | (refine M1 ?_; refine SC ?_) | (refine M2 ?_; refine SE ?_))
  refine XE.retg tok Tryz.results40 rfl (by simp only [and_self, and_true]) (fun w' S => ?_)
  exact ⟨rfl, S.toBelow⟩
theorem del1_any {f : FuncId} {cap : List Value} {P : Int → Bool} {g c : Nat} {x : Int} {sp : List Value} {w : World} (hk : callOk Tryz.prog f = true) (hg : w.heap[g]? = some (cel 3 (.int .i64 x :: sp))) (hc : 1 ≤ c)
    (hf : ∀ w', Below w.heap.size w w' → Calls Tryz.prog f ([] ++ [Value.int .i64 x] ++ cap).toArray w' fun e w'' => e = .returned (.bool (P x)) ∧ Below w'.heap.size w' w'') (hP : P x = true) :
    Calls Tryz.prog 40 #[.slice (some ⟨g, 0, none⟩) 1 c, .func (.func f) #[] cap.toArray] w fun e w' => ∃ vv, e = .returned vv ∧ ∃ (A : Option Addr) (c' : Nat) (cs : List Value), vv = .slice A 0 c' ∧ Sys g w [(g, cel 3 cs)] w' := by
  have hlt := (Array.getElem?_eq_some_iff.1 hg).1
  have hq : ∀ w5, Below w.heap.size w w5 → IntsAt w5 (Lt w5.heap.size) ⟨some ⟨g, 0, none⟩, 1, c⟩ [x] := fun w5 hb => ⟨⟨rfl, fun _ => ⟨⟨g, 0, none⟩, rfl, Nat.lt_of_lt_of_le hlt hb.size, fun j u hj => by
    rw [add_off, Nat.zero_add]
    have h0 : j = 0 := by have := (List.getElem?_eq_some_iff.1 hj).1; simp [ints] at this; omega
    subst h0
    simp only [ints, List.map_cons, List.map_nil, List.getElem?_cons_zero] at hj
    cases hj
    simp [World.cell?, hb.block g hlt, hg]⟩⟩, by simp⟩
  have hix : idxL [x] P = 0 := by unfold idxL; simp [List.findIdx?_cons, hP]
  have hi := fun (w5 : World) (hb : Below w.heap.size w w5) => idxA (f := f) (cap := cap) (P := P) (r := ⟨some ⟨g, 0, none⟩, 1, c⟩) (ms := [x]) hk (hq w5 hb) (by simp) (fun m hm w' hb2 => by rw [List.mem_singleton.1 hm]; exact hf w' (hb.trans (hb2.mono hb.size)))
  rw [hix] at hi
  simp only [svV] at hi
  refine enterL Tryz.func40 rfl Tryz.ntmps40 rfl (Sys.start1 (Nat.le_refl g) hg) ?_; simp only [frame, Nat.zero_add, Nat.reduceAdd]
  have hall : ∀ w5, Sys g w [(g, cel 3 (.int .i64 x :: sp))] w5 → Below w.heap.size w w5 := fun w5 S5 => ⟨S5.os, S5.tape, S5.output, S5.size, fun k hk2 => by
    by_cases e : k = g
    · rw [e, hg]; exact (S5.own _ (.head _)).2
    · exact S5.old k hk2 fun e' he e1 => e (by rw [List.mem_singleton.1 he] at e1; exact e1.symm)⟩
  repeat (first | (refine M0 ?_; first | refine SL ?_ | refine SB fun _ _ => ?_ | refine Y4 (Ev.call (f := 66) (ck rfl) rfl (fun w5 S5 => hi w5 (hall w5 S5))) ?_) | (refine M1 ?_; refine SC ?_) | (refine M2 ?_; refine SE ?_))
  refine XC.loopk [0, 1] rfl (fun _ : Unit => [(5, .int .i64 0), (6, .int .i64 1)]) (fun _ => [(g, cel 3 (.int .i64 x :: sp))]) (fun _ => w) (fun _ => True) (fun _ => 0) () trivial ZZSUB (fun _ h => h) ?_
  intro _ _
  dsimp only [List.cons_append, List.nil_append]
  repeat (first | (refine M0 ?_; first | refine SL ?_ | refine SB fun _ _ => ?_ | refine Y4 (Ev.slice_lo tok 0 rfl rfl rfl rfl (by omega) (by omega)) ?_) | (refine M1 ?_; refine SC ?_) | (refine M2 ?_; refine SE ?_))
  refine XL.clearO tok 0 (g := g) (o := 0 + 0 * 1) rfl Tryz.underlying26 rfl rfl rfl rfl (by simp) (fun _ => rfl) (fun cs2 hl2 => ?_)
  repeat (first | (refine M0 ?_; first | refine SL ?_ | refine SB fun _ _ => ?_ | refine Y4 (Ev.slice_hi tok 0 rfl rfl rfl rfl (by omega)) ?_) | (refine M1 ?_; refine SC ?_) | (refine M2 ?_; refine SE ?_))
  refine XE.retg tok Tryz.results40 rfl (by simp only [and_self, and_true]) (fun w' S => ?_)
  exact ⟨_, rfl, _, c, cs2, rfl, S⟩
end X
namespace X
open Go Go.RowKit Bs
theorem cellz {k : Nat} (h : k < 3) : (ints (List.replicate 3 0))[0 + k * 1]? = some (.int .i64 0) := by
  match k, h with
  | 0, _ => rfl
  | 1, _ => rfl
  | 2, _ => rfl
theorem alT_sp {k : Nat} (h : k < 3) : 0 < stageV alT 18 k := by
  match k, h with
  | 0, _ => rw [alT_s0]; decide
  | 1, _ => rw [alT_s1]; decide
  | 2, _ => rw [alT_s2]; decide
def upL (k : Nat) : List Int := (List.range k).map fun i => ((i : Nat) : Int)
theorem upL_s (k : Nat) : upL (k + 1) = upL k ++ [((k : Nat) : Int)] := by unfold upL; rw [List.range_succ, List.map_append]; rfl
theorem alT_le01 : ATk.loL (alT.hits (0 : Int).toNat) ≤ ATk.loL (alT.hits (1 : Int).toNat) := by
  rw [show ((0 : Int).toNat) = 0 from rfl, show ((1 : Int).toNat) = 1 from rfl, alT_f0, alT_f1]; decide
theorem alT_le12 : ATk.loL (alT.hits (1 : Int).toNat) ≤ ATk.loL (alT.hits (2 : Int).toNat) := by
  rw [show ((2 : Int).toNat) = 2 from rfl, show ((1 : Int).toNat) = 1 from rfl, alT_f2, alT_f1]; decide
def rmL : Nat → List Int
  | 0 => [1, 2]
  | 1 => [0, 2]
  | 2 => [0, 2]
  | _ => [0, 1]
def mN : Nat → Nat
  | 0 => 0
  | 1 => 1
  | 2 => 1
  | _ => 2
def ClnV (l : List Int) (x : Value) (new : List Held) : Prop := ∃ r : SV, x = svV r ∧ new = [hInts r l]
theorem clone_made {q : SV} {l : List Int} {w : World} (hq : IntsAt w (Lt w.heap.size) q l) (hl : l.length ≤ 1000) : Calls Tryz.prog 41 #[svV q] w (Made w (ClnV l)) :=
  (clone_any hq hl).mono fun e w' ⟨v, h1, ⟨r, h2, h3⟩, hB⟩ => ⟨v, [hInts r l], h1, ⟨r, h2, rfl⟩, fun x hx => by rw [List.mem_singleton.1 hx]; exact IntsAt.own h3, hB⟩
set_option maxHeartbeats 32000000 in
set_option maxRecDepth 10000 in
theorem next_any {v : ATV} {w : World} (hL : Laid w) (ht : AtAt w w.heap.size v alT) :
    Calls Tryz.prog 16 #[atkV v alT, .slice none 0 0, .int .i64 18] w fun e w' => ∃ vv, e = .returned vv ∧ ∃ r : SV, vv = .tuple ⟨[svV r, .int .i64 0]⟩ ∧ ListAt msgK w' (Lt w'.heap.size) r alLg ∧ Below w.heap.size w w' := by
  have hl : ∀ x, x ∈ alT.twn → x.chs.length ≤ 5000000 := fun x hx => by
    simp only [alT, List.mem_cons, List.not_mem_nil, or_false] at hx
    rcases hx with rfl | rfl | rfl <;> simp
  have hbeg := fun (w' : World) (hB : Below w.heap.size w w') => begin_made (v := v) (t := alT) (w := w') (hL.below hB) (ht.sys (Sys.ofBelow hB)) hl
  have hO := alOk_of alT_0
  have hnw : v.w.n = 3 := ht.nw
  have hnc : v.c.n = 2 := ht.nc
  obtain ⟨⟨Ac, nc, cc⟩, ⟨Aw, nw, cw⟩, ⟨Af, nf, cf⟩, ves, vfs⟩ := v
  simp only at hnw hnc
  subst hnw hnc
  simp only [atkV, atkC] at hbeg ⊢
  refine enter Tryz.func16 rfl Tryz.ntmps16 rfl ?_; simp only [frame, Nat.zero_add, Nat.reduceAdd]
  repeat (first | (refine M0 ?_; first | refine SL ?_ | refine SB fun _ _ => ?_) | (refine M1 ?_; refine SC ?_) | (refine M2 ?_; refine SE ?_))
  rename_i g3 hg3
  refine XL.callF (BegV ⟨⟨Ac, 2, cc⟩, ⟨Aw, 3, cw⟩, ⟨Af, nf, cf⟩, ves, vfs⟩ alT) (ck rfl) rfl rfl (Fam.start (ks := []) (Nat.le_refl w.heap.size)) (fun _ h => by cases h) (Below.refl w.heap.size w) (fun w1 S1 _ _ => hbeg w1 S1.toBelow) (fun w2 u new hR hF2 hB2 hk2 => ?_)
  rcases hR with ⟨hne, rfl, rfl⟩ | ⟨h0, gb, q, r, rfl, rfl⟩
  · exact absurd alT_0 hne
  repeat (first | (refine M0 ?_; first | refine SL ?_ | refine SB fun _ _ => ?_ | refine Y4 (Ev.call (f := 36) (ck rfl) rfl (fun w5 _ => wrong0_any w5)) ?_ | refine Y4 (Ev.call (f := 23) (ck rfl) rfl (fun w S => aout_any _ _ _ w)) ?_) | (refine M1 ?_; refine SC ?_) | (refine M2 ?_; refine SE ?_))
  refine XC.cutn [1, 2, 3, 6, 8] rfl (fun z : Nat × Nat × Nat => [(9, .slice (some ⟨z.1, 0, none⟩) 3 3), (10, .pointer (some ⟨z.2.2, 0, none⟩))]) (fun z => [(z.2.2, cel 26 [.slice (some ⟨z.2.1, 0, none⟩) 2 2]), (z.2.1, cel 3 (ints (List.replicate 2 0))), (z.1, cel 3 (ints (List.replicate 3 0))), (g3, cel 56 [.int .i64 alT.pol, .slice Ac 2 cc, .slice Aw 3 cw, .slice Af nf cf])]) (fun _ => w2) (fun z => w2.heap.size ≤ z.1 ∧ w2.heap.size ≤ z.2.1 ∧ w2.heap.size ≤ z.2.2) ?_ ?_
  · refine XC.drawR _ [0, 1, 2, 4, 5, 6] [3, 7, 8, 9, 10] mixed (fun _ h => h) rfl (by kernel_rfl) ?_
    repeat (any_goals (first | (refine M0 ?_; first | refine SL ?_ | refine SB fun _ _ => ?_ | refine XL.makeInts (n := 3) intK_el (by kernel_rfl) rfl rfl rfl (by omega) (fun _ _ => ?_) | refine XL.makeInts (n := 2) intK_el (by kernel_rfl) rfl rfl rfl (by omega) (fun _ _ => ?_)) | (refine M1 ?_; refine SC ?_) | (refine M2 ?_; first | refine SE ?_ | ((with_reducible refine atHeld ?_); refine z7 ?_)) | (refine M3 ?_; first | refine SG ?_ | refine SF ?_) | (refine M4 ?_; refine SR ?_) | (refine M5 ?_; first | exact M7 | refine YM ?_ | refine YN ?_ ?_)))
    any_goals (repeat (first | exact AnyR.nil | refine AnyR.skip rfl ?_))
    all_goals
      refine XE.leaf (_, _, _) ZZSUB (fun _ S' => by first | exact S' | exact S'.perm (by repeat (first | exact List.Perm.refl _ | refine perm1 ?_ | refine List.Perm.cons _ ?_ | refine perm2 ?_)) | exact (S'.pop (by assumption)) | exact (S'.pop2 (by assumption))) ⟨?_, ?_, ?_⟩ <;> assumption
  rintro ⟨gl, gr, gc⟩ ⟨hgl, hgr, hgc⟩
  simp only at hgl hgr hgc
  have hw2 := hB2.size
  have hch : ∀ k : Nat, k < 2 → ∃ adc : Addr, Ac = some adc ∧ adc.block < w.heap.size ∧ ∀ j u, (chaC (alT.ch (k : Nat)))[j]? = some u → w2.cell? ((adc.add (k * 3)).add j) = some u := fun k hk => by
    obtain ⟨adc, e2, hlt2, hc4⟩ := ht.chaAt (k := k) hk
    exact ⟨adc, e2, hlt2, fun j u hj => (hB2.cell (p := (adc.add (k * 3)).add j) (add_lt2 hlt2)).trans (hc4 j u hj)⟩
  dsimp only [List.cons_append, List.nil_append]
  refine XC.hint 10 3 (XC.hint 3 0 ?_)
  repeat (first | (refine M0 ?_; first | refine SL ?_ | refine SB fun _ _ => ?_) | (refine M1 ?_; refine SC ?_) | (refine M2 ?_; refine SE ?_))
  refine XC.loopk [1, 2, 3, 6, 8, 9, 10, 66, 67] rfl (fun k : Nat => [(68, .int .i64 (k : Nat))]) (fun k => [(gc, cel 26 [.slice (some ⟨gr, 0, none⟩) 2 2]), (gr, cel 3 (ints (match k with | 0 => [0, 0] | 1 => [1, 0] | _ => [1, 2]))), (gl, cel 3 (ints (List.replicate 3 0))), (g3, cel 56 [.int .i64 alT.pol, .slice Ac 2 cc, .slice Aw 3 cw, .slice Af nf cf])]) (fun _ => w2) (fun k => k ≤ 2) (fun k => 2 - k) 0 (Nat.zero_le _) ZZSUB (fun _ h => h) ?_
  intro k hk
  dsimp only [List.cons_append, List.nil_append]
  repeat (first | (refine M0 ?_; first | refine SL ?_ | refine SB fun _ _ => ?_) | (refine M1 ?_; refine SC ?_) | (refine M2 ?_; refine SE ?_))
  refine XC.cond _ rfl (fun h2 => ?_) (fun h2 => ?_)
  · have hk2 : k < 2 := by have := of_decide_eq_true h2; omega
    obtain ⟨adc, rfl, hltc, hcc⟩ := hch k hk2
    have hk3 : k = 0 ∨ k = 1 := by omega
    rcases hk3 with rfl | rfl
    · repeat (first | (refine M0 ?_; first | refine SL ?_ | refine SB fun _ _ => ?_ | refine Y4 (Ev.load_old_agg tok (chaC (alT.ch (0 : Nat))) rfl rfl rfl (add_lt hltc) hcc) ?_) | (refine M1 ?_; refine SC ?_) | (refine M2 ?_; refine SE ?_))
      refine XL.store_at tok 2 (g := gr) (o := 0) (j := 0 * 1) rfl rfl rfl rfl rfl (by decide) rfl ?_
      repeat (first | (refine M0 ?_; first | refine SL ?_ | refine SB fun _ _ => ?_) | (refine M1 ?_; refine SC ?_) | (refine M2 ?_; refine SE ?_))
      refine XE.round (1 : Nat) (by decide) (by decide) ZZSUB (fun _ h => h.pop (by assumption))
    · repeat (first | (refine M0 ?_; first | refine SL ?_ | refine SB fun _ _ => ?_ | refine Y4 (Ev.load_old_agg tok (chaC (alT.ch (1 : Nat))) rfl rfl rfl (add_lt hltc) hcc) ?_) | (refine M1 ?_; refine SC ?_) | (refine M2 ?_; refine SE ?_))
      refine XL.store_at tok 2 (g := gr) (o := 0) (j := 1 * 1) rfl rfl rfl rfl rfl (by decide) rfl ?_
      repeat (first | (refine M0 ?_; first | refine SL ?_ | refine SB fun _ _ => ?_) | (refine M1 ?_; refine SC ?_) | (refine M2 ?_; refine SE ?_))
      refine XE.round (2 : Nat) (by decide) (by decide) ZZSUB (fun _ h => h.pop (by assumption))
  have hk2 : k = 2 := by have := of_decide_eq_false h2; omega
  subst hk2
  repeat (first | (refine M0 ?_; first | refine SL ?_ | refine SB fun _ _ => ?_) | (refine M1 ?_; refine SC ?_) | (refine M2 ?_; refine SE ?_))
  refine XC.loopk [1, 2, 3, 6, 8, 9, 10, 79, 80] rfl (fun _ : Unit => [(81, .int .i64 0)]) (fun _ => [(gc, cel 26 [.slice (some ⟨gr, 0, none⟩) 2 2]), (gr, cel 3 (ints [1, 2])), (gl, cel 3 (ints (List.replicate 3 0))), (g3, cel 56 [.int .i64 alT.pol, .slice Ac 2 cc, .slice Aw 3 cw, .slice Af nf cf])]) (fun _ => w2) (fun _ => True) (fun _ => 0) () trivial ZZSUB (fun _ h => h) ?_
  intro _ _
  dsimp only [List.cons_append, List.nil_append]
  repeat (first | (refine M0 ?_; first | refine SL ?_ | refine SB fun _ _ => ?_) | (refine M1 ?_; refine SC ?_) | (refine M2 ?_; refine SE ?_))
  have hB0 := hB2
  refine XC.rebase (List.Sublist.refl _) (fun W0 S0 => ?_)
  have hF0 : Fam W0 w.heap.size [gc, gr, gl, g3] [] [hBrd gb ⟨⟨Ac, 2, cc⟩, ⟨Aw, 3, cw⟩, ⟨Af, nf, cf⟩, ves, vfs⟩ alT q r] := (hF2.add (ks' := [gc, gr, gl, g3]) fun x hx => by
    simp only [List.mem_cons, List.not_mem_nil, or_false] at hx
    rcases hx with rfl | rfl | rfl | rfl
    · exact .inr hgc
    · exact .inr hgr
    · exact .inr hgl
    · exact .inl (by simp)).sys S0 fun e he => .inl (List.mem_map.2 ⟨e, he, rfl⟩)
  have hk0 : ∀ x, x ∈ [gc, gr, gl, g3] → x < W0.heap.size := fun x hx => S0.keyLt x hx
  have hBW0 : Below w.heap.size w W0 := hB2.trans S0.toBelow
  clear S0 hbeg hch hF2
  refine XC.loopk [1, 2, 3, 6, 8, 10, 103, 104] rfl (fun y : Nat × World × Value => [(15, y.2.2), (16, .slice none 0 0), (105, .int .i64 (y.1 : Nat))]) (fun _ => [(gc, cel 26 [.slice (some ⟨gr, 0, none⟩) 2 2]), (gr, cel 3 (ints [1, 2])), (gl, cel 3 (ints (List.replicate 3 0))), (g3, cel 56 [.int .i64 alT.pol, .slice Ac 2 cc, .slice Aw 3 cw, .slice Af nf cf])]) (fun y => y.2.1)
    (fun y => y.1 ≤ 3 ∧ Below w.heap.size w y.2.1 ∧ Fam y.2.1 w.heap.size [gc, gr, gl, g3] [⟨Int, intK, y.2.2, upL y.1⟩] [hBrd gb ⟨⟨Ac, 2, cc⟩, ⟨Aw, 3, cw⟩, ⟨Af, nf, cf⟩, ves, vfs⟩ alT q r] ∧ (∀ x, x ∈ [gc, gr, gl, g3] → x < y.2.1.heap.size))
    (fun y => 3 - y.1) (0, W0, .slice none 0 0) ⟨Nat.zero_le _, hBW0, hF0.nil intK, hk0⟩ ZZSUB (fun _ h => h) ?_
  clear hF0 hk0 hBW0
  rintro ⟨k, W, lv⟩ ⟨hk, hBW, hF, hks⟩
  simp only at hk hBW hF hks
  dsimp only [List.cons_append, List.nil_append]
  repeat (first | (refine M0 ?_; first | refine SL ?_ | refine SB fun _ _ => ?_) | (refine M1 ?_; refine SC ?_) | (refine M2 ?_; refine SE ?_))
  refine XC.cond _ rfl (fun h3 => ?_) (fun h3 => ?_)
  · have hk3 : k < 3 := by have := of_decide_eq_true h3; omega
    have hst := fun {L : Lo} (w5 : World) (S5 : Sys w.heap.size W L w5) (hF5 : Fam w5 w.heap.size [gc, gr, gl, g3] [⟨Int, intK, lv, upL k⟩] [hBrd gb ⟨⟨Ac, 2, cc⟩, ⟨Aw, 3, cw⟩, ⟨Af, nf, cf⟩, ves, vfs⟩ alT q r]) => stage_any (now := 18) ((show BrdAt w5 _ gb _ alT q r from hF5.held (hBrd gb ⟨⟨Ac, 2, cc⟩, ⟨Aw, 3, cw⟩, ⟨Af, nf, cf⟩, ves, vfs⟩ alT q r) (.head _)).mono fun j hj => hj.2.1) ((ht.below (hBW.trans S5.toBelow)).more (Nat.le_trans hBW.size S5.size)) hO (i := k) hk3
    repeat (first | (refine M0 ?_; first | refine SL ?_ | refine SB fun _ _ => ?_ | refine Y4 (Ev.load_at tok 2 (g := gl) (o := 0) (j := k * 1) rfl rfl rfl (cellz hk3)) ?_ | refine Y4 (Ev.call (f := 37) (ck rfl) rfl (fun w5 S5 => hst w5 S5 (hF.sys S5 fun e he => .inl (List.mem_map.2 ⟨e, he, rfl⟩)))) ?_) | (refine M1 ?_; refine SC ?_) | (refine M2 ?_; refine SE ?_))
    refine XC.cond _ rfl (fun h4 => ?_) (fun h4 => ?_)
    rotate_left
    · have h5 := of_decide_eq_false h4
      exact absurd (alT_sp hk3) h5
    repeat (first | (refine M0 ?_; first | refine SL ?_ | refine SB fun _ _ => ?_) | (refine M1 ?_; refine SC ?_) | (refine M2 ?_; refine SE ?_))
    refine XL.buildSlice tok rfl rfl rfl rfl rfl rfl rfl rfl rfl (fun gn hgn => ?_)
    repeat (first | (refine M0 ?_; first | refine SL ?_ | refine SB fun _ _ => ?_) | (refine M1 ?_; refine SC ?_) | (refine M2 ?_; refine SE ?_))
    refine XL.push (hL := fun e he => by simp only [List.mem_cons, List.not_mem_nil, or_false] at he; rcases he with rfl | rfl | rfl | rfl | rfl <;> first | exact .inr hgn | simp) (K := intK) (a := ((k : Nat) : Int)) (wE := w) 0 intK_el (by decide) rfl rfl rfl hF rfl hks hBW (Nat.le_refl _) rfl (by simp [upL]; omega) (by decide) (fun x hx => by cases hx) (fun W3 u3 hF3 hB3 hk3' => ?_)
    repeat (first | (refine M0 ?_; first | refine SL ?_ | refine SB fun _ _ => ?_) | (refine M1 ?_; refine SC ?_) | (refine M2 ?_; refine SE ?_))
    refine XE.roundW (s := (k, W, lv)) (fun w6 S6 => ⟨(k + 1, w6, u3), ⟨hk3, hB3.trans S6.toBelow, ?_, fun x hx => ?_⟩, by simp only; omega, ZZSUB, S6.rebase (List.sublist_cons_self _ _)⟩)
    · simp only [upL_s]
      exact ((hF3.sys S6 fun e he => .inl (List.mem_append_left _ (List.mem_map.2 ⟨e, he, rfl⟩))).add (ks' := [gc, gr, gl, g3]) fun x hx => .inl (by simp only [List.map_cons, List.map_nil, List.mem_append, List.mem_cons]; exact .inr (by simpa using hx)))
    · exact Nat.lt_of_lt_of_le (hk3' x (List.mem_append_right _ hx)) S6.size
  have hk3 : k = 3 := by have := of_decide_eq_false h3; omega
  subst hk3
  obtain ⟨⟨A5, n5, c5⟩, rfl, hn5⟩ := hF.sv (.head _)
  have hn6 : n5 = 3 := hn5
  clear hn5
  subst hn6
  have hFz := hF.freeze
  have hsrt := fun {L : Lo} (w5 : World) (hF5 : Fam w5 w.heap.size [gc, gr, gl, g3] [] [hList intK ⟨A5, 3, c5⟩ (upL 3), hBrd gb ⟨⟨Ac, 2, cc⟩, ⟨Aw, 3, cw⟩, ⟨Af, nf, cf⟩, ves, vfs⟩ alT q r]) => srt_any (f := 39) (q := ⟨A5, 3, c5⟩) (fst := [.pointer (some ⟨gb, 0, none⟩)]) (cap := []) (key := fun x => ATk.loL (alT.hits x.toNat)) (ck rfl) ((ListAt.ints (show ListAt intK w5 _ ⟨A5, 3, c5⟩ (upL 3) from hF5.held (hList intK ⟨A5, 3, c5⟩ (upL 3)) (.head _))).mono fun j hj => hj.2.1) (fun x hx W6 hW6 => by
    obtain ⟨i, hi, rfl⟩ := List.mem_map.1 hx
    exact first_any ((show BrdAt W6 _ gb ⟨⟨Ac, 2, cc⟩, ⟨Aw, 3, cw⟩, ⟨Af, nf, cf⟩, ves, vfs⟩ alT q r from (hF5.below hW6).held (hBrd gb ⟨⟨Ac, 2, cc⟩, ⟨Aw, 3, cw⟩, ⟨Af, nf, cf⟩, ves, vfs⟩ alT q r) (.tail _ (.head _))).mono fun j hj => hj.2.1) (i := i) (List.mem_range.1 hi)) (fun i hi => by
    have h7 : i + 1 < 3 := hi
    match i, h7 with
    | 0, _ => exact (by rw [show at0 (upL 3) 0 = 0 from rfl, show at0 (upL 3) (0 + 1) = 1 from rfl]; exact alT_le01)
    | 1, _ => exact (by rw [show at0 (upL 3) 1 = 1 from rfl, show at0 (upL 3) (1 + 1) = 2 from rfl]; exact alT_le12)) (by decide)
  simp only [svV] at hsrt ⊢
  repeat (first | (refine M0 ?_; first | refine SL ?_ | refine SB fun _ _ => ?_ | refine Y4 (Ev.makeFunc rfl rfl) ?_ | refine Y4 (Ev.call (f := 38) (ck rfl) rfl (fun w5 S5 => hsrt (L := []) w5 (hFz.sys S5 fun e he => .inl (List.mem_map.2 ⟨e, he, rfl⟩)))) ?_) | (refine M1 ?_; refine SC ?_) | (refine M2 ?_; refine SE ?_))
  refine XL.pushL (hL := fun e he => .inl (List.mem_map.2 ⟨e, he, rfl⟩)) (K := intK) (l := upL 3) (l2 := []) (r2 := ⟨none, 0, 0⟩) (wE := w) 0 intK_el (by decide) rfl rfl rfl hF rfl hks hBW (Nat.le_refl _) (fun w9 S9 => ListAt.nil) (fun a ha x hx => by cases hx) (fun _ => rfl) (by decide) (by decide) (fun w7 v7 hF7 hB7 hk7 => ?_)
  clear hsrt hF hks hFz
  simp only [List.set_cons_zero] at hF7
  obtain ⟨⟨A7, n7, c7⟩, rfl, hn7⟩ := hF7.sv (.head _)
  have hn8 : n7 = 3 := hn7
  clear hn7
  subst hn8
  have hF8 : Fam w7 w.heap.size [gc, gr, gl, g3] [⟨Msg, msgK, .slice none 0 0, []⟩] [hList intK ⟨A7, 3, c7⟩ (upL 3), hBrd gb ⟨⟨Ac, 2, cc⟩, ⟨Aw, 3, cw⟩, ⟨Af, nf, cf⟩, ves, vfs⟩ alT q r] := ((hF7.freeze).nil msgK).add fun x hx => .inl (List.mem_append_right _ hx)
  have hk8 : ∀ x, x ∈ [gc, gr, gl, g3] → x < w7.heap.size := fun x hx => hk7 x (List.mem_append_right _ hx)
  clear hF7 hk7
  simp only [svV]
  repeat (first | (refine M0 ?_; first | refine SL ?_ | refine SB fun _ _ => ?_) | (refine M1 ?_; refine SC ?_) | (refine M2 ?_; refine SE ?_))
  refine XC.loopk [1, 2, 3, 8, 10, 136, 137] rfl (fun y : Nat × World × Value => [(6, y.2.2), (138, .int .i64 (y.1 : Nat))]) (fun y => [(gc, cel 26 [.slice (some ⟨gr, 0, none⟩) 2 2]), (gr, cel 3 (ints (rmL y.1))), (gl, cel 3 (ints (List.replicate 3 0))), (g3, cel 56 [.int .i64 alT.pol, .slice Ac 2 cc, .slice Aw 3 cw, .slice Af nf cf])]) (fun y => y.2.1)
    (fun y => y.1 ≤ 3 ∧ Below w.heap.size w y.2.1 ∧ Fam y.2.1 w.heap.size [gc, gr, gl, g3] [⟨Msg, msgK, y.2.2, alLg.take (mN y.1)⟩] [hList intK ⟨A7, 3, c7⟩ (upL 3), hBrd gb ⟨⟨Ac, 2, cc⟩, ⟨Aw, 3, cw⟩, ⟨Af, nf, cf⟩, ves, vfs⟩ alT q r] ∧ (∀ x, x ∈ [gc, gr, gl, g3] → x < y.2.1.heap.size))
    (fun y => 3 - y.1) (0, w7, .slice none 0 0) ⟨Nat.zero_le _, hB7, hF8, hk8⟩ ZZSUB (fun _ h => h) ?_
  clear hF8 hk8 hB7 hBW
  rintro ⟨k, W, lv⟩ ⟨hk, hBW, hF, hks⟩
  simp only at hk hBW hF hks
  obtain ⟨⟨Al, nl, cl⟩, rfl, hnl⟩ := hF.sv (.head _)
  simp only at hnl
  simp only [svV]
  dsimp only [List.cons_append, List.nil_append]
  repeat (first | (refine M0 ?_; first | refine SL ?_ | refine SB fun _ _ => ?_) | (refine M1 ?_; refine SC ?_) | (refine M2 ?_; refine SE ?_))
  refine XC.cond _ rfl (fun h3 => ?_) (fun h3 => ?_)
  rotate_left
  · have hk3 : k = 3 := by have := of_decide_eq_false h3; omega
    subst hk3
    repeat (first | (refine M0 ?_; first | refine SL ?_ | refine SB fun _ _ => ?_) | (refine M1 ?_; refine SC ?_) | (refine M2 ?_; refine SE ?_))
    refine XE.retg tok Tryz.results16 rfl (by simp only [and_self, and_true]) (fun w' S => ?_)
    have hF9 := hF.sys S fun e he => .inl (List.mem_map.2 ⟨e, he, rfl⟩)
    exact ⟨_, rfl, ⟨Al, _, cl⟩, rfl, (hF9.listOf (.head _)).mono fun j hj => hj.2, hBW.trans S.toBelow⟩
  have hk3 : k < 3 := by have := of_decide_eq_true h3; omega
  have hLu : ListAt intK W (Free W w.heap.size [gc, gr, gl, g3] [⟨Msg, msgK, svV ⟨Al, nl, cl⟩, alLg.take (mN k)⟩]) ⟨A7, 3, c7⟩ (upL 3) := hF.held (hList intK ⟨A7, 3, c7⟩ (upL 3)) (.head _)
  obtain ⟨a7, rfl, hfr7⟩ := hLu.addr (by decide) (by decide)
  have hlt7 : a7.block < W.heap.size := hfr7.2.1
  have hn7 : ∀ x, x ∈ [gc, gr, gl, g3] → x ≠ a7.block := fun x hx e => hfr7.2.2.1 (e ▸ hx)
  have hc7 : ∀ i : Nat, i < 3 → W.cell? (a7.add (i * 1)) = some (.int .i64 (i : Nat)) := fun i hi => by
    have := hLu.elem (k := i) (a := ((i : Nat) : Int)) (by match i, hi with | 0, _ => rfl | 1, _ => rfl | 2, _ => rfl) 0 _ rfl
    rwa [add_add, Nat.add_zero] at this
  obtain hk0 | hk0 | hk0 : k = 0 ∨ k = 1 ∨ k = 2 := by omega
  all_goals subst hk0
  · have hnl' : nl = 0 := hnl
    clear hnl
    subst hnl'
    obtain ⟨adt, ⟨Aq, nq, cq⟩, e2, hlt2, htw, hqi⟩ := ht.twnAt (k := 0) (by decide)
    have e2' : Aw = some adt := e2
    subst e2'
    have hct : W.cell? ((adt.add (0 * 5)).add 4) = some (.slice Aq nq cq) := (hBW.cell (p := (adt.add (0 * 5)).add 4) (add_lt2 hlt2)).trans (htw 4 (.slice Aq nq cq) rfl)
    have hc7k := hc7 0 (by decide)
    have hWq : IntsAt W (Lt w.heap.size) ⟨Aq, nq, cq⟩ (alT.tw 0).chs := hqi.below hBW
    repeat (first | (refine M0 ?_; first | refine SL ?_ | refine SB fun _ _ => ?_ | refine Y4 (Ev.load_far tok rfl rfl (add_lt hlt7) (fun e he => by rw [add_block]; exact hn7 _ (List.mem_map_of_mem (f := Prod.fst) he)) hc7k) ?_ | refine Y4 (Ev.load_old tok rfl rfl (add_lt2 hlt2) hct) ?_) | (refine M1 ?_; refine SC ?_) | (refine M2 ?_; refine SE ?_))
    refine XL.callF (hL := fun e he => by simp only [List.mem_cons, List.not_mem_nil, or_false] at he; rcases he with rfl | rfl | rfl | rfl <;> simp) (ClnV [0, 1]) (ck rfl) rfl rfl hF hks hBW (fun w5 S5 _ _ => clone_made (q := ⟨Aq, nq, cq⟩) (hWq.arg S5) (by decide)) (fun w2 u new hR hF2 hB2 hk2 => ?_)
    obtain ⟨⟨Aq2, nq2, cq2⟩, rfl, rfl⟩ := hR
    have hF3 : Fam w2 w.heap.size [gc, gr, gl, g3] [⟨Msg, msgK, svV ⟨Al, 0, cl⟩, alLg.take (mN 0)⟩] [hInts ⟨Aq2, nq2, cq2⟩ [0, 1], hList intK ⟨some a7, 3, c7⟩ (upL 3), hBrd gb ⟨⟨Ac, 2, cc⟩, ⟨some adt, 3, cw⟩, ⟨Af, nf, cf⟩, ves, vfs⟩ alT q r] := hF2.add fun x hx => .inl (List.mem_append_right _ hx)
    clear hF2
    have hk3 : ∀ x, x ∈ [gc, gr, gl, g3] → x < w2.heap.size := fun x hx => hk2 x (List.mem_append_right _ hx)
    have hIq : ∀ w5, Fam w5 w.heap.size [gc, gr, gl, g3] [⟨Msg, msgK, svV ⟨Al, 0, cl⟩, alLg.take (mN 0)⟩] [hInts ⟨Aq2, nq2, cq2⟩ [0, 1], hList intK ⟨some a7, 3, c7⟩ (upL 3), hBrd gb ⟨⟨Ac, 2, cc⟩, ⟨some adt, 3, cw⟩, ⟨Af, nf, cf⟩, ves, vfs⟩ alT q r] → IntsAt w5 (Lt w5.heap.size) ⟨Aq2, nq2, cq2⟩ [0, 1] := fun w5 h5 => (show IntsAt w5 _ ⟨Aq2, nq2, cq2⟩ [0, 1] from h5.held (hInts ⟨Aq2, nq2, cq2⟩ [0, 1]) (.head _)).mono fun j hj => hj.2.1
    have hnq : nq2 = 2 := (hIq w2 hF3).len
    subst hnq
    have hI9 : IntsAt w2 (Free w2 w.heap.size [gc, gr, gl, g3] [⟨Msg, msgK, svV ⟨Al, 0, cl⟩, alLg.take (mN 0)⟩]) ⟨Aq2, 2, cq2⟩ [0, 1] := hF3.held (hInts ⟨Aq2, 2, cq2⟩ [0, 1]) (.head _)
    obtain ⟨a9, e9, hfr9, hc9⟩ := hI9.at_ (by decide)
    subst e9
    have hn9 : ∀ x, x ∈ [gc, gr, gl, g3] → x ≠ a9.block := fun x hx e => hfr9.2.2.1 (e ▸ hx)
    have hlt9 : a9.block < w2.heap.size := hfr9.2.1
    have hc0 : w2.cell? (a9.add (0 * 1)) = some (.int .i64 (0 : Int)) := hc9 0 (by decide)
    have hsy := fun {L : Lo} (w5 : World) (S5 : Sys w.heap.size w2 [(gc, cel 26 [.slice (some ⟨gr, 0, none⟩) 2 2]), (gr, cel 3 (ints [1, 2])), (gl, cel 3 (ints (List.replicate 3 0))), (g3, cel 56 [.int .i64 alT.pol, .slice Ac 2 cc, .slice (some adt) 3 cw, .slice Af nf cf])] w5) => hF3.sys S5 fun e he => .inl (List.mem_map.2 ⟨e, he, rfl⟩)
    have hdel := fun (w5 : World) (S5 : Sys w.heap.size w2 [(gc, cel 26 [.slice (some ⟨gr, 0, none⟩) 2 2]), (gr, cel 3 (ints [1, 2])), (gl, cel 3 (ints (List.replicate 3 0))), (g3, cel 56 [.int .i64 alT.pol, .slice Ac 2 cc, .slice (some adt) 3 cw, .slice Af nf cf])] w5) => del0_any (f := 42) (cap := [.pointer (some ⟨gc, 0, none⟩)]) (P := fun m => decide ((([1, 2] : List Int)[m.toNat]?.getD 0) ≤ 0)) (ck rfl) (hIq w5 (hsy (L := []) w5 S5)) (by decide) (fun m hm w6 hb6 => by
      have hgc6 := (hb6.block gc (S5.lt (.head _))).trans (S5.own _ (.head _)).2
      have hgr6 := (hb6.block gr (S5.lt (.tail _ (.head _)))).trans (S5.own _ (.tail _ (.head _))).2
      simp only [List.mem_cons, List.not_mem_nil, or_false] at hm
      rcases hm with rfl | rfl
      · exact nx1_any (c := 0) (x := 1) hgc6 hgr6 rfl
      · exact nx1_any (c := 1) (x := 2) hgc6 hgr6 rfl) (fun m hm => by
      simp only [List.mem_cons, List.not_mem_nil, or_false] at hm
      rcases hm with rfl | rfl <;> rfl)
    have hsrt := fun (w5 : World) (S5 : Sys w.heap.size w2 [(gc, cel 26 [.slice (some ⟨gr, 0, none⟩) 2 2]), (gr, cel 3 (ints [1, 2])), (gl, cel 3 (ints (List.replicate 3 0))), (g3, cel 56 [.int .i64 alT.pol, .slice Ac 2 cc, .slice (some adt) 3 cw, .slice Af nf cf])] w5) => srt_any (f := 43) (q := ⟨some a9, 2, cq2⟩) (fst := []) (cap := [.pointer (some ⟨g3, 0, none⟩)]) (key := fun x => (alT.ch x).delay) (ck rfl) (hIq w5 (hsy (L := []) w5 S5)) (fun x hx W6 hW6 => by
      have hg36 := (hW6.block g3 (S5.lt (.tail _ (.tail _ (.tail _ (.head _)))))).trans (S5.own _ (.tail _ (.tail _ (.tail _ (.head _))))).2
      have ht6 : AtAt W6 W6.heap.size ⟨⟨Ac, 2, cc⟩, ⟨some adt, 3, cw⟩, ⟨Af, nf, cf⟩, ves, vfs⟩ alT := (ht.below (hB2.trans (S5.toBelow.trans (hW6.mono (Nat.le_trans S5.base S5.size))))).more (Nat.le_trans hB2.size (Nat.le_trans S5.size hW6.size))
      simp only [List.mem_cons, List.not_mem_nil, or_false] at hx
      rcases hx with rfl | rfl
      · exact nx2_any (v := ⟨⟨Ac, 2, cc⟩, ⟨some adt, 3, cw⟩, ⟨Af, nf, cf⟩, ves, vfs⟩) (c := 0) hg36 ht6 (by decide) (by decide)
      · exact nx2_any (v := ⟨⟨Ac, 2, cc⟩, ⟨some adt, 3, cw⟩, ⟨Af, nf, cf⟩, ves, vfs⟩) (c := 1) hg36 ht6 (by decide) (by decide)) (fun i hi => by
      have h7 : i + 1 < 2 := hi
      have h0 : i = 0 := by omega
      subst h0
      decide) (by decide)
    have hstg := fun (w5 : World) (S5 : Sys w.heap.size w2 [(gc, cel 26 [.slice (some ⟨gr, 0, none⟩) 2 2]), (gr, cel 3 (ints [0, 2])), (gl, cel 3 (ints (List.replicate 3 0))), (g3, cel 56 [.int .i64 alT.pol, .slice Ac 2 cc, .slice (some adt) 3 cw, .slice Af nf cf])] w5) => stage_any (now := 18) (v := ⟨⟨Ac, 2, cc⟩, ⟨some adt, 3, cw⟩, ⟨Af, nf, cf⟩, ves, vfs⟩) ((show BrdAt w5 _ gb ⟨⟨Ac, 2, cc⟩, ⟨some adt, 3, cw⟩, ⟨Af, nf, cf⟩, ves, vfs⟩ alT q r from (hF3.sys S5 fun e he => .inl (List.mem_map.2 ⟨e, he, rfl⟩)).held (hBrd gb ⟨⟨Ac, 2, cc⟩, ⟨some adt, 3, cw⟩, ⟨Af, nf, cf⟩, ves, vfs⟩ alT q r) (.tail _ (.tail _ (.head _)))).mono fun j hj => hj.2.1) ((ht.below (hB2.trans S5.toBelow)).more (Nat.le_trans hB2.size S5.size)) hO (i := 0) (by decide)
    simp only [svV] at hdel hsrt hstg ⊢
    rw [alT_s0] at hstg
    repeat (first | (refine M0 ?_; first | refine SL ?_ | refine SB fun _ _ => ?_ | refine Y4 (Ev.makeFunc rfl rfl) ?_ | refine Y4 (Ev.call (f := 40) (ck rfl) rfl (fun w5 S5 => hdel w5 S5)) ?_ | refine Y4 (Ev.call (f := 38) (ck rfl) rfl (fun w5 S5 => hsrt w5 S5)) ?_ | refine Y4 (Ev.load_far tok rfl rfl (add_lt hlt9) (fun e he => by rw [add_block]; exact hn9 _ (List.mem_map_of_mem (f := Prod.fst) he)) hc0) ?_) | (refine M1 ?_; refine SC ?_) | (refine M2 ?_; refine SE ?_))
    have hre : (ints [1, 2])[0 + 0 * 1]? = some (.int .i64 (1 : Int)) := rfl
    repeat (first | (refine M0 ?_; first | refine SL ?_ | refine SB fun _ _ => ?_ | refine Y4 (Ev.load_loc tok 0 (g := gc) (o := 0) rfl rfl rfl rfl) ?_ | refine Y4 (Ev.load_at tok 1 (g := gr) (o := 0) (j := 0 * 1) rfl rfl rfl hre) ?_) | (refine M1 ?_; refine SC ?_) | (refine M2 ?_; refine SE ?_))
    refine XL.store_at tok 1 (g := gr) (o := 0) (j := 0 * 1) rfl rfl rfl rfl rfl (by decide) rfl ?_
    repeat (first | (refine M0 ?_; first | refine SL ?_ | refine SB fun _ _ => ?_ | refine Y4 (Ev.call (f := 37) (ck rfl) rfl (fun w5 S5 => hstg w5 S5)) ?_) | (refine M1 ?_; refine SC ?_) | (refine M2 ?_; refine SE ?_))
    refine XL.buildSlice tok rfl rfl rfl rfl rfl rfl rfl rfl rfl (fun gn hgn => ?_)
    repeat (first | (refine M0 ?_; first | refine SL ?_ | refine SB fun _ _ => ?_) | (refine M1 ?_; refine SC ?_) | (refine M2 ?_; refine SE ?_))
    refine XL.push (hL := fun e he => by simp only [List.mem_cons, List.not_mem_nil, or_false] at he; rcases he with rfl | rfl | rfl | rfl | rfl <;> first | exact .inr hgn | simp) (K := msgK) (a := ⟨1, 0, 2, 0, 18⟩) (wE := w) 0 msg_el (by decide) rfl rfl rfl hF3 rfl hk3 hB2 (Nat.le_refl _) rfl (by decide) (by decide) (fun x hx => by cases hx) (fun W3 u3 hF4 hB4 hk4 => ?_)
    repeat (first | (refine M0 ?_; first | refine SL ?_ | refine SB fun _ _ => ?_) | (refine M1 ?_; refine SC ?_) | (refine M2 ?_; refine SE ?_))
    refine XE.roundW (s := (0, W, svV ⟨Al, 0, cl⟩)) (fun w6 S6 => ⟨(0 + 1, w6, u3), ⟨by simp only; omega, hB4.trans S6.toBelow, ?_, fun x hx => ?_⟩, by simp only; omega, ZZSUB, S6.rebase (List.sublist_cons_self _ _)⟩)
    · exact (((hF4.sys S6 fun e he => .inl (List.mem_append_left _ (List.mem_map.2 ⟨e, he, rfl⟩))).add (ks' := [gc, gr, gl, g3]) fun x hx => .inl (List.mem_append_right _ hx)).forget fun x hx => .tail _ hx)
    · exact Nat.lt_of_lt_of_le (hk4 x (List.mem_append_right _ hx)) S6.size
  · have hnl' : nl = 1 := hnl
    clear hnl
    subst hnl'
    obtain ⟨adt, ⟨Aq, nq, cq⟩, e2, hlt2, htw, hqi⟩ := ht.twnAt (k := 1) (by decide)
    have e2' : Aw = some adt := e2
    subst e2'
    have hct : W.cell? ((adt.add (1 * 5)).add 4) = some (.slice Aq nq cq) := (hBW.cell (p := (adt.add (1 * 5)).add 4) (add_lt2 hlt2)).trans (htw 4 (.slice Aq nq cq) rfl)
    have hc7k := hc7 1 (by decide)
    have hWq : IntsAt W (Lt w.heap.size) ⟨Aq, nq, cq⟩ (alT.tw 1).chs := hqi.below hBW
    repeat (first | (refine M0 ?_; first | refine SL ?_ | refine SB fun _ _ => ?_ | refine Y4 (Ev.load_far tok rfl rfl (add_lt hlt7) (fun e he => by rw [add_block]; exact hn7 _ (List.mem_map_of_mem (f := Prod.fst) he)) hc7k) ?_ | refine Y4 (Ev.load_old tok rfl rfl (add_lt2 hlt2) hct) ?_) | (refine M1 ?_; refine SC ?_) | (refine M2 ?_; refine SE ?_))
    refine XL.callr (fst := []) (cap := []) (fun w5 v w6 => (∃ r : SV, v = svV r ∧ w6.ownsRow w5.heap.size 3 1 (svV r) 1 (ints [0])) ∧ Below w5.heap.size w5 w6) (ck rfl) rfl rfl rfl (fun w5 S5 => ?_) (fun w5 vv w6 S5 hR => ?_)
    · exact (clone_any (q := ⟨Aq, nq, cq⟩) (hWq.arg S5) (by decide)).mono fun e w' ⟨v, h, h4, h5⟩ => ⟨v, h, h4, h5⟩
    obtain ⟨⟨⟨Ar, nr, cr⟩, rfl, hrow⟩, hb6⟩ := hR
    obtain ⟨g, sp, rfl, hnr, hgle, hg6, hcap, _⟩ := owns_block hrow (by decide)
    subst hnr
    have hg6lt : g < w6.heap.size := (Array.getElem?_eq_some_iff.1 hg6).1
    have hcap2 : (ints [0]).length + sp.length = cr := hcap
    have hcr : 1 ≤ cr := by have h1 : (ints [0]).length = 1 := rfl; omega
    have hWg : W.heap.size ≤ g := Nat.le_trans S5.size hgle
    have hwg : w.heap.size ≤ g := Nat.le_trans hBW.size hWg
    have hgn : ∀ x, x ∈ [gc, gr, gl, g3] → x ≠ g := fun x hx e => by have := S5.keyLt x hx; omega
    have hF6 := ((hF.add (ks' := g :: [gc, gr, gl, g3]) fun x hx => by
      rcases List.mem_cons.1 hx with rfl | hx
      · exact .inr hWg
      · exact .inl hx).sys S5 fun e he => .inl (.tail _ (List.mem_map.2 ⟨e, he, rfl⟩))).below hb6
    have hB6 : Below w.heap.size w w6 := hBW.trans (S5.toBelow.trans (hb6.mono (Nat.le_trans S5.base S5.size)))
    refine ⟨_, w6, S5.made hb6, ?_⟩
    simp only [svV]
    repeat (first | (refine M0 ?_; first | refine SL ?_ | refine SB fun _ _ => ?_ | refine Y4 (Ev.makeFunc rfl rfl) ?_) | (refine M1 ?_; refine SC ?_) | (refine M2 ?_; refine SE ?_))
    refine XL.callr (fst := []) (cap := []) (fun w7 v w8 => ∃ (A : Option Addr) (c' : Nat) (cs : List Value), v = .slice A 0 c' ∧ Sys g w7 [(g, cel 3 cs)] w8) (ck rfl) rfl rfl rfl (fun w7 S7 => ?_) (fun w7 vv w8 S7 hR => ?_)
    · have hg7 := (S7.old g hg6lt (fun e he => hgn _ (List.mem_map_of_mem (f := Prod.fst) he))).trans hg6
      exact del1_any (f := 42) (cap := [.pointer (some ⟨gc, 0, none⟩)]) (P := fun m => decide ((([0, 2] : List Int)[m.toNat]?.getD 0) ≤ 0)) (ck rfl) hg7 hcr (fun w9 hb9 => nx1_any (c := 0) (x := 0) ((hb9.block gc (S7.lt (.head _))).trans (S7.own _ (.head _)).2) ((hb9.block gr (S7.lt (.tail _ (.head _)))).trans (S7.own _ (.tail _ (.head _))).2) rfl) rfl
    obtain ⟨A0, c0, cs0, rfl, Sg⟩ := hR
    have hF8 := (hF6.sys S7 fun e he => .inl (.tail _ (List.mem_map.2 ⟨e, he, rfl⟩))).move Sg.size fun j hj hn => Sg.old j hj fun e' he' e1 => hn (by rw [List.mem_singleton.1 he'] at e1; rw [← e1]; exact .head _)
    have hS8 : Sys w.heap.size w8 [(gc, cel 26 [.slice (some ⟨gr, 0, none⟩) 2 2]), (gr, cel 3 (ints [0, 2])), (gl, cel 3 (ints (List.replicate 3 0))), (g3, cel 56 [.int .i64 alT.pol, .slice Ac 2 cc, .slice (some adt) 3 cw, .slice Af nf cf])] w8 := Sys.start (Nat.le_trans (Nat.le_trans S7.base S7.size) Sg.size) (fun e he => ⟨(S7.own e he).1, (Sg.old e.1 (S7.lt he) fun e' he' e1 => by
      rw [List.mem_singleton.1 he'] at e1
      exact hgn _ (List.mem_map_of_mem (f := Prod.fst) he) e1.symm).trans (S7.own e he).2⟩) S7.nd
    refine ⟨_, w8, hS8, ?_⟩
    repeat (first | (refine M0 ?_; first | refine SL ?_ | refine SB fun _ _ => ?_) | (refine M1 ?_; refine SC ?_) | (refine M2 ?_; refine SE ?_))
    refine XE.roundW (s := (1, W, svV ⟨Al, 1, cl⟩)) (fun w9 S9 => ⟨(1 + 1, w9, svV ⟨Al, 1, cl⟩), ⟨by simp only; omega, hB6.trans (S7.toBelow.trans ((Sg.toBelow.mono hwg).trans S9.toBelow)), ?_, fun x hx => S9.keyLt x hx⟩, by simp only; omega, ZZSUB, S9.rebase (List.Sublist.refl _)⟩)
    exact (hF8.sys S9 fun e he => .inl (.tail _ (List.mem_map.2 ⟨e, he, rfl⟩))).add fun x hx => .inl (.tail _ hx)
  · have hnl' : nl = 1 := hnl
    clear hnl
    subst hnl'
    obtain ⟨adt, ⟨Aq, nq, cq⟩, e2, hlt2, htw, hqi⟩ := ht.twnAt (k := 2) (by decide)
    have e2' : Aw = some adt := e2
    subst e2'
    have hct : W.cell? ((adt.add (2 * 5)).add 4) = some (.slice Aq nq cq) := (hBW.cell (p := (adt.add (2 * 5)).add 4) (add_lt2 hlt2)).trans (htw 4 (.slice Aq nq cq) rfl)
    have hc7k := hc7 2 (by decide)
    have hWq : IntsAt W (Lt w.heap.size) ⟨Aq, nq, cq⟩ (alT.tw 2).chs := hqi.below hBW
    repeat (first | (refine M0 ?_; first | refine SL ?_ | refine SB fun _ _ => ?_ | refine Y4 (Ev.load_far tok rfl rfl (add_lt hlt7) (fun e he => by rw [add_block]; exact hn7 _ (List.mem_map_of_mem (f := Prod.fst) he)) hc7k) ?_ | refine Y4 (Ev.load_old tok rfl rfl (add_lt2 hlt2) hct) ?_) | (refine M1 ?_; refine SC ?_) | (refine M2 ?_; refine SE ?_))
    refine XL.callF (hL := fun e he => by simp only [List.mem_cons, List.not_mem_nil, or_false] at he; rcases he with rfl | rfl | rfl | rfl <;> simp) (ClnV [1]) (ck rfl) rfl rfl hF hks hBW (fun w5 S5 _ _ => clone_made (q := ⟨Aq, nq, cq⟩) (hWq.arg S5) (by decide)) (fun w2 u new hR hF2 hB2 hk2 => ?_)
    obtain ⟨⟨Aq2, nq2, cq2⟩, rfl, rfl⟩ := hR
    have hF3 : Fam w2 w.heap.size [gc, gr, gl, g3] [⟨Msg, msgK, svV ⟨Al, 1, cl⟩, alLg.take (mN 2)⟩] [hInts ⟨Aq2, nq2, cq2⟩ [1], hList intK ⟨some a7, 3, c7⟩ (upL 3), hBrd gb ⟨⟨Ac, 2, cc⟩, ⟨some adt, 3, cw⟩, ⟨Af, nf, cf⟩, ves, vfs⟩ alT q r] := hF2.add fun x hx => .inl (List.mem_append_right _ hx)
    clear hF2
    have hk3 : ∀ x, x ∈ [gc, gr, gl, g3] → x < w2.heap.size := fun x hx => hk2 x (List.mem_append_right _ hx)
    have hIq : ∀ w5, Fam w5 w.heap.size [gc, gr, gl, g3] [⟨Msg, msgK, svV ⟨Al, 1, cl⟩, alLg.take (mN 2)⟩] [hInts ⟨Aq2, nq2, cq2⟩ [1], hList intK ⟨some a7, 3, c7⟩ (upL 3), hBrd gb ⟨⟨Ac, 2, cc⟩, ⟨some adt, 3, cw⟩, ⟨Af, nf, cf⟩, ves, vfs⟩ alT q r] → IntsAt w5 (Lt w5.heap.size) ⟨Aq2, nq2, cq2⟩ [1] := fun w5 h5 => (show IntsAt w5 _ ⟨Aq2, nq2, cq2⟩ [1] from h5.held (hInts ⟨Aq2, nq2, cq2⟩ [1]) (.head _)).mono fun j hj => hj.2.1
    have hnq : nq2 = 1 := (hIq w2 hF3).len
    subst hnq
    have hI9 : IntsAt w2 (Free w2 w.heap.size [gc, gr, gl, g3] [⟨Msg, msgK, svV ⟨Al, 1, cl⟩, alLg.take (mN 2)⟩]) ⟨Aq2, 1, cq2⟩ [1] := hF3.held (hInts ⟨Aq2, 1, cq2⟩ [1]) (.head _)
    obtain ⟨a9, e9, hfr9, hc9⟩ := hI9.at_ (by decide)
    subst e9
    have hn9 : ∀ x, x ∈ [gc, gr, gl, g3] → x ≠ a9.block := fun x hx e => hfr9.2.2.1 (e ▸ hx)
    have hlt9 : a9.block < w2.heap.size := hfr9.2.1
    have hc0 : w2.cell? (a9.add (0 * 1)) = some (.int .i64 (1 : Int)) := hc9 0 (by decide)
    have hsy := fun {L : Lo} (w5 : World) (S5 : Sys w.heap.size w2 [(gc, cel 26 [.slice (some ⟨gr, 0, none⟩) 2 2]), (gr, cel 3 (ints [0, 2])), (gl, cel 3 (ints (List.replicate 3 0))), (g3, cel 56 [.int .i64 alT.pol, .slice Ac 2 cc, .slice (some adt) 3 cw, .slice Af nf cf])] w5) => hF3.sys S5 fun e he => .inl (List.mem_map.2 ⟨e, he, rfl⟩)
    have hdel := fun (w5 : World) (S5 : Sys w.heap.size w2 [(gc, cel 26 [.slice (some ⟨gr, 0, none⟩) 2 2]), (gr, cel 3 (ints [0, 2])), (gl, cel 3 (ints (List.replicate 3 0))), (g3, cel 56 [.int .i64 alT.pol, .slice Ac 2 cc, .slice (some adt) 3 cw, .slice Af nf cf])] w5) => del0_any (f := 42) (cap := [.pointer (some ⟨gc, 0, none⟩)]) (P := fun m => decide ((([0, 2] : List Int)[m.toNat]?.getD 0) ≤ 0)) (ck rfl) (hIq w5 (hsy (L := []) w5 S5)) (by decide) (fun m hm w6 hb6 => by
      have hgc6 := (hb6.block gc (S5.lt (.head _))).trans (S5.own _ (.head _)).2
      have hgr6 := (hb6.block gr (S5.lt (.tail _ (.head _)))).trans (S5.own _ (.tail _ (.head _))).2
      simp only [List.mem_cons, List.not_mem_nil, or_false] at hm
      subst hm
      exact nx1_any (c := 1) (x := 2) hgc6 hgr6 rfl) (fun m hm => by
      simp only [List.mem_cons, List.not_mem_nil, or_false] at hm
      subst hm; rfl)
    have hsrt := fun (w5 : World) (S5 : Sys w.heap.size w2 [(gc, cel 26 [.slice (some ⟨gr, 0, none⟩) 2 2]), (gr, cel 3 (ints [0, 2])), (gl, cel 3 (ints (List.replicate 3 0))), (g3, cel 56 [.int .i64 alT.pol, .slice Ac 2 cc, .slice (some adt) 3 cw, .slice Af nf cf])] w5) => srt_any (f := 43) (q := ⟨some a9, 1, cq2⟩) (fst := []) (cap := [.pointer (some ⟨g3, 0, none⟩)]) (key := fun x => (alT.ch x).delay) (ck rfl) (hIq w5 (hsy (L := []) w5 S5)) (fun x hx W6 hW6 => by
      have hg36 := (hW6.block g3 (S5.lt (.tail _ (.tail _ (.tail _ (.head _)))))).trans (S5.own _ (.tail _ (.tail _ (.tail _ (.head _))))).2
      have ht6 : AtAt W6 W6.heap.size ⟨⟨Ac, 2, cc⟩, ⟨some adt, 3, cw⟩, ⟨Af, nf, cf⟩, ves, vfs⟩ alT := (ht.below (hB2.trans (S5.toBelow.trans (hW6.mono (Nat.le_trans S5.base S5.size))))).more (Nat.le_trans hB2.size (Nat.le_trans S5.size hW6.size))
      simp only [List.mem_cons, List.not_mem_nil, or_false] at hx
      subst hx
      exact nx2_any (v := ⟨⟨Ac, 2, cc⟩, ⟨some adt, 3, cw⟩, ⟨Af, nf, cf⟩, ves, vfs⟩) (c := 1) hg36 ht6 (by decide) (by decide)) (fun i hi => by
      have h7 : i + 1 < 1 := hi
      omega) (by decide)
    have hstg := fun (w5 : World) (S5 : Sys w.heap.size w2 [(gc, cel 26 [.slice (some ⟨gr, 0, none⟩) 2 2]), (gr, cel 3 (ints [0, 1])), (gl, cel 3 (ints (List.replicate 3 0))), (g3, cel 56 [.int .i64 alT.pol, .slice Ac 2 cc, .slice (some adt) 3 cw, .slice Af nf cf])] w5) => stage_any (now := 18) (v := ⟨⟨Ac, 2, cc⟩, ⟨some adt, 3, cw⟩, ⟨Af, nf, cf⟩, ves, vfs⟩) ((show BrdAt w5 _ gb ⟨⟨Ac, 2, cc⟩, ⟨some adt, 3, cw⟩, ⟨Af, nf, cf⟩, ves, vfs⟩ alT q r from (hF3.sys S5 fun e he => .inl (List.mem_map.2 ⟨e, he, rfl⟩)).held (hBrd gb ⟨⟨Ac, 2, cc⟩, ⟨some adt, 3, cw⟩, ⟨Af, nf, cf⟩, ves, vfs⟩ alT q r) (.tail _ (.tail _ (.head _)))).mono fun j hj => hj.2.1) ((ht.below (hB2.trans S5.toBelow)).more (Nat.le_trans hB2.size S5.size)) hO (i := 2) (by decide)
    simp only [svV] at hdel hsrt hstg ⊢
    rw [alT_s2] at hstg
    repeat (first | (refine M0 ?_; first | refine SL ?_ | refine SB fun _ _ => ?_ | refine Y4 (Ev.makeFunc rfl rfl) ?_ | refine Y4 (Ev.call (f := 40) (ck rfl) rfl (fun w5 S5 => hdel w5 S5)) ?_ | refine Y4 (Ev.call (f := 38) (ck rfl) rfl (fun w5 S5 => hsrt w5 S5)) ?_ | refine Y4 (Ev.load_far tok rfl rfl (add_lt hlt9) (fun e he => by rw [add_block]; exact hn9 _ (List.mem_map_of_mem (f := Prod.fst) he)) hc0) ?_) | (refine M1 ?_; refine SC ?_) | (refine M2 ?_; refine SE ?_))
    have hre : (ints [0, 2])[0 + 1 * 1]? = some (.int .i64 (2 : Int)) := rfl
    repeat (first | (refine M0 ?_; first | refine SL ?_ | refine SB fun _ _ => ?_ | refine Y4 (Ev.load_loc tok 0 (g := gc) (o := 0) rfl rfl rfl rfl) ?_ | refine Y4 (Ev.load_at tok 1 (g := gr) (o := 0) (j := 1 * 1) rfl rfl rfl hre) ?_) | (refine M1 ?_; refine SC ?_) | (refine M2 ?_; refine SE ?_))
    refine XL.store_at tok 1 (g := gr) (o := 0) (j := 1 * 1) rfl rfl rfl rfl rfl (by decide) rfl ?_
    repeat (first | (refine M0 ?_; first | refine SL ?_ | refine SB fun _ _ => ?_ | refine Y4 (Ev.call (f := 37) (ck rfl) rfl (fun w5 S5 => hstg w5 S5)) ?_) | (refine M1 ?_; refine SC ?_) | (refine M2 ?_; refine SE ?_))
    refine XL.buildSlice tok rfl rfl rfl rfl rfl rfl rfl rfl rfl (fun gn hgn => ?_)
    repeat (first | (refine M0 ?_; first | refine SL ?_ | refine SB fun _ _ => ?_) | (refine M1 ?_; refine SC ?_) | (refine M2 ?_; refine SE ?_))
    refine XL.push (hL := fun e he => by simp only [List.mem_cons, List.not_mem_nil, or_false] at he; rcases he with rfl | rfl | rfl | rfl | rfl <;> first | exact .inr hgn | simp) (K := msgK) (a := ⟨2, 2, 1, 1, 18⟩) (wE := w) 0 msg_el (by decide) rfl rfl rfl hF3 rfl hk3 hB2 (Nat.le_refl _) rfl (by decide) (by decide) (fun x hx => by cases hx) (fun W3 u3 hF4 hB4 hk4 => ?_)
    repeat (first | (refine M0 ?_; first | refine SL ?_ | refine SB fun _ _ => ?_) | (refine M1 ?_; refine SC ?_) | (refine M2 ?_; refine SE ?_))
    refine XE.roundW (s := (2, W, svV ⟨Al, 1, cl⟩)) (fun w6 S6 => ⟨(2 + 1, w6, u3), ⟨by simp only; omega, hB4.trans S6.toBelow, ?_, fun x hx => ?_⟩, by simp only; omega, ZZSUB, S6.rebase (List.sublist_cons_self _ _)⟩)
    · exact (((hF4.sys S6 fun e he => .inl (List.mem_append_left _ (List.mem_map.2 ⟨e, he, rfl⟩))).add (ks' := [gc, gr, gl, g3]) fun x hx => .inl (List.mem_append_right _ hx)).forget fun x hx => .tail _ hx)
    · exact Nat.lt_of_lt_of_le (hk4 x (List.mem_append_right _ hx)) S6.size
end X
namespace X
open Go Go.RowKit Bs
theorem _root_.Go.Proofs.YtgddcbpbadookaaGreatDoor.X.Sys.below0 {B : Nat} {w0 w : World} (S : Sys B w0 [] w) : Below w0.heap.size w0 w := ⟨S.os, S.tape, S.output, S.size, fun k hk => S.old k hk fun e he => by cases he⟩
theorem alT_ch : ∀ x, x ∈ alT.twn → x.chs.length ≤ 5000000 := fun x hx => by
  simp only [alT, List.mem_cons, List.not_mem_nil, or_false] at hx
  rcases hx with rfl | rfl | rfl <;> simp
def TskR (w : World) (x : Value) (w' : World) : Prop := (∃ v : ATV, x = atkV v alT ∧ AtAt w' w'.heap.size v alT) ∧ Below w.heap.size w w'
theorem task_r (w : World) : Calls Tryz.prog 15 #[] w fun e w' => ∃ v, e = .returned v ∧ TskR w v w' := (task11_any w).mono fun e w' ⟨vv, h1, v, h2, h3, h4⟩ => ⟨vv, h1, ⟨v, h2, h3⟩, h4⟩
def LogR (w : World) (x : Value) (w' : World) : Prop := (∃ r : SV, x = svV r ∧ ListAt msgK w' (Lt w'.heap.size) r alLg) ∧ Below w.heap.size w w'
theorem log_r (w : World) : Calls Tryz.prog 19 #[] w fun e w' => ∃ v, e = .returned v ∧ LogR w v w' := (log11_any w).mono fun e w' ⟨vv, h1, v, h2, h3, h4⟩ => ⟨vv, h1, ⟨v, h2, h3⟩, h4⟩
def NxtR (w : World) (x : Value) (w' : World) : Prop := (∃ r : SV, x = .tuple ⟨[svV r, .int .i64 0]⟩ ∧ ListAt msgK w' (Lt w'.heap.size) r alLg) ∧ Below w.heap.size w w'
theorem next_r {v : ATV} {w : World} (hL : Laid w) (ht : AtAt w w.heap.size v alT) : Calls Tryz.prog 16 #[atkV v alT, .slice none 0 0, .int .i64 18] w fun e w' => ∃ x, e = .returned x ∧ NxtR w x w' := (next_any hL ht).mono fun e w' ⟨vv, h1, r, h2, h3, h4⟩ => ⟨vv, h1, ⟨r, h2, h3⟩, h4⟩
def PlnR (w : World) (x : Value) (w' : World) : Prop := (∃ r : SV, x = .tuple ⟨[svV r, .int .i64 0]⟩ ∧ ListAt sloK w' (Lt w'.heap.size) r (alT.planL 18)) ∧ Below w.heap.size w w'
theorem plan_r {v : ATV} {w : World} (hL : Laid w) (ht : AtAt w w.heap.size v alT) : Calls Tryz.prog 8 #[atkV v alT, .int .i64 18] w fun e w' => ∃ x, e = .returned x ∧ PlnR w x w' := (plan_made (now := 18) hL ht alT_ch).mono fun e w' ⟨x, new, h1, h2, h3, h4⟩ => by
  rcases h2 with ⟨hne, _⟩ | ⟨h0, r, rfl, rfl⟩
  · exact absurd alT_p hne
  · exact ⟨_, h1, ⟨r, rfl, (show ListAt sloK w' _ r (alT.planL 18) from h3 (hList sloK r (alT.planL 18)) (.head _)).mono fun j hj => hj.2⟩, h4⟩
set_option maxHeartbeats 16000000 in
theorem awake_any {w : World} (hL : Laid w) : Calls Tryz.prog 5 #[] w fun e w' => e = .returned (.bool true) ∧ Below w.heap.size w w' := by
  refine enter Tryz.func5 rfl Tryz.ntmps5 rfl ?_; simp only [frame, Nat.zero_add, Nat.reduceAdd]
  repeat (first | (refine M0 ?_; first | refine SL ?_ | refine SB fun _ _ => ?_) | (refine M1 ?_; refine SC ?_) | (refine M2 ?_; refine SE ?_))
  refine XL.callr (fst := []) (cap := []) TskR (ck rfl) rfl rfl rfl (fun w5 _ => task_r w5) (fun w5 x w1 S5 hR => ?_)
  obtain ⟨⟨v1, rfl, ht1⟩, hb1⟩ := hR
  refine ⟨_, w1, S5.made hb1, ?_⟩
  have hB1 : Below w.heap.size w w1 := S5.below0.trans (hb1.mono S5.size)
  clear S5 hb1
  repeat (first | (refine M0 ?_; first | refine SL ?_ | refine SB fun _ _ => ?_) | (refine M1 ?_; refine SC ?_) | (refine M2 ?_; refine SE ?_))
  refine XL.callr (fst := []) (cap := []) PlnR (ck rfl) rfl rfl rfl (fun w5 S5 => plan_r (hL.below (hB1.trans S5.toBelow)) ((ht1.below S5.below0).more S5.size)) (fun w5 x w2 S5 hR => ?_)
  obtain ⟨⟨⟨Ap, np, cp⟩, rfl, hp⟩, hb2⟩ := hR
  refine ⟨_, w2, S5.made hb2, ?_⟩
  have hB2 : Below w.heap.size w w2 := hB1.trans ((S5.below0.trans (hb2.mono S5.size)).mono hB1.size)
  clear S5 hb2 ht1
  rw [alT_l] at hp
  have hnp := hp.len (by decide)
  have hnp3 : np = 3 := hnp
  subst hnp3
  obtain ⟨ap, rfl, hlap⟩ := hp.addr (by decide) (by decide)
  simp only [svV]
  repeat (first | (refine M0 ?_; first | refine SL ?_ | refine SB fun _ _ => ?_) | (refine M1 ?_; refine SC ?_) | (refine M2 ?_; refine SE ?_))
  refine XL.callr (fst := []) (cap := []) TskR (ck rfl) rfl rfl rfl (fun w5 _ => task_r w5) (fun w5 x w3 S5 hR => ?_)
  obtain ⟨⟨v3, rfl, ht3⟩, hb3⟩ := hR
  refine ⟨_, w3, S5.made hb3, ?_⟩
  have hc3 : Below w2.heap.size w2 w3 := S5.below0.trans (hb3.mono S5.size)
  have hB3 : Below w.heap.size w w3 := hB2.trans (hc3.mono hB2.size)
  clear S5 hb3
  repeat (first | (refine M0 ?_; first | refine SL ?_ | refine SB fun _ _ => ?_) | (refine M1 ?_; refine SC ?_) | (refine M2 ?_; refine SE ?_))
  refine XL.callr (fst := []) (cap := []) NxtR (ck rfl) rfl rfl rfl (fun w5 S5 => next_r (hL.below (hB3.trans S5.toBelow)) ((ht3.below S5.below0).more S5.size)) (fun w5 x w4 S5 hR => ?_)
  obtain ⟨⟨⟨An, nn, cn⟩, rfl, hm⟩, hb4⟩ := hR
  refine ⟨_, w4, S5.made hb4, ?_⟩
  have hc4 : Below w3.heap.size w3 w4 := S5.below0.trans (hb4.mono S5.size)
  have hB4 : Below w.heap.size w w4 := hB3.trans (hc4.mono hB3.size)
  clear S5 hb4 ht3
  simp only [svV]
  repeat (first | (refine M0 ?_; first | refine SL ?_ | refine SB fun _ _ => ?_) | (refine M1 ?_; refine SC ?_) | (refine M2 ?_; refine SE ?_))
  refine XL.callr (fst := []) (cap := []) TskR (ck rfl) rfl rfl rfl (fun w5 _ => task_r w5) (fun w5 x w6 S5 hR => ?_)
  obtain ⟨⟨v6, rfl, ht6⟩, hb6⟩ := hR
  refine ⟨_, w6, S5.made hb6, ?_⟩
  have hc6 : Below w4.heap.size w4 w6 := S5.below0.trans (hb6.mono S5.size)
  have hB6 : Below w.heap.size w w6 := hB4.trans (hc6.mono hB4.size)
  clear S5 hb6
  have hst := fun {L : Lo} (w5 : World) (S5 : Sys w.heap.size w6 [] w5) => stage3_any (v := v6) (hL.below (hB6.trans S5.toBelow)) ((ht6.below S5.below0).more S5.size) alT_ch
  have hlt6 : ap.block < w6.heap.size := Nat.lt_of_lt_of_le hlap (Nat.le_trans hc3.size (Nat.le_trans hc4.size hc6.size))
  have hcl : ∀ j u, (sloC (1, 0, 19))[j]? = some u → w6.cell? ((ap.add (1 * 3)).add j) = some u := fun j u hj => by
    have h1 := hp.elem (k := 1) (a := (1, 0, 19)) rfl j u hj
    have hlt := hlap
    have h2 : ((ap.add (1 * 3)).add j).block < w2.heap.size := add_lt2 hlap
    exact (hc6.cell (p := (ap.add (1 * 3)).add j) (Nat.lt_of_lt_of_le h2 (Nat.le_trans hc3.size hc4.size))).trans ((hc4.cell (p := (ap.add (1 * 3)).add j) (Nat.lt_of_lt_of_le h2 hc3.size)).trans ((hc3.cell (p := (ap.add (1 * 3)).add j) h2).trans h1))
  repeat (first | (refine M0 ?_; first | refine SL ?_ | refine SB fun _ _ => ?_ | refine Y4 (Ev.call (f := 17) (ck rfl) rfl (fun w5 S5 => hst (L := []) w5 S5)) ?_ | refine Y4 (Ev.load_far_agg tok [.int .i64 1, .int .i64 0, .int .i64 19] rfl rfl rfl (add_lt hlt6) (fun e he => by cases he) hcl) ?_ | refine Y4 (Ev.sloEql rfl rfl) ?_) | (refine M1 ?_; refine SC ?_) | (refine M2 ?_; refine SE ?_))
  refine XL.callr (fst := []) (cap := []) LogR (ck rfl) rfl rfl rfl (fun w5 _ => log_r w5) (fun w5 x w7 S5 hR => ?_)
  obtain ⟨⟨⟨Ag, ng, cg⟩, rfl, hg⟩, hb7⟩ := hR
  refine ⟨_, w7, S5.made hb7, ?_⟩
  have hc7 : Below w6.heap.size w6 w7 := S5.below0.trans (hb7.mono S5.size)
  have hB7 : Below w.heap.size w w7 := hB6.trans (hc7.mono hB6.size)
  have hm7 : ListAt msgK w7 (Lt w4.heap.size) ⟨An, nn, cn⟩ alLg := (hm.below hc6).below (hc7.mono hc6.size)
  clear S5 hb7 hst
  have hms := fun {L : Lo} (w5 : World) (S5 : Sys w.heap.size w7 [] w5) => msgs_any (q := ⟨An, nn, cn⟩) (r := ⟨Ag, ng, cg⟩) (l := alLg) (w := w5) ((hm7.below (S5.below0.mono (Nat.le_trans hc6.size hc7.size))).mono fun j hj => Nat.lt_of_lt_of_le hj (Nat.le_trans hc6.size (Nat.le_trans hc7.size S5.size))) ((hg.below S5.below0).mono fun j hj => Nat.lt_of_lt_of_le hj S5.size)
  simp only [svV] at hms ⊢
  repeat (first | (refine M0 ?_; first | refine SL ?_ | refine SB fun _ _ => ?_ | refine Y4 (Ev.call (f := 18) (ck rfl) rfl (fun w5 S5 => hms (L := []) w5 S5)) ?_) | (refine M1 ?_; refine SC ?_) | (refine M2 ?_; refine SE ?_))
  refine XE.retg tok Tryz.results5 rfl (by simp only [and_self, and_true]) (fun w' S => ?_)
  exact ⟨rfl, hB7.trans S.toBelow⟩
end X
namespace Bs
open X
theorem taken_ge {b : Bas} {s : Sta} {ts : List Tick} {f : Flo} (h0 : runE b s ts = 0) (hf : f ∈ runF b s ts) {i : Nat} (hi : i < b.pols.length) : 0 ≤ f.t i := by
  obtain ⟨h1, _, h3⟩ := runE_0 h0
  obtain ⟨ho, hs⟩ := staOk_of h1
  unfold runF at hf
  rw [if_neg (by simp [h0])] at hf
  obtain ⟨k, hk, rfl⟩ := List.mem_map.1 hf
  have hk : k < ts.length := List.mem_range.1 hk
  have hsk := staAt_ok ho hs k fun j hj => h3 j (by omega)
  have he : stepE b (staAt b s ts k) (tk ts k) = 0 := h3 k hk
  unfold floAt
  rw [outF_0 he]
  have hv := (stepOk_of ho hsk he).v4
  have h4 := polV_bd ho hsk hv i (by omega)
  have h5 := takeOf_bd ho (v := polV b (staAt b s ts k) (vol4 b (staAt b s ts k) (tk ts k)) i) (by omega) hi (hsk.fil i hi)
  unfold Flo.t stepF
  simp only
  rw [rg_at hi]
  exact h5.1
theorem firstF_at {fs : List Flo} {i k : Nat} (hk : k < fs.length) (h : 0 < fs[k].t i) : 0 ≤ firstF fs i ∧ firstF fs i ≤ (k : Nat) := by
  unfold firstF
  cases hx : fs.findIdx? fun f => decide (0 < f.t i) with
  | none =>
    rw [List.findIdx?_eq_none_iff] at hx
    have := hx fs[k] (List.getElem_mem hk)
    simp at this
    omega
  | some j =>
    rw [List.findIdx?_eq_some_iff_getElem] at hx
    obtain ⟨hj, _, h2⟩ := hx
    simp only
    refine ⟨by omega, ?_⟩
    by_cases hjk : j ≤ k
    · omega
    · have := h2 k (by omega)
      simp at this
      omega
theorem foldl_min_le (l : List Int) : ∀ a : Int, l.foldl min a ≤ a ∧ ∀ n, n ∈ l → l.foldl min a ≤ n := by
  induction l with
  | nil => intro a; exact ⟨Int.le_refl a, fun n hn => by cases hn⟩
  | cons x r ih =>
    intro a
    obtain ⟨h1, h2⟩ := ih (min a x)
    rw [List.foldl_cons]
    refine ⟨by omega, fun n hn => ?_⟩
    rcases List.mem_cons.1 hn with rfl | hn
    · omega
    · exact h2 n hn
theorem loL_le {l : List Int} {n : Int} (h : n ∈ l) : ATk.loL l ≤ n := by
  cases l with
  | nil => cases h
  | cons a r =>
    unfold ATk.loL
    rcases List.mem_cons.1 h with rfl | h
    · exact (foldl_min_le r _).1
    · exact (foldl_min_le r a).2 n h
section
variable {y : ATk} {now : Int}
theorem planE_0 (h : y.planE now = 0) : AlOk y ∧ 0 ≤ now ∧ now ≤ 200000 := by
  have h1 : y.atE now = 0 := by
    unfold ATk.planE at h
    split at h
    · exact h
    · rename_i h2; simpa using h2
  unfold ATk.atE at h1
  split at h1
  · rename_i h2; exact absurd h1 h2
  rename_i h2
  split at h1
  · cases h1
  rename_i h3
  exact ⟨alOk_of (by simpa using h2), outB_f.1 (by simpa using h3)⟩
theorem plan_slot (h : y.planE now = 0) {m : Nat} {x : Int × Int × Int} (hx : (y.planL now)[m]? = some x) : ∃ j : Nat, x.1 = (j : Nat) ∧ j < y.twn.length ∧ (0 ≤ x.2.1 ∧ x.2.1 < y.cha.length) ∧ (0 ≤ x.2.2 ∧ x.2.2 ≤ 200000) ∧ (0 ≤ (y.ch x.2.1).delay ∧ (y.ch x.2.1).delay ≤ 50) ∧ x.2.2 + (y.ch x.2.1).delay + (y.tw j).lead ≤ ATk.loL (y.hits j) := by
  obtain ⟨ho, hn0, _⟩ := planE_0 h
  obtain ⟨h1, h2⟩ := ATk.planL_of h
  have hm : m < y.wet.length := by have := (List.getElem?_eq_some_iff.1 hx).1; omega
  obtain ⟨j, c, s, a1, a2, a3⟩ := h2 m hm
  rw [a2] at hx
  cases hx
  obtain ⟨b1, b2, b3⟩ := ATk.places_of a3
  have hj : j < y.twn.length := ATk.wet_lt (List.mem_of_getElem? a1)
  have hc := ho.tchs j hj c b1
  have hd := (ho.cha c.toNat (by omega)).1
  have e : ((c.toNat : Nat) : Int) = c := by omega
  rw [e] at hd
  unfold ATk.latest ATk.act at b3
  refine ⟨j, rfl, hj, hc, ⟨by simp only; omega, by simp only; omega⟩, hd, ?_⟩
  simp only
  omega
theorem plan_has (h : y.planE now = 0) {j : Nat} (hj : j < y.twn.length) {l : List Int} (hl : l ∈ y.flo) (hp : 0 ≤ at0 l (y.tw j).pol.toNat) : (∃ (m : Nat) (c s : Int), (y.planL now)[m]? = some ((j : Int), c, s)) ∧ ATk.loL (y.hits j) ≤ at0 l (y.tw j).pol.toNat + (y.tw j).travel := by
  have hm : at0 l (y.tw j).pol.toNat + (y.tw j).travel ∈ y.hits j := List.mem_map.2 ⟨l, List.mem_filter.2 ⟨hl, by simpa using hp⟩, rfl⟩
  refine ⟨?_, loL_le hm⟩
  have hw : j ∈ y.wet := List.mem_filter.2 ⟨List.mem_range.2 hj, by simpa using List.length_pos_of_mem hm⟩
  obtain ⟨k, hk, e⟩ := List.mem_iff_getElem.1 hw
  obtain ⟨_, h2⟩ := ATk.planL_of h
  obtain ⟨j', c, s, a1, a2, _⟩ := h2 k hk
  rw [List.getElem?_eq_getElem hk, e] at a1
  cases a1
  exact ⟨k, c, s, a2⟩
end
theorem warned {y : ATk} {now fr : Int} {b : Bas} {s : Sta} {hs : List (List Tick)} (h : y.planE now = 0) (hE : fromE b s fr hs = 0) (hf : y.flo = fromL b s fr hs) (hfr : 0 ≤ fr) {i : Nat} {ts : List Tick} (hi : hs[i]? = some ts) {j k : Nat} (hj : j < y.twn.length) (hk : k < (runF b s ts).length) (hp : (y.tw j).pol.toNat < b.pols.length) (hne : ((runF b s ts)[k]).t (y.tw j).pol.toNat ≠ 0) :
    (∃ (m : Nat) (c s' : Int), (y.planL now)[m]? = some ((j : Int), c, s')) ∧ ATk.loL (y.hits j) ≤ fr + (k : Nat) + (y.tw j).travel := by
  have hr : runE b s ts = 0 := by
    unfold fromE at hE
    split at hE
    · rename_i h1; exact absurd hE h1
    split at hE
    · cases hE
    split at hE
    · cases hE
    cases hx : hs.find? fun ts => decide (runE b s ts ≠ 0) with
    | none =>
      have := List.find?_eq_none.1 hx ts (List.mem_of_getElem? hi)
      simpa using this
    | some z =>
      rw [hx] at hE
      have := List.find?_some hx
      simp at this
      exact absurd hE this
  have h0 := taken_ge hr (List.getElem_mem hk) hp
  have h1 := firstF_at hk (i := (y.tw j).pol.toNat) (by omega)
  have hl : addF fr (floods b s ts) ∈ y.flo := by
    rw [hf]
    unfold fromL
    rw [if_neg (by simp [hE])]
    exact List.mem_map.2 ⟨ts, List.mem_of_getElem? hi, rfl⟩
  have e : at0 (addF fr (floods b s ts)) (y.tw j).pol.toNat = firstF (runF b s ts) (y.tw j).pol.toNat + fr := by
    unfold at0 addF floods
    rw [if_neg (by simp [hr])]
    simp [hp, h1.1]
  have h2 := plan_has h hj hl (by rw [e]; omega)
  rw [e] at h2
  exact ⟨h2.1, by omega⟩
end Bs
namespace X
open Go Go.RowKit Bs
def tikK : Kind Tick := ⟨51, 3, tickC, fun _ => [], tickC_len⟩
theorem tik_el : elemOk Tryz.prog 49 tikK.ty tikK.m 24 = true := by kernel_rfl
theorem tkk_el : elemOk Tryz.prog 48 tkkK.ty tkkK.m 24 = true := by kernel_rfl
theorem ListAt.tksA {w : World} {ok : Nat → Prop} {r : SV} {l : List Tick} (h : ListAt tikK w ok r l) : TksAt w ok r l := ⟨h.rd, h.max⟩
structure BehAt (w : World) (B : Nat) (vc vw : SV) (cha : List Cha) (es : List (SV × Twn)) : Prop where
  cha_ : ListAt chaK w (Lt B) vc cha
  twn_ : ListAt twnK w (Lt B) vw es
  cn : ∀ x, x ∈ cha → x.name.size ≤ 9223372036854775807
  tn : ∀ x, x ∈ es → x.2.name.size ≤ 9223372036854775807
  ml : ∀ x, x ∈ es → x.2.chs.length ≤ 5000000
theorem BehAt.below {w w' : World} {B : Nat} {vc vw : SV} {cha : List Cha} {es : List (SV × Twn)} (h : BehAt w B vc vw cha es) (hb : Below B w w') : BehAt w' B vc vw cha es := ⟨h.cha_.below hb, h.twn_.below hb, h.cn, h.tn, h.ml⟩
def behC (vc vw : SV) (now : Int) : List Value := [.slice vc.A vc.n vc.c, .slice vw.A vw.n vw.c, .int .i64 now]
def behV (vc vw : SV) (now : Int) : Value := .agg ⟨behC vc vw now⟩
def tkH (t : CTk) (sh i n : Nat) : List Tick := (List.range n).map fun d => ⟨t.v i (sh + d), at0 t.river (sh + d), t.out⟩
theorem tkH_s (t : CTk) (sh i n : Nat) : tkH t sh i (n + 1) = tkH t sh i n ++ [⟨t.v i (sh + n), at0 t.river (sh + n), t.out⟩] := by unfold tkH; rw [List.range_succ, List.map_append]; rfl
theorem tkH_len (t : CTk) (sh i n : Nat) : (tkH t sh i n).length = n := by simp [tkH]
def RunU (b : Bas) (s : Sta) (ts : List Tick) (x : Value) (new : List Held) : Prop := ∃ (r1 r2 : SV) (l2 : List FloI), x = .tuple ⟨[svV r1, svV r2, .int .i64 (runE b s ts)]⟩ ∧ new = [hList floK r2 l2] ∧ l2.map (·.f) = runF b s ts
theorem runU_made {p : BV} {b : Bas} {q r : SV} {s : Sta} {ts : List Tick} {w : World} (hL : Laid w) (hb : BasAt w w.heap.size p b) (hq : IntsAt w (Lt w.heap.size) q s.fil) (ht : TksAt w (Lt w.heap.size) r ts) :
    Calls Tryz.prog 10 #[basV p b, staV q s, svV r] w (Made w (RunU b s ts)) := (Run_any hL hb hq ht).mono fun e w' ⟨v, h1, r1, r2, l1, l2, h2, h3, h4, h5, h6, h7⟩ => ⟨v, [hList floK r2 l2], h1, ⟨r1, r2, l2, h2, rfl, h6⟩, fun x hx => by rw [List.mem_singleton.1 hx]; exact h4, h7⟩
theorem from_run {b : Bas} {s : Sta} {fr : Int} {hs : List (List Tick)} {ts : List Tick} (hE : fromE b s fr hs = 0) (hi : ts ∈ hs) : runE b s ts = 0 := by
  unfold fromE at hE
  split at hE
  · rename_i h1; exact absurd hE h1
  split at hE
  · cases hE
  split at hE
  · cases hE
  cases hx : hs.find? fun ts => decide (runE b s ts ≠ 0) with
  | none => simpa using List.find?_eq_none.1 hx ts hi
  | some z =>
    rw [hx] at hE
    have := List.find?_some hx
    simp at this
    exact absurd hE this
set_option maxHeartbeats 64000000 in
set_option maxRecDepth 20000 in
theorem TopWarned_any {v : CTV} {t : CTk} {tick now : Int} {vc vw : SV} {cha : List Cha} {es : List (SV × Twn)} {w : World} (hL : Laid w) (ht : CtAt w w.heap.size v t) (hb : BehAt w w.heap.size vc vw cha es) :
    Calls Tryz.prog 3 #[ctkV v t, .int .i64 tick, behV vc vw now] w fun e w' => e = .returned (.bool true) ∧ Below w.heap.size w w' := by
  have hpl := fun {L : Lo} (w5 : World) (S5 : Sys w.heap.size w L w5) => Plan_any (i := tick) (ht.sys S5)
  have haw := fun (w5 : World) (hB : Below w.heap.size w w5) => awake_any (hL.below hB)
  have hnh := ht.hn
  have hnr := ht.river.len
  have hnf := ht.fil.len
  have hn1 := ht.bas.n_eq
  have hn2 := ht.bas.n2_eq
  have hnc := hb.cha_.len (by decide)
  have hnw := hb.twn_.len (by decide)
  obtain ⟨⟨A, n, c, A2, n2, c2⟩, ⟨Af, nf, cf⟩, ⟨Ah, nh, ch⟩, ⟨Ar, nr, cr⟩⟩ := v
  obtain ⟨Ac, nc, cc⟩ := vc
  obtain ⟨Aw, nw, cw⟩ := vw
  simp only at hnh hnr hnf hn1 hn2 hnc hnw
  subst hnh hnr hnf hn1 hn2 hnc hnw
  simp only [ctkV, ctkC, behV, behC, plnV] at hpl ⊢
  obtain ⟨E1, hE1⟩ : ∃ a, a = t.plnE tick := ⟨_, rfl⟩
  rw [← hE1] at hpl
  refine enter Tryz.func3 rfl Tryz.ntmps3 rfl ?_; simp only [frame, Nat.zero_add, Nat.reduceAdd]
  repeat (first | (refine M0 ?_; first | refine SL ?_ | refine SB fun _ _ => ?_ | refine Y4 (Ev.call (f := 4) (ck rfl) rfl (fun w5 S5 => hpl w5 S5)) ?_) | (refine M1 ?_; refine SC ?_) | (refine M2 ?_; refine SE ?_))
  rename_i g3 hg3 g5 hg5 g7 hg7
  by_cases q2 : E1 = 0
  rotate_left
  · rw [show decide (E1 ≠ 0) = true from decide_eq_true q2]
    repeat (first | (refine M0 ?_; first | refine SL ?_ | refine SB fun _ _ => ?_ | refine Y4 (Ev.call (f := 5) (ck rfl) rfl (fun w5 S5 => haw w5 S5.toBelow)) ?_) | (refine M1 ?_; refine SC ?_) | (refine M2 ?_; refine SE ?_))
    refine XE.retg tok Tryz.results3 rfl (by simp only [and_self, and_true]) (fun w' S => ?_)
    exact ⟨rfl, S.toBelow⟩
  rw [show decide (E1 ≠ 0) = false from decide_eq_false (fun h => h q2)]
  have hct : ctE t = 0 ∧ outB tick t.from_ (t.from_ + t.last) = false := by
    rw [q2] at hE1
    unfold CTk.plnE at hE1
    split at hE1
    · rename_i h; exact absurd hE1.symm h
    rename_i h
    split at hE1
    · cases hE1
    rename_i h2
    exact ⟨by simpa using h, by simpa using h2⟩
  have ho := ctOk_of hct.1
  have htk := outB_f.1 hct.2
  have hm1 := ho.m1
  have hm8 := ho.m8
  have hr2 := ho.ok.n2
  repeat (first | (refine M0 ?_; first | refine SL ?_ | refine SB fun _ _ => ?_) | (refine M1 ?_; refine SC ?_) | (refine M2 ?_; refine SE ?_))
  rw [show decide ((t.m : Int) = 0) = false from decide_eq_false (by omega)]
  repeat (first | (refine M0 ?_; first | refine SL ?_ | refine SB fun _ _ => ?_) | (refine M1 ?_; refine SC ?_) | (refine M2 ?_; refine SE ?_))
  by_cases q3 : (30 : Int) < (t.river.length : Nat)
  · rw [show decide ((30 : Int) < (t.river.length : Nat)) = true from decide_eq_true q3]
    repeat (first | (refine M0 ?_; first | refine SL ?_ | refine SB fun _ _ => ?_ | refine Y4 (Ev.call (f := 5) (ck rfl) rfl (fun w5 S5 => haw w5 S5.toBelow)) ?_) | (refine M1 ?_; refine SC ?_) | (refine M2 ?_; refine SE ?_))
    refine XE.retg tok Tryz.results3 rfl (by simp only [and_self, and_true]) (fun w' S => ?_)
    exact ⟨rfl, S.toBelow⟩
  rw [show decide ((30 : Int) < (t.river.length : Nat)) = false from decide_eq_false q3]
  repeat (first | (refine M0 ?_; first | refine SL ?_ | refine SB fun _ _ => ?_) | (refine M1 ?_; refine SC ?_) | (refine M2 ?_; refine SE ?_))
  rw [show decide ((t.b.rows.length : Int) = 0) = false from decide_eq_false (by omega)]
  obtain ⟨ah, q0, eh, hlh, hc0, hi0⟩ := ht.hisAt (k := 0) (by omega)
  have eh' : Ah = some ah := eh
  subst eh'
  have hf0 : w.cell? ((ah.add (0 * 2)).add 0) = some (.int .i64 t.from_) := hc0 0 (.int .i64 t.from_) rfl
  repeat (first | (refine M0 ?_; first | refine SL ?_ | refine SB fun _ _ => ?_ | refine Y4 (Ev.load_old tok rfl rfl (add_lt2 hlh) hf0) ?_) | (refine M1 ?_; refine SC ?_) | (refine M2 ?_; refine SE ?_))
  have hfrm := ho.frm
  have hdl := ho.dly
  have hla : t.last = t.n - 1 - t.delay := rfl
  have hn1 := ho.n1
  have hn60 := ho.n60
  have hrl : t.river.length = t.n := ho.river
  repeat (first | (refine M0 ?_; first | refine SL ?_ | refine SB fun _ _ => ?_) | (refine M1 ?_; refine SC ?_) | (refine M2 ?_; refine SE ?_))
  obtain ⟨sh, hsh⟩ : ∃ sh : Nat, tick - t.from_ + t.delay = ((sh : Nat) : Int) := ⟨(tick - t.from_ + t.delay).toNat, by omega⟩
  rw [hsh]
  have hshn : sh < t.n := by omega
  rw [hrl]
  rw [show decide ((sh : Int) < 0) = false from decide_eq_false (by omega)]
  repeat (first | (refine M0 ?_; first | refine SL ?_ | refine SB fun _ _ => ?_) | (refine M1 ?_; refine SC ?_) | (refine M2 ?_; refine SE ?_))
  rw [show decide ((t.n : Int) ≤ (sh : Nat)) = false from decide_eq_false (by omega)]
  obtain ⟨ar, er, hlr⟩ := ht.bas.rows.addr (by simp only; omega)
  have er' : A = some ar := er
  subst er'
  obtain ⟨av, ev, hlv2, hcr⟩ := ht.river.at_ (by omega)
  have ev' : Ar = some av := ev
  subst ev'
  have hrw := ht.bas.rowLevel (i := 0) (by omega)
  have hlv := ho.ok.level 0 (by omega)
  repeat (first | (refine M0 ?_; first | refine SL ?_ | refine SB fun _ _ => ?_ | refine Y4 (Ev.load_old tok rfl rfl (add_lt2 hlr) hrw) ?_) | (refine M1 ?_; refine SC ?_) | (refine M2 ?_; refine SE ?_))
  refine XC.hint 5 1 (XC.hint 3 0 ?_)
  refine XC.loopk [3, 5, 9, 10] rfl (fun y : Nat × Int => [(11, .int .i64 y.2), (12, .int .i64 (y.1 : Nat))]) (fun _ => [(g5, cel 33 [.slice Ac cha.length cc, .slice Aw es.length cw, .int .i64 now]), (g3, cel 29 [.slice (some ar) t.b.rows.length c, .int .i64 t.b.leak, .int .i64 t.b.crest, .int .i64 t.b.over, .slice A2 t.b.pols.length c2, .slice Af t.fil.length cf, .slice (some ah) t.m ch, .slice (some av) t.n cr, .int .i64 t.out, .int .i64 t.limit, .int .i64 t.delay])]) (fun _ => w)
    (fun y => y.1 ≤ t.m ∧ (t.b.row 0).level ≤ y.2 ∧ y.2 ≤ 20000) (fun y => t.m - y.1) (0, (t.b.row 0).level) ⟨Nat.zero_le _, Int.le_refl _, hlv.2⟩ ZZSUB (fun _ h => h.pop (by assumption)) ?_
  rintro ⟨k, tp⟩ ⟨hk, ht1, ht2⟩
  simp only at hk ht1 ht2
  dsimp only [List.cons_append, List.nil_append]
  repeat (first | (refine M0 ?_; first | refine SL ?_ | refine SB fun _ _ => ?_) | (refine M1 ?_; refine SC ?_) | (refine M2 ?_; refine SE ?_))
  refine XC.cond _ rfl (fun h3 => ?_) (fun h3 => ?_)
  · have hkm : k < t.m := by have := of_decide_eq_true h3; omega
    obtain ⟨ah', ⟨qA, qn, qc⟩, eh, hlk, hck, hik⟩ := ht.hisAt (k := k) hkm
    cases Option.some.inj eh
    have hqn : qn = t.n := by have := hik.len; rw [ho.len k hkm] at this; exact this
    subst hqn
    have hcs : w.cell? ((ah.add (k * 2)).add 1) = some (.slice qA t.n qc) := hck 1 (.slice qA t.n qc) rfl
    repeat (first | (refine M0 ?_; first | refine SL ?_ | refine SB fun _ _ => ?_) | (refine M1 ?_; refine SC ?_) | (refine M2 ?_; refine SE ?_))
    refine XC.drawR _ [0, 1, 2, 3, 4, 5, 6, 7, 8, 9] [10] mixed (fun _ h => h) rfl (by kernel_rfl) ?_
    repeat (any_goals (first | (refine M0 ?_; first | refine SL ?_ | refine SB fun _ _ => ?_ | refine Y4 (Ev.load_old tok rfl rfl (add_lt2 hlk) hcs) ?_) | (refine M1 ?_; refine SC ?_) | (refine M2 ?_; first | refine SE ?_ | ((with_reducible refine atHeld ?_); refine z7 ?_)) | (refine M3 ?_; first | refine SG ?_ | refine SF ?_ | refine YF (Ev.load_old tok rfl rfl (add_lt2 hlk) hcs) ?_) | (refine M4 ?_; refine SR ?_) | (refine M5 ?_; first | exact M7 | refine YM ?_ | refine YN ?_ ?_)))
    rw [show decide (((t.n : Nat) : Int) ≠ ((t.n : Nat) : Int)) = false from decide_eq_false (fun h => h rfl)]
    obtain ⟨aq, eq_, hlq, hcq⟩ := hik.at_ (by rw [ho.len k hkm]; omega)
    have eq2 : qA = some aq := eq_
    subst eq2
    have hcv : w.cell? (aq.add (sh * 1)) = some (.int .i64 (t.v k sh)) := hcq sh (by rw [ho.len k hkm]; omega)
    have hval := ho.val k sh hkm hshn
    repeat (first | (refine M0 ?_; first | refine SL ?_ | refine SB fun _ _ => ?_ | refine Y4 (Ev.load_old tok rfl rfl (add_lt hlq) hcv) ?_ | refine Y4 (Ev.load_old tok rfl rfl (add_lt2 hlk) hcs) ?_) | (refine M1 ?_; refine SC ?_) | (refine M2 ?_; refine SE ?_))
    refine XE.round (s := (k, tp)) (k + 1, max tp (t.v k sh)) ⟨hkm, by simp only; omega, by simp only; omega⟩ (by simp only; omega) ZZSUB (fun _ h => h)
  have hkm : k = t.m := by have := of_decide_eq_false h3; omega
  subst hkm
  repeat (first | (refine M0 ?_; first | refine SL ?_ | refine SB fun _ _ => ?_) | (refine M1 ?_; refine SC ?_) | (refine M2 ?_; refine SE ?_))
  have htp : outB tp (t.b.row 0).level 20000 = false := outB_f.2 ⟨ht1, ht2⟩
  have hvol := fun {L : Lo} (w5 : World) (S5 : Sys w.heap.size w L w5) => Volume_any (l := tp) ((ht.sys S5).bas)
  rw [(vol_0 ho.chk htp).1] at hvol
  obtain ⟨vl, hvl⟩ : ∃ x, x = volN t.b tp := ⟨_, rfl⟩
  rw [← hvl] at hvol
  simp only [basV, basC] at hvol
  repeat (first | (refine M0 ?_; first | refine SL ?_ | refine SB fun _ _ => ?_ | refine Y4 (Ev.call (f := 6) (ck rfl) rfl (fun w5 S5 => hvol w5 S5)) ?_) | (refine M1 ?_; refine SC ?_) | (refine M2 ?_; refine SE ?_))
  rename_i gs hgs
  refine XC.hint 14 2 (XC.hint 5 1 (XC.hint 3 0 ?_))
  refine XC.rebase (List.Sublist.refl _) (fun W0 S0 => ?_)
  have hk0 : ∀ x, x ∈ [gs, g5, g3] → x < W0.heap.size := fun x hx => S0.keyLt x hx
  have hF0 : Fam W0 w.heap.size [gs, g5, g3] [⟨_, tkkK, .slice none 0 0, []⟩] [] := (Fam.start (ks := [gs, g5, g3]) S0.size).nil tkkK
  have hB0 := S0.toBelow
  clear S0 hvol hpl
  refine XC.loopk [3, 5, 9, 10, 14] rfl (fun y : Nat × World × Value × List (SV × List Tick) => [(15, y.2.2.1), (16, .int .i64 (y.1 : Nat))]) (fun _ => [(gs, cel 47 [.int .i64 vl, .slice Af t.fil.length cf]), (g5, cel 33 [.slice Ac cha.length cc, .slice Aw es.length cw, .int .i64 now]), (g3, cel 29 [.slice (some ar) t.b.rows.length c, .int .i64 t.b.leak, .int .i64 t.b.crest, .int .i64 t.b.over, .slice A2 t.b.pols.length c2, .slice Af t.fil.length cf, .slice (some ah) t.m ch, .slice (some av) t.n cr, .int .i64 t.out, .int .i64 t.limit, .int .i64 t.delay])]) (fun y => y.2.1)
    (fun y => y.1 ≤ t.m ∧ Below w.heap.size w y.2.1 ∧ Fam y.2.1 w.heap.size [gs, g5, g3] [⟨_, tkkK, y.2.2.1, y.2.2.2⟩] [] ∧ (∀ x, x ∈ [gs, g5, g3] → x < y.2.1.heap.size) ∧ y.2.2.2.map (·.2) = (List.range y.1).map fun i => tkH t sh i (t.n - sh)) (fun y => t.m - y.1) (0, W0, .slice none 0 0, []) ⟨Nat.zero_le _, hB0, hF0, hk0, rfl⟩ ZZSUB (fun _ h => h) ?_
  clear hF0 hk0 hB0
  rintro ⟨k, W, lv, hs⟩ ⟨hk, hBW, hF, hks, hhs⟩
  simp only at hk hBW hF hks hhs
  dsimp only [List.cons_append, List.nil_append]
  repeat (first | (refine M0 ?_; first | refine SL ?_ | refine SB fun _ _ => ?_) | (refine M1 ?_; refine SC ?_) | (refine M2 ?_; refine SE ?_))
  refine XC.cond _ rfl (fun h3 => ?_) (fun h3 => ?_)
  · have hkm : k < t.m := by have := of_decide_eq_true h3; omega
    have hhl : hs.length = k := by have := congrArg List.length hhs; simpa using this
    obtain ⟨ah', ⟨qA, qn, qc⟩, eh, hlk, hck, hik⟩ := ht.hisAt (k := k) hkm
    cases Option.some.inj eh
    have hqn : qn = t.n := by have := hik.len; rw [ho.len k hkm] at this; exact this
    subst hqn
    obtain ⟨aq, eq_, hlq, hcq⟩ := hik.at_ (by rw [ho.len k hkm]; omega)
    have eq2 : qA = some aq := eq_
    subst eq2
    have hcs : w.cell? ((ah.add (k * 2)).add 1) = some (.slice (some aq) t.n qc) := hck 1 (.slice (some aq) t.n qc) rfl
    repeat (first | (refine M0 ?_; first | refine SL ?_ | refine SB fun _ _ => ?_) | (refine M1 ?_; refine SC ?_) | (refine M2 ?_; refine SE ?_))
    refine XC.loopk [3, 5, 9, 10, 14, 15, 16] rfl (fun y : Nat × World × Value => [(17, y.2.2), (18, .int .i64 ((sh + y.1 : Nat) : Int))]) (fun _ => [(gs, cel 47 [.int .i64 vl, .slice Af t.fil.length cf]), (g5, cel 33 [.slice Ac cha.length cc, .slice Aw es.length cw, .int .i64 now]), (g3, cel 29 [.slice (some ar) t.b.rows.length c, .int .i64 t.b.leak, .int .i64 t.b.crest, .int .i64 t.b.over, .slice A2 t.b.pols.length c2, .slice Af t.fil.length cf, .slice (some ah) t.m ch, .slice (some av) t.n cr, .int .i64 t.out, .int .i64 t.limit, .int .i64 t.delay])]) (fun y => y.2.1)
      (fun y => sh + y.1 ≤ t.n ∧ Below w.heap.size w y.2.1 ∧ Fam y.2.1 w.heap.size [gs, g5, g3] [⟨_, tikK, y.2.2, tkH t sh k y.1⟩, ⟨_, tkkK, lv, hs⟩] [] ∧ (∀ x, x ∈ [gs, g5, g3] → x < y.2.1.heap.size)) (fun y => t.n - (sh + y.1)) (0, W, .slice none 0 0) ⟨by simp only; omega, hBW, hF.nil tikK, hks⟩ ZZSUB (fun _ h => h) ?_
    clear hF hks hBW
    rintro ⟨d, W1, lv1⟩ ⟨hd, hBW, hF, hks⟩
    simp only at hd hBW hF hks
    dsimp only [List.cons_append, List.nil_append]
    repeat (first | (refine M0 ?_; first | refine SL ?_ | refine SB fun _ _ => ?_) | (refine M1 ?_; refine SC ?_) | (refine M2 ?_; refine SE ?_))
    refine XC.cond _ rfl (fun h4 => ?_) (fun h4 => ?_)
    · have hdn : sh + d < t.n := by have := of_decide_eq_true h4; omega
      have hcvw : w.cell? (aq.add ((sh + d) * 1)) = some (.int .i64 (t.v k (sh + d))) := hcq (sh + d) (by rw [ho.len k hkm]; omega)
      have hcww : w.cell? (av.add ((sh + d) * 1)) = some (.int .i64 (at0 t.river (sh + d))) := hcr (sh + d) (by omega)
      have hcxw := hcs
      repeat (first | (refine M0 ?_; first | refine SL ?_ | refine SB fun _ _ => ?_) | (refine M1 ?_; refine SC ?_) | (refine M2 ?_; refine SE ?_))
      have hle0 := Nat.le_refl w.heap.size
      rw [← trunc_cell (n := w.heap.size) (by exact add_lt hlq)] at hcvw
      rw [← trunc_cell (n := w.heap.size) (by exact add_lt hlv2)] at hcww
      rw [← trunc_cell (n := w.heap.size) (by exact add_lt2 hlk)] at hcxw
      refine XC.drawRS (trunc w w.heap.size) [(g3, cel 29 [.slice (some ar) t.b.rows.length c, .int .i64 t.b.leak, .int .i64 t.b.crest, .int .i64 t.b.over, .slice A2 t.b.pols.length c2, .slice Af t.fil.length cf, .slice (some ah) t.m ch, .slice (some av) t.n cr, .int .i64 t.out, .int .i64 t.limit, .int .i64 t.delay])] [0, 1, 2, 3, 4, 5, 6, 7, 8, 9, 10, 11, 12, 13, 14, 15, 16, 17] [18, 19, 20] mixed (fun _ h => Sys.anchorT hBW h (fun x hx => by rw [List.mem_singleton.1 hx]; exact .tail _ (.tail _ (.head _))) (by simp) hle0) rfl (by kernel_rfl) ?_
      repeat (any_goals (first | (refine M0 ?_; first | refine SL ?_ | refine SB fun _ _ => ?_ | refine Y4 (Ev.load_old tok rfl rfl (add_lt2 hlk) hcxw) ?_ | refine Y4 (Ev.load_old tok rfl rfl (add_lt hlq) hcvw) ?_ | refine Y4 (Ev.load_old tok rfl rfl (add_lt hlv2) hcww) ?_) | (refine M1 ?_; refine SC ?_) | (refine M2 ?_; refine SE ?_) | (refine M3 ?_; first | refine SG ?_ | refine SF ?_ | refine YF (Ev.load_old tok rfl rfl (add_lt2 hlk) hcxw) ?_ | refine YF (Ev.load_old tok rfl rfl (add_lt hlq) hcvw) ?_ | refine YF (Ev.load_old tok rfl rfl (add_lt hlv2) hcww) ?_) | (refine M4 ?_; refine SR ?_) | (refine M5 ?_; first | exact M7 | refine YM ?_ | refine YN ?_ ?_)))
      refine XL.buildSlice tok rfl rfl rfl rfl rfl rfl rfl rfl rfl (fun gn hgn => ?_)
      repeat (first | (refine M0 ?_; first | refine SL ?_ | refine SB fun _ _ => ?_) | (refine M2 ?_; refine SE ?_) | (refine M3 ?_; first | refine SG ?_ | refine SF ?_) | (refine M4 ?_; refine SR ?_) | (refine M5 ?_; first | exact M7 | refine YM ?_ | refine YN ?_ ?_))
      refine z7 ?_
      repeat (any_goals (first | (refine M0 ?_; first | refine SL ?_ | refine SB fun _ _ => ?_) | (refine M1 ?_; refine SC ?_) | (refine M2 ?_; refine SE ?_) | (refine M3 ?_; first | refine SG ?_ | refine SF ?_) | (refine M4 ?_; refine SR ?_) | (refine M5 ?_; first | exact M7 | refine YM ?_ | refine YN ?_ ?_)))
      refine XL.push (hL := fun e he => by simp only [List.mem_cons, List.not_mem_nil, or_false] at he; rcases he with rfl | rfl | rfl | rfl <;> first | exact .inr hgn | simp) (K := tikK) (a := ⟨t.v k (sh + d), at0 t.river (sh + d), t.out⟩) (wE := w) 0 tik_el (by decide) rfl rfl rfl hF rfl hks hBW (Nat.le_refl _) rfl (by rw [tkH_len]; omega) (by decide) (fun x hx => by cases hx) (fun W3 u3 hF3 hB3 hk3 => ?_)
      simp only [List.set_cons_zero] at hF3
      repeat (first | (refine M0 ?_; first | refine SL ?_ | refine SB fun _ _ => ?_) | (refine M2 ?_; refine SE ?_) | (refine M3 ?_; first | refine SG ?_ | refine SF ?_) | (refine M4 ?_; refine SR ?_) | (refine M5 ?_; first | exact M7 | refine YM ?_ | refine YN ?_ ?_))
      refine z7 ?_
      repeat (any_goals (first | (refine M0 ?_; first | refine SL ?_ | refine SB fun _ _ => ?_) | (refine M1 ?_; refine SC ?_) | (refine M2 ?_; refine SE ?_) | (refine M3 ?_; first | refine SG ?_ | refine SF ?_) | (refine M4 ?_; refine SR ?_) | (refine M5 ?_; first | exact M7 | refine YM ?_ | refine YN ?_ ?_)))
      refine XE.roundW (s := (d, W1, lv1)) (fun w7 S7 => ⟨(d + 1, w7, u3), ⟨by simp only; omega, hB3.trans S7.toBelow, ?_, fun x hx => Nat.lt_of_lt_of_le (hk3 x (List.mem_append_right _ hx)) S7.size⟩, by simp only; omega, ZZSUB, S7.rebase (List.sublist_cons_self _ _)⟩)
      simp only [tkH_s]
      exact (hF3.sys S7 fun e he => .inl (List.mem_append_left _ (List.mem_map.2 ⟨e, he, rfl⟩))).add (ks' := [gs, g5, g3]) fun x hx => .inl (List.mem_append_right _ hx)
    have hdn : sh + d = t.n := by have := of_decide_eq_false h4; omega
    repeat (first | (refine M0 ?_; first | refine SL ?_ | refine SB fun _ _ => ?_) | (refine M1 ?_; refine SC ?_) | (refine M2 ?_; refine SE ?_))
    have hd2 : d = t.n - sh := by omega
    subst hd2
    obtain ⟨⟨Al, nl, cl⟩, rfl, hnl⟩ := hF.sv (.head _)
    have hFz : Fam W1 w.heap.size [gs, g5, g3] [⟨_, tkkK, lv, hs⟩] [hTksA ⟨Al, nl, cl⟩ (tkH t sh k (t.n - sh))] := ((hF.freeze).hold (x := hTksA ⟨Al, nl, cl⟩ (tkH t sh k (t.n - sh))) (ListAt.tksA (show ListAt tikK W1 _ ⟨Al, nl, cl⟩ (tkH t sh k (t.n - sh)) from hF.freeze.held (hList tikK ⟨Al, nl, cl⟩ (tkH t sh k (t.n - sh))) (.head _))) fun _ h => h).forget fun x hx => by rw [List.mem_singleton.1 hx]; exact .head _
    simp only [svV]
    repeat (first | (refine M0 ?_; first | refine SL ?_ | refine SB fun _ _ => ?_) | (refine M1 ?_; refine SC ?_) | (refine M2 ?_; refine SE ?_))
    refine XL.buildSlice tok rfl rfl rfl rfl rfl rfl rfl rfl rfl (fun gn hgn => ?_)
    repeat (first | (refine M0 ?_; first | refine SL ?_ | refine SB fun _ _ => ?_) | (refine M1 ?_; refine SC ?_) | (refine M2 ?_; refine SE ?_))
    refine XL.push (hL := fun e he => by simp only [List.mem_cons, List.not_mem_nil, or_false] at he; rcases he with rfl | rfl | rfl | rfl <;> first | exact .inr hgn | simp) (K := tkkK) (a := (⟨Al, nl, cl⟩, tkH t sh k (t.n - sh))) (wE := w) 0 tkk_el (by decide) rfl rfl rfl hFz rfl hks hBW (Nat.le_refl _) rfl (by omega) (by decide) (fun x hx => hx) (fun W3 u3 hF3 hB3 hk3 => ?_)
    simp only [List.set_cons_zero] at hF3
    repeat (first | (refine M0 ?_; first | refine SL ?_ | refine SB fun _ _ => ?_) | (refine M1 ?_; refine SC ?_) | (refine M2 ?_; refine SE ?_))
    refine XE.roundW (s := (k, W, lv, hs)) (fun w7 S7 => ⟨(k + 1, w7, u3, hs ++ [(⟨Al, nl, cl⟩, tkH t sh k (t.n - sh))]), ⟨hkm, hB3.trans S7.toBelow, ?_, fun x hx => Nat.lt_of_lt_of_le (hk3 x (List.mem_append_right _ hx)) S7.size, ?_⟩, by simp only; omega, ZZSUB, S7.rebase (List.sublist_cons_self _ _)⟩)
    · exact ((hF3.sys S7 fun e he => .inl (List.mem_append_left _ (List.mem_map.2 ⟨e, he, rfl⟩))).add (ks' := [gs, g5, g3]) fun x hx => .inl (List.mem_append_right _ hx)).forget fun x hx => by cases hx
    · simp only [List.map_append, hhs, List.range_succ, List.map_cons, List.map_nil]
  have hkm : k = t.m := by have := of_decide_eq_false h3; omega
  subst hkm
  repeat (first | (refine M0 ?_; first | refine SL ?_ | refine SB fun _ _ => ?_) | (refine M1 ?_; refine SC ?_) | (refine M2 ?_; refine SE ?_))
  obtain ⟨⟨Al, nl, cl⟩, rfl, hnl⟩ := hF.sv (.head _)
  have hnl2 : nl = hs.length := hnl
  clear hnl
  subst hnl2
  have hFz := hF.freeze
  have hfr := fun (w5 : World) (hB5 : Below w.heap.size w w5) (h5 : ListAt tkkK w5 (Lt w5.heap.size) ⟨Al, hs.length, cl⟩ hs) => from_made (s := ⟨vl, t.fil⟩) (fr := t.from_ + (sh : Nat)) (hL.below hB5) (((ht.below hB5).more hB5.size).bas) (((ht.below hB5).more hB5.size).fil) h5
  simp only [basV, basC, staV, staC, svV] at hfr ⊢
  refine XL.callF (FromV t.b ⟨vl, t.fil⟩ (t.from_ + (sh : Nat)) (hs.map (·.2))) (ck rfl) rfl rfl hFz hks hBW (fun w5 S5 hF5 hB5 => hfr w5 hB5 ((hF5.get (.head _)).mono fun j hj => hj.2)) (fun w6 u new hR hF6 hB6 hk6 => ?_) fun e he => .inl (List.mem_map.2 ⟨e, he, rfl⟩)
  obtain ⟨⟨Ad, nd, cd⟩, fs, rfl, rfl, hfs⟩ := hR
  obtain ⟨E2, hE2⟩ : ∃ a, a = fromE t.b ⟨vl, t.fil⟩ (t.from_ + (sh : Nat)) (hs.map (·.2)) := ⟨_, rfl⟩
  rw [← hE2]
  simp only [svV]
  repeat (first | (refine M0 ?_; first | refine SL ?_ | refine SB fun _ _ => ?_) | (refine M1 ?_; refine SC ?_) | (refine M2 ?_; refine SE ?_))
  refine XC.cond _ rfl (fun h4 => ?_) (fun h4 => ?_)
  · repeat (first | (refine M0 ?_; first | refine SL ?_ | refine SB fun _ _ => ?_ | refine Y4 (Ev.call (f := 5) (ck rfl) rfl (fun w5 S5 => haw w5 (hB6.trans S5.toBelow))) ?_) | (refine M1 ?_; refine SC ?_) | (refine M2 ?_; refine SE ?_))
    refine XE.retg tok Tryz.results3 rfl (by simp only [and_self, and_true]) (fun w' S => ?_)
    exact ⟨rfl, hB6.trans S.toBelow⟩
  have hE0 : fromE t.b ⟨vl, t.fil⟩ (t.from_ + (sh : Nat)) (hs.map (·.2)) = 0 := by rw [← hE2]; simpa using h4
  obtain ⟨y, hy⟩ : ∃ y : ATk, y = ⟨(t.b.pols.length : Nat), cha, es.map (·.2), fs.map (·.2)⟩ := ⟨_, rfl⟩
  have hyp : y.pol = (t.b.pols.length : Nat) := by rw [hy]
  have hyl : ∀ x, x ∈ y.twn → x.chs.length ≤ 5000000 := fun x hx => by
    rw [hy] at hx
    obtain ⟨e, he, rfl⟩ := List.mem_map.1 hx
    exact hb.ml e he
  have hAt : ∀ w5, Below w.heap.size w w5 → ListAt lisK w5 (Lt w5.heap.size) ⟨Ad, nd, cd⟩ fs → AtAt w5 w5.heap.size ⟨⟨Ac, cha.length, cc⟩, ⟨Aw, es.length, cw⟩, ⟨Ad, nd, cd⟩, es, fs⟩ y := fun w5 hB5 h5 => by
    have hb5 := hb.below hB5
    rw [hy]
    exact ⟨hb5.cha_.mono fun j hj => Nat.lt_of_lt_of_le hj hB5.size, hb5.twn_.mono fun j hj => Nat.lt_of_lt_of_le hj hB5.size, rfl, h5, rfl, hb.cn, fun x hx => by
      obtain ⟨e, he, rfl⟩ := List.mem_map.1 hx
      exact hb.tn e he⟩
  have hpm := fun (w5 : World) (hB5 : Below w.heap.size w w5) (h5 : ListAt lisK w5 (Lt w5.heap.size) ⟨Ad, nd, cd⟩ fs) => plan_made (now := now) (hL.below hB5) (hAt w5 hB5 h5) hyl
  have hbm := fun (w5 : World) (hB5 : Below w.heap.size w w5) (h5 : ListAt lisK w5 (Lt w5.heap.size) ⟨Ad, nd, cd⟩ fs) => blocked_made (now := now) (hL.below hB5) (hAt w5 hB5 h5) hyl
  simp only [atkV, atkC, hyp] at hpm hbm
  repeat (first | (refine M0 ?_; first | refine SL ?_ | refine SB fun _ _ => ?_) | (refine M1 ?_; refine SC ?_) | (refine M2 ?_; refine SE ?_))
  rename_i g20 hg20
  refine XL.callF (PlanV y now) (ck rfl) rfl rfl hF6 hk6 hB6 (fun w5 S5 hF5 hB5 => hpm w5 hB5 ((show ListAt lisK w5 _ ⟨Ad, nd, cd⟩ fs from hF5.get (x := hList lisK ⟨Ad, nd, cd⟩ fs) (.head _)).mono fun j hj => hj.2)) (fun w7 u new hR hF7 hB7 hk7 => ?_)
  rcases hR with ⟨hne, rfl, rfl⟩ | ⟨hP0, ⟨Ap, np, cp⟩, rfl, rfl⟩
  · obtain ⟨E3, hE3⟩ : ∃ a, a = y.planE now := ⟨_, rfl⟩
    rw [← hE3] at hne ⊢
    repeat (first | (refine M0 ?_; first | refine SL ?_ | refine SB fun _ _ => ?_) | (refine M1 ?_; refine SC ?_) | (refine M2 ?_; refine SE ?_))
    rw [show decide (E3 ≠ 0) = true from decide_eq_true hne]
    repeat (first | (refine M0 ?_; first | refine SL ?_ | refine SB fun _ _ => ?_) | (refine M1 ?_; refine SC ?_) | (refine M2 ?_; refine SE ?_))
    refine XL.callF (BlkV y now) (ck rfl) rfl rfl hF7 hk7 hB7 (fun w5 S5 hF5 hB5 => hbm w5 hB5 ((show ListAt lisK w5 _ ⟨Ad, nd, cd⟩ fs from hF5.get (x := hList lisK ⟨Ad, nd, cd⟩ fs) (.head _)).mono fun j hj => hj.2)) (fun w8 u new hR hF8 hB8 hk8 => ?_)
    obtain ⟨⟨Ab, nb, cb⟩, fd, rfl, rfl, hfd⟩ := hR
    simp only [svV]
    repeat (first | (refine M0 ?_; first | refine SL ?_ | refine SB fun _ _ => ?_) | (refine M1 ?_; refine SC ?_) | (refine M2 ?_; refine SE ?_))
    by_cases q9 : E3 = 9
    rotate_left
    · rw [show decide (E3 ≠ 9) = true from decide_eq_true q9]
      repeat (first | (refine M0 ?_; first | refine SL ?_ | refine SB fun _ _ => ?_ | refine Y4 (Ev.call (f := 5) (ck rfl) rfl (fun w5 S5 => haw w5 (hB8.trans S5.toBelow))) ?_) | (refine M1 ?_; refine SC ?_) | (refine M2 ?_; refine SE ?_))
      refine XE.retg tok Tryz.results3 rfl (by simp only [and_self, and_true]) (fun w' S => ?_)
      exact ⟨rfl, hB8.trans S.toBelow⟩
    rw [show decide (E3 ≠ 9) = false from decide_eq_false fun h => h q9]
    obtain ⟨hat0, hfd0⟩ := hfd (by rw [← hE3]; exact q9)
    have hnb : nb = fd.length := by
      have := (show IntsAt w8 _ ⟨Ab, nb, cb⟩ (fd.map fun i => ((i : Nat) : Int)) from hF8.get (x := hInts ⟨Ab, nb, cb⟩ (fd.map fun i => ((i : Nat) : Int))) (.head _)).len
      rwa [List.length_map] at this
    have hnp : (0 : Int) < ((nb : Nat) : Int) := by
      have := List.length_pos_iff.2 hfd0
      omega
    rw [hat0]
    repeat (first | (refine M0 ?_; first | refine SL ?_ | refine SB fun _ _ => ?_) | (refine M1 ?_; refine SC ?_) | (refine M2 ?_; refine SE ?_))
    rw [show decide ((0 : Int) < ((nb : Nat) : Int)) = true from decide_eq_true hnp]
    repeat (first | (refine M0 ?_; first | refine SL ?_ | refine SB fun _ _ => ?_ | refine Y4 (Ev.call (f := 5) (ck rfl) rfl (fun w5 S5 => haw w5 (hB8.trans S5.toBelow))) ?_) | (refine M1 ?_; refine SC ?_) | (refine M2 ?_; refine SE ?_))
    refine XE.retg tok Tryz.results3 rfl (by simp only [and_self, and_true]) (fun w' S => ?_)
    exact ⟨rfl, hB8.trans S.toBelow⟩
  simp only [svV]
  repeat (first | (refine M0 ?_; first | refine SL ?_ | refine SB fun _ _ => ?_) | (refine M1 ?_; refine SC ?_) | (refine M2 ?_; refine SE ?_))
  refine XC.rebase (List.sublist_cons_self _ _) (fun W8 S8 => ?_)
  have hFa : Fam W8 w.heap.size [gs, g5, g3] [] [hList sloK ⟨Ap, np, cp⟩ (y.planL now), hList tkkK ⟨Al, hs.length, cl⟩ hs] := ((hF7.sys S8 fun e he => .inl (List.mem_append_left _ (List.mem_map.2 ⟨e, he, rfl⟩))).add (ks' := [gs, g5, g3]) fun x hx => .inl (List.mem_append_left _ (.tail _ hx))).forget fun x hx => by
    simp only [List.mem_cons, List.not_mem_nil, or_false] at hx
    rcases hx with rfl | rfl <;> simp
  have hka : ∀ x, x ∈ [gs, g5, g3] → x < W8.heap.size := fun x hx => Nat.lt_of_lt_of_le (hk7 x (List.mem_append_left _ (.tail _ hx))) S8.size
  have hB8 := hB7.trans S8.toBelow
  clear hF7 hk7 hF6 hk6 hpm hbm hFz hF hfr
  have hhl : hs.length = t.m := by have := congrArg List.length hhs; simpa using this
  refine XC.hint 14 2 (XC.hint 5 1 (XC.hint 3 0 ?_))
  refine XC.loopk [3, 5, 9, 10, 14, 15, 21] rfl (fun z : Nat × World => [(24, .int .i64 (z.1 : Nat))]) (fun _ => [(gs, cel 47 [.int .i64 vl, .slice Af t.fil.length cf]), (g5, cel 33 [.slice Ac cha.length cc, .slice Aw es.length cw, .int .i64 now]), (g3, cel 29 [.slice (some ar) t.b.rows.length c, .int .i64 t.b.leak, .int .i64 t.b.crest, .int .i64 t.b.over, .slice A2 t.b.pols.length c2, .slice Af t.fil.length cf, .slice (some ah) t.m ch, .slice (some av) t.n cr, .int .i64 t.out, .int .i64 t.limit, .int .i64 t.delay])]) (fun z => z.2)
    (fun z => z.1 ≤ hs.length ∧ Below w.heap.size w z.2 ∧ Fam z.2 w.heap.size [gs, g5, g3] [] [hList sloK ⟨Ap, np, cp⟩ (y.planL now), hList tkkK ⟨Al, hs.length, cl⟩ hs] ∧ (∀ x, x ∈ [gs, g5, g3] → x < z.2.heap.size)) (fun z => hs.length - z.1) (0, W8) ⟨Nat.zero_le _, hB8, hFa, hka⟩ ZZSUB (fun _ h => h) ?_
  clear hFa hka hB7 hB8
  rintro ⟨i, W⟩ ⟨hi, hBW, hF, hks⟩
  simp only at hi hBW hF hks
  dsimp only [List.cons_append, List.nil_append]
  repeat (first | (refine M0 ?_; first | refine SL ?_ | refine SB fun _ _ => ?_) | (refine M1 ?_; refine SC ?_) | (refine M2 ?_; refine SE ?_))
  refine XC.cond _ rfl (fun h5 => ?_) (fun h5 => ?_)
  rotate_left
  · repeat (first | (refine M0 ?_; first | refine SL ?_ | refine SB fun _ _ => ?_ | refine Y4 (Ev.call (f := 5) (ck rfl) rfl (fun w5 S5 => haw w5 (hBW.trans S5.toBelow))) ?_) | (refine M1 ?_; refine SC ?_) | (refine M2 ?_; refine SE ?_))
    refine XE.retg tok Tryz.results3 rfl (by simp only [and_self, and_true]) (fun w' S => ?_)
    exact ⟨rfl, hBW.trans S.toBelow⟩
  have hil : i < hs.length := by have := of_decide_eq_true h5; omega
  obtain ⟨al, eal, hfal⟩ := ListAt.addr (A := Al) (n := hs.length) (c := cl) (show ListAt tkkK W _ ⟨Al, hs.length, cl⟩ hs from hF.held (hList tkkK ⟨Al, hs.length, cl⟩ hs) (.tail _ (.head _))) (by decide) (by omega)
  subst eal
  have hLa : ListAt tkkK W (Free W w.heap.size [gs, g5, g3] []) ⟨some al, hs.length, cl⟩ hs := hF.held (hList tkkK ⟨some al, hs.length, cl⟩ hs) (.tail _ (.head _))
  obtain ⟨⟨⟨Ak, nk, ckk⟩, ts⟩, hsi⟩ : ∃ x, hs[i]? = some x := ⟨hs[i], List.getElem?_eq_getElem hil⟩
  have hce := hLa.elem hsi 0 (.slice Ak nk ckk) rfl
  rw [add_add, Nat.add_zero] at hce
  have hti : TksAt W (Free W w.heap.size [gs, g5, g3] []) ⟨Ak, nk, ckk⟩ ts := hLa.ins _ (List.mem_of_getElem? hsi) (hTksA ⟨Ak, nk, ckk⟩ ts) (List.mem_singleton.2 rfl)
  have hnk : nk = ts.length := hti.len
  subst hnk
  have hlal : al.block < W.heap.size := hfal.2.1
  have hnal : ∀ e, e ∈ [(gs, cel 47 [.int .i64 vl, .slice Af t.fil.length cf]), (g5, cel 33 [.slice Ac cha.length cc, .slice Aw es.length cw, .int .i64 now]), (g3, cel 29 [.slice (some ar) t.b.rows.length c, .int .i64 t.b.leak, .int .i64 t.b.crest, .int .i64 t.b.over, .slice A2 t.b.pols.length c2, .slice Af t.fil.length cf, .slice (some ah) t.m ch, .slice (some av) t.n cr, .int .i64 t.out, .int .i64 t.limit, .int .i64 t.delay])] → e.1 ≠ (al.add (i * 1)).block := fun e he e1 => by
    rw [add_block] at e1
    exact hfal.2.2.1 (e1 ▸ List.mem_map_of_mem (f := Prod.fst) he)
  have htsm : ts ∈ hs.map (·.2) := List.mem_map.2 ⟨_, List.mem_of_getElem? hsi, rfl⟩
  have hr0 : runE t.b ⟨vl, t.fil⟩ ts = 0 := from_run hE0 htsm
  have hrn := fun (w5 : World) (hB5 : Below w.heap.size w w5) (h5 : TksAt w5 (Lt w5.heap.size) ⟨Ak, ts.length, ckk⟩ ts) => runU_made (s := ⟨vl, t.fil⟩) (hL.below hB5) (((ht.below hB5).more hB5.size).bas) (((ht.below hB5).more hB5.size).fil) h5
  simp only [basV, basC, staV, staC, svV] at hrn
  repeat (first | (refine M0 ?_; first | refine SL ?_ | refine SB fun _ _ => ?_) | (refine M1 ?_; refine SC ?_) | (refine M2 ?_; refine SE ?_))
  refine XC.drawR _ [0, 1, 2, 3, 4, 5, 6] [7, 8, 9, 10, 11, 12, 13, 14] mixed (fun _ h => h) rfl (by kernel_rfl) ?_
  repeat (any_goals (first | (refine M0 ?_; first | refine SL ?_ | refine SB fun _ _ => ?_ | refine Y4 (Ev.load_far tok rfl rfl (add_lt hlal) hnal hce) ?_) | (refine M1 ?_; refine SC ?_) | (refine M2 ?_; refine SE ?_) | (refine M3 ?_; first | refine SG ?_ | refine SF ?_ | refine YF (Ev.load_far tok rfl rfl (add_lt hlal) hnal hce) ?_) | (refine M4 ?_; refine SR ?_) | (refine M5 ?_; first | exact M7 | refine YM ?_ | refine YN ?_ ?_)))
  refine XL.callFW (wE := w) (RunU t.b ⟨vl, t.fil⟩ ts) (ck rfl) rfl rfl hF hks hBW (fun w5 S5 hF5 hB5 => hrn w5 hB5 (TksAt.mono (show TksAt w5 _ ⟨Ak, ts.length, ckk⟩ ts from (show ListAt tkkK w5 _ ⟨some al, hs.length, cl⟩ hs from hF5.held (hList tkkK ⟨some al, hs.length, cl⟩ hs) (.tail _ (.head _))).ins _ (List.mem_of_getElem? hsi) (hTksA ⟨Ak, ts.length, ckk⟩ ts) (List.mem_singleton.2 rfl)) fun j hj => hj.2.1)) (fun w2 x new hR hF2 hB2 hk2 S2 => ?_) fun e he => .inl (List.mem_map.2 ⟨e, he, rfl⟩)
  obtain ⟨r1, ⟨Aw2, nw2, cw2⟩, fl, rfl, rfl, hfl⟩ := hR
  rw [hr0]
  simp only [svV]
  repeat (first | (refine M0 ?_; first | refine SL ?_ | refine SB fun _ _ => ?_) | (refine M2 ?_; refine SE ?_) | (refine M3 ?_; first | refine SG ?_ | refine SF ?_) | (refine M4 ?_; refine SR ?_) | (refine M5 ?_; first | exact M7 | refine YM ?_ | refine YN ?_ ?_))
  refine z5 ?_
  repeat (any_goals (first | (refine M0 ?_; first | refine SL ?_ | refine SB fun _ _ => ?_) | (refine M1 ?_; refine SC ?_) | (refine M2 ?_; first | refine SE ?_ | refine z5 ?_ | refine z6 ?_) | (refine M3 ?_; first | refine SG ?_ | refine SF ?_) | (refine M4 ?_; refine SR ?_) | (refine M5 ?_; first | exact M7 | refine YM ?_ | refine YN ?_ ?_)))
  have hF3 : Fam w2 w.heap.size [gs, g5, g3] [] [hList floK ⟨Aw2, nw2, cw2⟩ fl, hList sloK ⟨Ap, np, cp⟩ (y.planL now), hList tkkK ⟨some al, hs.length, cl⟩ hs] := hF2.add fun x hx => .inl (List.mem_append_right _ hx)
  clear hF2 hk2
  have hce2 : w2.cell? (al.add (i * 1)) = some (.slice Ak ts.length ckk) := (S2.farCell (a := al.add (i * 1)) (add_lt hlal) hnal).trans hce
  have hlal2 : al.block < w2.heap.size := Nat.lt_of_lt_of_le hlal S2.size
  have hLf : ListAt floK w2 (Free w2 w.heap.size [gs, g5, g3] []) ⟨Aw2, nw2, cw2⟩ fl := hF3.held (hList floK ⟨Aw2, nw2, cw2⟩ fl) (.head _)
  have hLp : ListAt sloK w2 (Free w2 w.heap.size [gs, g5, g3] []) ⟨Ap, np, cp⟩ (y.planL now) := hF3.held (hList sloK ⟨Ap, np, cp⟩ (y.planL now)) (.tail _ (.head _))
  have hnf2 : nw2 = fl.length := hLf.len (by decide)
  have hnp2 : np = (y.planL now).length := hLp.len (by decide)
  have hflr : (runF t.b ⟨vl, t.fil⟩ ts).length = ts.length := by unfold runF; rw [if_neg (by simp [hr0])]; simp
  have hfll : fl.length = ts.length := by have := congrArg List.length hfl; rw [List.length_map, hflr] at this; exact this
  obtain ⟨hO, hn0, hn2⟩ := planE_0 hP0
  have hpl8 : (y.planL now).length ≤ 8 := by
    have h8 : y.wet.length ≤ y.twn.length := by unfold ATk.wet; exact Nat.le_trans (List.length_filter_le _ _) (by simp)
    rw [(ATk.planL_of hP0).1]
    have := hO.n8
    omega
  have hytl : y.twn.length = es.length := by rw [hy]; simp
  have hes8 : es.length ≤ 8 := by have := hO.n8; omega
  have htl : ts.length ≤ 300 := by
    exact (runE_0 hr0).2.1
  have hfrr : ∀ k, k < ts.length → t.from_ + (sh : Nat) + (k : Nat) ≤ 300000 := fun k hk => by omega
  repeat (first | (refine M0 ?_; first | refine SL ?_ | refine SB fun _ _ => ?_ | refine Y4 (Ev.load_far tok rfl rfl (add_lt hlal2) hnal hce2) ?_) | (refine M1 ?_; refine SC ?_) | (refine M2 ?_; refine SE ?_))
  rw [hnf2, hfll, show decide (((ts.length : Nat) : Int) ≠ ((ts.length : Nat) : Int)) = false from decide_eq_false (fun h => h rfl)]
  repeat (first | (refine M0 ?_; first | refine SL ?_ | refine SB fun _ _ => ?_) | (refine M1 ?_; refine SC ?_) | (refine M2 ?_; refine SE ?_))
  refine XC.hint 14 2 (XC.hint 5 1 (XC.hint 3 0 ?_))
  refine XC.loopk [3, 5, 9, 10, 14, 15, 21, 24, 26] rfl (fun k : Nat => [(28, .int .i64 (k : Nat))]) (fun _ => [(gs, cel 47 [.int .i64 vl, .slice Af t.fil.length cf]), (g5, cel 33 [.slice Ac cha.length cc, .slice Aw es.length cw, .int .i64 now]), (g3, cel 29 [.slice (some ar) t.b.rows.length c, .int .i64 t.b.leak, .int .i64 t.b.crest, .int .i64 t.b.over, .slice A2 t.b.pols.length c2, .slice Af t.fil.length cf, .slice (some ah) t.m ch, .slice (some av) t.n cr, .int .i64 t.out, .int .i64 t.limit, .int .i64 t.delay])]) (fun _ => w2) (fun k => k ≤ ts.length) (fun k => ts.length - k) 0 (Nat.zero_le _) ZZSUB (fun _ h => h) ?_
  intro k hk
  dsimp only [List.cons_append, List.nil_append]
  repeat (first | (refine M0 ?_; first | refine SL ?_ | refine SB fun _ _ => ?_) | (refine M1 ?_; refine SC ?_) | (refine M2 ?_; refine SE ?_))
  refine XC.cond _ rfl (fun h6 => ?_) (fun h6 => ?_)
  rotate_left
  · repeat (first | (refine M0 ?_; first | refine SL ?_ | refine SB fun _ _ => ?_) | (refine M1 ?_; refine SC ?_) | (refine M2 ?_; refine SE ?_))
    refine XE.roundW (s := (i, W)) (fun w9 S9 => ⟨(i + 1, w9), ⟨hil, hB2.trans S9.toBelow, ?_, fun x hx => S9.keyLt x hx⟩, by simp only; omega, ZZSUB, S9.rebase (List.Sublist.refl _)⟩)
    exact (hF3.sys S9 fun e he => .inl (List.mem_map.2 ⟨e, he, rfl⟩)).forget fun x hx => .tail _ hx
  have hkl : k < ts.length := by have := of_decide_eq_true h6; omega
  repeat (first | (refine M0 ?_; first | refine SL ?_ | refine SB fun _ _ => ?_) | (refine M1 ?_; refine SC ?_) | (refine M2 ?_; refine SE ?_))
  refine XC.loopk [3, 5, 9, 10, 14, 15, 21, 24, 26, 28] rfl (fun j : Nat => [(29, .int .i64 (j : Nat))]) (fun _ => [(gs, cel 47 [.int .i64 vl, .slice Af t.fil.length cf]), (g5, cel 33 [.slice Ac cha.length cc, .slice Aw es.length cw, .int .i64 now]), (g3, cel 29 [.slice (some ar) t.b.rows.length c, .int .i64 t.b.leak, .int .i64 t.b.crest, .int .i64 t.b.over, .slice A2 t.b.pols.length c2, .slice Af t.fil.length cf, .slice (some ah) t.m ch, .slice (some av) t.n cr, .int .i64 t.out, .int .i64 t.limit, .int .i64 t.delay])]) (fun _ => w2) (fun j => j ≤ es.length) (fun j => es.length - j) 0 (Nat.zero_le _) ZZSUB (fun _ h => h) ?_
  intro j hj
  dsimp only [List.cons_append, List.nil_append]
  repeat (first | (refine M0 ?_; first | refine SL ?_ | refine SB fun _ _ => ?_) | (refine M1 ?_; refine SC ?_) | (refine M2 ?_; refine SE ?_))
  refine XC.cond _ rfl (fun h7 => ?_) (fun h7 => ?_)
  rotate_left
  · repeat (first | (refine M0 ?_; first | refine SL ?_ | refine SB fun _ _ => ?_) | (refine M1 ?_; refine SC ?_) | (refine M2 ?_; refine SE ?_))
    exact XE.round (s := k) (k + 1) hkl (by omega) ZZSUB (fun _ h => h)
  have hjl : j < es.length := by have := of_decide_eq_true h7; omega
  obtain ⟨⟨⟨qtA, qtn, qtc⟩, ⟨nm, pl, tr, ld, chs⟩⟩, hej⟩ : ∃ x, es[j]? = some x := ⟨es[j], List.getElem?_eq_getElem hjl⟩
  have hty : y.tw j = ⟨nm, pl, tr, ld, chs⟩ := by
    rw [hy]
    unfold ATk.tw
    simp only
    rw [List.getElem?_map, hej]; rfl
  obtain ⟨atw, eat, hlat⟩ := ListAt.addr (A := Aw) (n := es.length) (c := cw) hb.twn_ (by decide) (by omega)
  subst eat
  have hlat' : atw.block < w.heap.size := hlat
  have htc : ∀ u v, (twnC ⟨qtA, qtn, qtc⟩ ⟨nm, pl, tr, ld, chs⟩)[u]? = some v → w2.cell? ((atw.add (j * 5)).add u) = some v := fun u v hu => (hB2.cell (p := (atw.add (j * 5)).add u) (add_lt2 hlat')).trans (hb.twn_.elem hej u v hu)
  simp only [twnC] at htc
  have htp := hO.tpol j (by omega)
  have htr := hO.ttr j (by omega)
  rw [hty, hyp] at htp
  rw [hty] at htr
  simp only at htp htr
  obtain ⟨p, rfl⟩ : ∃ p : Nat, pl = (p : Nat) := ⟨pl.toNat, by omega⟩
  obtain ⟨af, eaf, hfaf⟩ := ListAt.addr (A := Aw2) (n := nw2) (c := cw2) hLf (by decide) (by omega)
  subst eaf
  obtain ⟨⟨fk, ⟨Atk, ntk, ctk⟩⟩, hfk⟩ : ∃ x, fl[k]? = some x := ⟨fl[k]'(by omega), List.getElem?_eq_getElem (by omega)⟩
  have hfkr : (runF t.b ⟨vl, t.fil⟩ ts)[k]? = some fk := by rw [← hfl, List.getElem?_map, hfk]; rfl
  have hfkm : fk ∈ runF t.b ⟨vl, t.fil⟩ ts := List.mem_of_getElem? hfkr
  have hfkl := flo_len hfkm
  have hcf := hLf.elem hfk 4 (.slice Atk ntk ctk) rfl
  have hif : IntsAt w2 (Free w2 w.heap.size [gs, g5, g3] []) ⟨Atk, ntk, ctk⟩ fk.taken := hLf.ins _ (List.mem_of_getElem? hfk) (hInts ⟨Atk, ntk, ctk⟩ fk.taken) (List.mem_singleton.2 rfl)
  have hntk : ntk = t.b.pols.length := by have := hif.len; rw [hfkl] at this; exact this
  subst hntk
  obtain ⟨atk, eatk, hfat, hct2⟩ := hif.at_ (by omega)
  have eatk' : Atk = some atk := eatk
  subst eatk'
  have hcp := hct2 p (by omega)
  have hlaf : af.block < w2.heap.size := hfaf.2.1
  have hlatk : atk.block < w2.heap.size := hfat.2.1
  have hnaf : ∀ x, x ∈ [gs, g5, g3] → x ≠ af.block := fun x hx e => hfaf.2.2.1 (e ▸ hx)
  have hnatk : ∀ x, x ∈ [gs, g5, g3] → x ≠ atk.block := fun x hx e => hfat.2.2.1 (e ▸ hx)
  have hcz : at0 fk.taken p = fk.t p := rfl
  repeat (first | (refine M0 ?_; first | refine SL ?_ | refine SB fun _ _ => ?_ | refine Y4 (Ev.load_old_agg tok [.string nm, .int .i64 (p : Nat), .int .i64 tr, .int .i64 ld, .slice qtA qtn qtc] rfl rfl rfl (add_lt hlat') htc) ?_) | (refine M1 ?_; refine SC ?_) | (refine M2 ?_; refine SE ?_))
  rename_i g30 hg30
  have hnaf2 : ∀ e, e ∈ (g30, cel 67 [.string nm, .int .i64 (p : Nat), .int .i64 tr, .int .i64 ld, .slice qtA qtn qtc]) :: [(gs, cel 47 [.int .i64 vl, .slice Af t.fil.length cf]), (g5, cel 33 [.slice Ac cha.length cc, .slice (some atw) es.length cw, .int .i64 now]), (g3, cel 29 [.slice (some ar) t.b.rows.length c, .int .i64 t.b.leak, .int .i64 t.b.crest, .int .i64 t.b.over, .slice A2 t.b.pols.length c2, .slice Af t.fil.length cf, .slice (some ah) t.m ch, .slice (some av) t.n cr, .int .i64 t.out, .int .i64 t.limit, .int .i64 t.delay])] → e.1 ≠ ((af.add (k * 5)).add 4).block := fun e he e1 => by
    rw [add_block, add_block] at e1
    rcases List.mem_cons.1 he with rfl | he
    · simp only at e1; omega
    · exact hnaf _ (List.mem_map_of_mem (f := Prod.fst) he) e1
  have hnatk2 : ∀ e, e ∈ (g30, cel 67 [.string nm, .int .i64 (p : Nat), .int .i64 tr, .int .i64 ld, .slice qtA qtn qtc]) :: [(gs, cel 47 [.int .i64 vl, .slice Af t.fil.length cf]), (g5, cel 33 [.slice Ac cha.length cc, .slice (some atw) es.length cw, .int .i64 now]), (g3, cel 29 [.slice (some ar) t.b.rows.length c, .int .i64 t.b.leak, .int .i64 t.b.crest, .int .i64 t.b.over, .slice A2 t.b.pols.length c2, .slice Af t.fil.length cf, .slice (some ah) t.m ch, .slice (some av) t.n cr, .int .i64 t.out, .int .i64 t.limit, .int .i64 t.delay])] → e.1 ≠ (atk.add (p * 1)).block := fun e he e1 => by
    rw [add_block] at e1
    rcases List.mem_cons.1 he with rfl | he
    · simp only at e1; omega
    · exact hnatk _ (List.mem_map_of_mem (f := Prod.fst) he) e1
  refine XC.drawR _ [0, 1, 2, 3, 4, 5, 6, 7, 8, 9, 10, 11, 12, 13, 14, 15, 16, 17, 18, 19, 20, 21, 22, 23, 24] [25] mixed (fun _ h => h) rfl (by kernel_rfl) ?_
  repeat (any_goals (first | (refine M0 ?_; first | refine SL ?_ | refine SB fun _ _ => ?_ | refine Y4 (Ev.load_far tok rfl rfl (add_lt2 hlaf) hnaf2 hcf) ?_ | refine Y4 (Ev.load_far tok rfl rfl (add_lt hlatk) hnatk2 hcp) ?_) | (refine M1 ?_; refine SC ?_) | (refine M2 ?_; first | refine SE ?_ | ((with_reducible refine atHeld ?_); refine z7 ?_)) | (refine M3 ?_; first | refine SG ?_ | refine SF ?_ | refine YF (Ev.load_far tok rfl rfl (add_lt2 hlaf) hnaf2 hcf) ?_ | refine YF (Ev.load_far tok rfl rfl (add_lt hlatk) hnatk2 hcp) ?_) | (refine M4 ?_; refine SR ?_) | (refine M5 ?_; first | exact M7 | refine YM ?_ | refine YN ?_ ?_)))
  rw [show decide (((t.b.pols.length : Nat) : Int) ≤ ((p : Nat) : Int)) = false from decide_eq_false (by omega)]
  repeat (any_goals (first | (refine M0 ?_; first | refine SL ?_ | refine SB fun _ _ => ?_ | refine Y4 (Ev.load_far tok rfl rfl (add_lt2 hlaf) hnaf2 hcf) ?_ | refine Y4 (Ev.load_far tok rfl rfl (add_lt hlatk) hnatk2 hcp) ?_) | (refine M1 ?_; refine SC ?_) | (refine M2 ?_; first | refine SE ?_ | ((with_reducible refine atHeld ?_); refine z7 ?_)) | (refine M3 ?_; first | refine SG ?_ | refine SF ?_ | refine YF (Ev.load_far tok rfl rfl (add_lt2 hlaf) hnaf2 hcf) ?_ | refine YF (Ev.load_far tok rfl rfl (add_lt hlatk) hnatk2 hcp) ?_) | (refine M4 ?_; refine SR ?_) | (refine M5 ?_; first | exact M7 | refine YM ?_ | refine YN ?_ ?_)))
  refine XC.cond _ rfl (fun h8 => ?_) (fun h8 => ?_)
  · repeat (first | (refine M0 ?_; first | refine SL ?_ | refine SB fun _ _ => ?_) | (refine M1 ?_; refine SC ?_) | (refine M2 ?_; refine SE ?_))
    exact XE.round (s := j) (j + 1) hjl (by omega) ZZSUB (fun _ h => h.pop (by assumption))
  have hne : fk.t p ≠ 0 := by rw [← hcz]; simpa using h8
  have hkr : k < (runF t.b ⟨vl, t.fil⟩ ts).length := by omega
  have hfke : (runF t.b ⟨vl, t.fil⟩ ts)[k] = fk := by rw [List.getElem?_eq_getElem hkr] at hfkr; exact Option.some.inj hfkr
  have hpn : (y.tw j).pol.toNat = p := by rw [hty]; simp
  have hwn := warned (y := y) (now := now) (fr := t.from_ + (sh : Nat)) (s := ⟨vl, t.fil⟩) (i := i) (ts := ts) (j := j) (k := k) hP0 hE0 (by rw [hy]; exact hfs) (by omega) (by rw [List.getElem?_map, hsi]; rfl) (by omega) hkr (by rw [hpn]; omega) (by rw [hpn, hfke]; exact hne)
  rw [hty] at hwn
  obtain ⟨⟨m0, c0', s0', hm0⟩, hwl⟩ := hwn
  simp only at hwl
  have hm0l := (List.getElem?_eq_some_iff.1 hm0).1
  subst hnp2
  obtain ⟨ap, eap, hfap⟩ := ListAt.addr (A := Ap) (n := (y.planL now).length) (c := cp) hLp (by decide) (by omega)
  subst eap
  have hlap : ap.block < w2.heap.size := hfap.2.1
  have hnap : ∀ x, x ∈ [gs, g5, g3] → x ≠ ap.block := fun x hx e => hfap.2.2.1 (e ▸ hx)
  have hnap2 : ∀ (m u : Nat), ∀ e, e ∈ (g30, cel 67 [.string nm, .int .i64 (p : Nat), .int .i64 tr, .int .i64 ld, .slice qtA qtn qtc]) :: [(gs, cel 47 [.int .i64 vl, .slice Af t.fil.length cf]), (g5, cel 33 [.slice Ac cha.length cc, .slice (some atw) es.length cw, .int .i64 now]), (g3, cel 29 [.slice (some ar) t.b.rows.length c, .int .i64 t.b.leak, .int .i64 t.b.crest, .int .i64 t.b.over, .slice A2 t.b.pols.length c2, .slice Af t.fil.length cf, .slice (some ah) t.m ch, .slice (some av) t.n cr, .int .i64 t.out, .int .i64 t.limit, .int .i64 t.delay])] → e.1 ≠ ((ap.add (m * 3)).add u).block := fun m u e he e1 => by
    rw [add_block, add_block] at e1
    rcases List.mem_cons.1 he with rfl | he
    · simp only at e1; omega
    · exact hnap _ (List.mem_map_of_mem (f := Prod.fst) he) e1
  repeat (first | (refine M0 ?_; first | refine SL ?_ | refine SB fun _ _ => ?_) | (refine M1 ?_; refine SC ?_) | (refine M2 ?_; refine SE ?_))
  refine XC.hint 30 3 (XC.hint 14 2 (XC.hint 5 1 (XC.hint 3 0 ?_)))
  refine XC.loopk [3, 5, 9, 10, 14, 15, 21, 24, 26, 28, 29, 30] rfl (fun z : Nat × Int => [(31, .int .i64 z.2), (32, .int .i64 (z.1 : Nat))]) (fun _ => (g30, cel 67 [.string nm, .int .i64 (p : Nat), .int .i64 tr, .int .i64 ld, .slice qtA qtn qtc]) :: [(gs, cel 47 [.int .i64 vl, .slice Af t.fil.length cf]), (g5, cel 33 [.slice Ac cha.length cc, .slice (some atw) es.length cw, .int .i64 now]), (g3, cel 29 [.slice (some ar) t.b.rows.length c, .int .i64 t.b.leak, .int .i64 t.b.crest, .int .i64 t.b.over, .slice A2 t.b.pols.length c2, .slice Af t.fil.length cf, .slice (some ah) t.m ch, .slice (some av) t.n cr, .int .i64 t.out, .int .i64 t.limit, .int .i64 t.delay])]) (fun _ => w2)
    (fun z => z.1 ≤ (y.planL now).length ∧ ((z.2 = -1 ∧ ∀ m', m' < z.1 → ∀ x, (y.planL now)[m']? = some x → x.1 ≠ (j : Nat)) ∨ (0 ≤ z.2 ∧ z.2 ≤ 200050 ∧ z.2 + ld ≤ ATk.loL (y.hits j)))) (fun z => (y.planL now).length - z.1) (0, -1) ⟨Nat.zero_le _, .inl ⟨rfl, fun m' hm' => absurd hm' (Nat.not_lt_zero _)⟩⟩ ZZSUB (fun _ h => h) ?_
  rintro ⟨m, hd⟩ ⟨hm, hinv⟩
  simp only at hm hinv
  dsimp only [List.cons_append, List.nil_append]
  repeat (first | (refine M0 ?_; first | refine SL ?_ | refine SB fun _ _ => ?_) | (refine M1 ?_; refine SC ?_) | (refine M2 ?_; refine SE ?_))
  refine XC.cond _ rfl (fun h9 => ?_) (fun h9 => ?_)
  rotate_left
  · have hmm : m = (y.planL now).length := by have := of_decide_eq_false h9; omega
    have hhd : 0 ≤ hd ∧ hd ≤ 200050 ∧ hd + ld ≤ ATk.loL (y.hits j) := by
      rcases hinv with ⟨_, h⟩ | h
      · exact absurd rfl (h m0 (by omega) _ hm0)
      · exact h
    clear hinv
    repeat (first | (refine M0 ?_; first | refine SL ?_ | refine SB fun _ _ => ?_) | (refine M1 ?_; refine SC ?_) | (refine M2 ?_; refine SE ?_))
    rw [show decide (hd < 0) = false from decide_eq_false (by omega)]
    repeat (first | (refine M0 ?_; first | refine SL ?_ | refine SB fun _ _ => ?_) | (refine M1 ?_; refine SC ?_) | (refine M2 ?_; refine SE ?_))
    rw [show decide (t.from_ + ((sh : Nat) : Int) + ((k : Nat) : Int) + tr < hd + ld) = false from decide_eq_false (by omega)]
    repeat (first | (refine M0 ?_; first | refine SL ?_ | refine SB fun _ _ => ?_) | (refine M1 ?_; refine SC ?_) | (refine M2 ?_; refine SE ?_))
    exact XE.round (s := j) (j + 1) hjl (by omega) ZZSUB (fun _ h => h.pop (by assumption))
  have hml : m < (y.planL now).length := by have := of_decide_eq_true h9; omega
  obtain ⟨⟨j', c', s'⟩, hx⟩ : ∃ x, (y.planL now)[m]? = some x := ⟨(y.planL now)[m], List.getElem?_eq_getElem hml⟩
  obtain ⟨jn, e1, hjn, hcr', hsr, hdr, hle⟩ := plan_slot hP0 hx
  simp only at e1 hcr' hsr hdr hle
  subst e1
  have hs0 := hLp.elem hx 0 (.int .i64 (jn : Nat)) rfl
  have hs1 := hLp.elem hx 1 (.int .i64 c') rfl
  have hs2 := hLp.elem hx 2 (.int .i64 s') rfl
  repeat (first | (refine M0 ?_; first | refine SL ?_ | refine SB fun _ _ => ?_) | (refine M1 ?_; refine SC ?_) | (refine M2 ?_; refine SE ?_))
  refine XC.drawR _ [0, 1, 2, 3, 4, 5, 6, 7, 8, 9, 10, 11, 12, 13, 14, 15, 16, 17, 18, 19, 20, 21, 22, 23, 24] [25] mixed (fun _ h => h) rfl (by kernel_rfl) ?_
  repeat (any_goals (first | (refine M0 ?_; first | refine SL ?_ | refine SB fun _ _ => ?_ | refine Y4 (Ev.load_far tok rfl rfl (add_lt2 hlap) (hnap2 m 0) hs0) ?_ | refine Y4 (Ev.load_far tok rfl rfl (add_lt2 hlap) (hnap2 m 1) hs1) ?_) | (refine M1 ?_; refine SC ?_) | (refine M2 ?_; first | refine SE ?_ | ((with_reducible refine atHeld ?_); refine z7 ?_)) | (refine M3 ?_; first | refine SG ?_ | refine SF ?_ | refine YF (Ev.load_far tok rfl rfl (add_lt2 hlap) (hnap2 m 0) hs0) ?_ | refine YF (Ev.load_far tok rfl rfl (add_lt2 hlap) (hnap2 m 1) hs1) ?_) | (refine M4 ?_; refine SR ?_) | (refine M5 ?_; first | exact M7 | refine YM ?_ | refine YN ?_ ?_)))
  by_cases hjj : jn = j
  · rw [show decide (((jn : Nat) : Int) = ((j : Nat) : Int)) = true from decide_eq_true (by omega)]
    repeat (any_goals (first | (refine M0 ?_; first | refine SL ?_ | refine SB fun _ _ => ?_ | refine Y4 (Ev.load_far tok rfl rfl (add_lt2 hlap) (hnap2 m 0) hs0) ?_ | refine Y4 (Ev.load_far tok rfl rfl (add_lt2 hlap) (hnap2 m 1) hs1) ?_) | (refine M1 ?_; refine SC ?_) | (refine M2 ?_; first | refine SE ?_ | ((with_reducible refine atHeld ?_); refine z7 ?_)) | (refine M3 ?_; first | refine SG ?_ | refine SF ?_ | refine YF (Ev.load_far tok rfl rfl (add_lt2 hlap) (hnap2 m 0) hs0) ?_ | refine YF (Ev.load_far tok rfl rfl (add_lt2 hlap) (hnap2 m 1) hs1) ?_) | (refine M4 ?_; refine SR ?_) | (refine M5 ?_; first | exact M7 | refine YM ?_ | refine YN ?_ ?_)))
    have hyc : y.cha = cha := by rw [hy]
    rw [hyc] at hcr'
    rw [show decide (0 ≤ c') = true from decide_eq_true hcr'.1]
    repeat (any_goals (first | (refine M0 ?_; first | refine SL ?_ | refine SB fun _ _ => ?_ | refine Y4 (Ev.load_far tok rfl rfl (add_lt2 hlap) (hnap2 m 1) hs1) ?_) | (refine M1 ?_; refine SC ?_) | (refine M2 ?_; first | refine SE ?_ | ((with_reducible refine atHeld ?_); refine z7 ?_)) | (refine M3 ?_; first | refine SG ?_ | refine SF ?_ | refine YF (Ev.load_far tok rfl rfl (add_lt2 hlap) (hnap2 m 1) hs1) ?_) | (refine M4 ?_; refine SR ?_) | (refine M5 ?_; first | exact M7 | refine YM ?_ | refine YN ?_ ?_)))
    rw [show decide (c' < ((cha.length : Nat) : Int)) = true from decide_eq_true hcr'.2]
    obtain ⟨cn, rfl⟩ : ∃ cn : Nat, c' = (cn : Nat) := ⟨c'.toNat, by omega⟩
    have hcn : cn < cha.length := by omega
    have hych : y.ch (cn : Nat) = cha[cn] := by unfold ATk.ch; rw [hyc]; simp [hcn]
    rw [hych] at hdr hle
    obtain ⟨ac, eac, hlac⟩ := ListAt.addr (A := Ac) (n := cha.length) (c := cc) hb.cha_ (by decide) (by omega)
    subst eac
    have hlac' : ac.block < w.heap.size := hlac
    have hcd : w2.cell? ((ac.add (cn * 3)).add 1) = some (.int .i64 cha[cn].delay) := (hB2.cell (p := (ac.add (cn * 3)).add 1) (add_lt2 hlac')).trans (hb.cha_.elem (List.getElem?_eq_getElem hcn) 1 _ rfl)
    repeat (any_goals (first | (refine M0 ?_; first | refine SL ?_ | refine SB fun _ _ => ?_ | refine Y4 (Ev.load_far tok rfl rfl (add_lt2 hlap) (hnap2 m 1) hs1) ?_) | (refine M1 ?_; refine SC ?_) | (refine M2 ?_; first | refine SE ?_ | ((with_reducible refine atHeld ?_); refine z7 ?_)) | (refine M3 ?_; first | refine SG ?_ | refine SF ?_ | refine YF (Ev.load_far tok rfl rfl (add_lt2 hlap) (hnap2 m 1) hs1) ?_) | (refine M4 ?_; refine SR ?_) | (refine M5 ?_; first | exact M7 | refine YM ?_ | refine YN ?_ ?_)))
    repeat (first | (refine M0 ?_; first | refine SL ?_ | refine SB fun _ _ => ?_) | (refine M1 ?_; refine SC ?_) | (refine M2 ?_; refine SE ?_))
    refine XC.drawR _ [0, 1, 2, 3, 4, 5, 6, 7, 8, 9, 10, 11, 12, 13, 14, 15] [16] mixed (fun _ h => h) rfl (by kernel_rfl) ?_
    repeat (any_goals (first | (refine M0 ?_; first | refine SL ?_ | refine SB fun _ _ => ?_ | refine Y4 (Ev.load_far tok rfl rfl (add_lt2 hlap) (hnap2 m 1) hs1) ?_ | refine Y4 (Ev.load_far tok rfl rfl (add_lt2 hlap) (hnap2 m 2) hs2) ?_ | refine Y4 (Ev.load_old tok rfl rfl (add_lt2 hlac') hcd) ?_) | (refine M1 ?_; refine SC ?_) | (refine M2 ?_; first | refine SE ?_ | ((with_reducible refine atHeld ?_); refine z7 ?_)) | (refine M3 ?_; first | refine SG ?_ | refine SF ?_ | refine YF (Ev.load_far tok rfl rfl (add_lt2 hlap) (hnap2 m 1) hs1) ?_ | refine YF (Ev.load_far tok rfl rfl (add_lt2 hlap) (hnap2 m 2) hs2) ?_ | refine YF (Ev.load_old tok rfl rfl (add_lt2 hlac') hcd) ?_) | (refine M4 ?_; refine SR ?_) | (refine M5 ?_; first | exact M7 | refine YM ?_ | refine YN ?_ ?_)))
    subst hjj
    rw [hty] at hle
    simp only at hle
    exact XE.round (s := (m, hd)) (m + 1, s' + cha[cn].delay) ⟨hml, .inr ⟨by simp only; omega, by simp only; omega, hle⟩⟩ (by simp only; omega) ZZSUB (fun _ h => h)
  rw [show decide (((jn : Nat) : Int) = ((j : Nat) : Int)) = false from decide_eq_false (by omega)]
  repeat (any_goals (first | (refine M0 ?_; first | refine SL ?_ | refine SB fun _ _ => ?_ | refine Y4 (Ev.load_far tok rfl rfl (add_lt2 hlap) (hnap2 m 0) hs0) ?_ | refine Y4 (Ev.load_far tok rfl rfl (add_lt2 hlap) (hnap2 m 1) hs1) ?_) | (refine M1 ?_; refine SC ?_) | (refine M2 ?_; first | refine SE ?_ | ((with_reducible refine atHeld ?_); refine z7 ?_)) | (refine M3 ?_; first | refine SG ?_ | refine SF ?_ | refine YF (Ev.load_far tok rfl rfl (add_lt2 hlap) (hnap2 m 0) hs0) ?_ | refine YF (Ev.load_far tok rfl rfl (add_lt2 hlap) (hnap2 m 1) hs1) ?_) | (refine M4 ?_; refine SR ?_) | (refine M5 ?_; first | exact M7 | refine YM ?_ | refine YN ?_ ?_)))
  refine XE.round (s := (m, hd)) (m + 1, hd) ⟨hml, ?_⟩ (by simp only; omega) ZZSUB (fun _ h => h)
  rcases hinv with ⟨h1, h2⟩ | h
  · refine .inl ⟨h1, fun m' hm' x hx' => ?_⟩
    rcases Nat.lt_or_ge m' m with h3 | h3
    · exact h2 m' h3 x hx'
    · have h4 : m' = m := by simp only at hm'; omega
      subst h4
      rw [hx] at hx'
      cases hx'
      simp only
      omega
  · exact .inr h
end X
end Go.Proofs.YtgddcbpbadookaaGreatDoor
