/-
  From the reading of the arguments to how they lie in memory: tasks, choices, plans; what the bound of a second form gives (runoff).
-/
import Derived.Test.YtmckmlmfilmiaaaPart2
import Derived.Test.YtmckmlmfilmiaaaPart4
import Derived.Test.YtmckmlmfilmiaaaRows
import Derived.Deep.Slices
import Derived.Deep.DeepHandedRow
import Derived.JoinedCond
import Derived.DataShut
import Derived.OpenShut
import Derived.Test.YtmckmlmfilmiaaaPart3
import Derived.Test.YtmckmlmfilmiaaaPart5
set_option linter.unusedVariables false
set_option linter.unusedSimpArgs false
namespace Go.Proofs.Ytmckmlmfilmiaaa.X
open Go Go.RowKit Go.ChangeShapes Go.WideShapes Go.Proofs.Ytmckmlmfilmiaaa.Bs
set_option linter.unusedVariables false
section
variable {H : Type} {enc : TypeId × Value → H} {P : Program} {w : World} {base : Nat} {spare : Nat → Bool} {held : Bool} {fuel : Nat} {cs : List Value} {x : DataW H × List MemPlace}
end
section
variable {H : Type} {enc : TypeId × Value → H} {w : World} {base : Nat} {spare : Nat → Bool} {held : Bool} {fuel : Nat} {cs : List Value} {x : DataW H × List MemPlace}
end
theorem own : ownKnob Try.prog.godebug = none := by kernel_rfl
theorem laidOut : laidOutB Try.prog = true := by kernel_rfl
end Go.Proofs.Ytmckmlmfilmiaaa.X
/-
  Small arrays and lists of small numbers that came in (runoff).
-/
namespace Go.Proofs.Ytmckmlmfilmiaaa.X
open Go Go.RowKit Go.ChangeShapes Go.WideShapes Go.Proofs.Ytmckmlmfilmiaaa.Bs
set_option linter.unusedVariables false
def u8K7 : Kind Int := ⟨5, 1, fun k => [.int .u8 k], fun _ => [], fun _ => rfl⟩
theorem okWide_arr {P : Program} {w : World} {r : Reach} {base : Nat} {t e : TypeId} {n : Nat} {v : Value} (ht : P.underlying t = some (.array n e)) (h : Value.okWide P w r base t v) : ∃ cs, v = .agg cs ∧ cs.size = P.cellsOf t := by
  simp only [Value.okWide, ht] at h
  obtain ⟨cs, h1, h2, _⟩ := h
  exact ⟨cs, h1, h2⟩
section
variable {H : Type} {enc : TypeId × Value → H} {w : World} {base : Nat} {spare : Nat → Bool} {held : Bool} {fuel : Nat} {cs : List Value} {x : DataW H × List MemPlace}
theorem c_u8 : (Try.prog).cellsOf 5 = 1 := by kernel_rfl
theorem c_i3 : (Try.prog).cellsOf 86 = 3 := by kernel_rfl
theorem u8R (h : DataW.trod enc Try.prog w base spare held fuel 5 cs = some x) : ∃ k : Int, cs = [.int .u8 k] ∧ (0 ≤ k ∧ k ≤ 255) := by
  obtain ⟨k, e, _, h2⟩ := DataW.trod_int Try.underlying5 h
  have h3 := (Lit.wf_int_iff .u8 k).1 h2
  refine ⟨k, e, ?_⟩
  simp [IntKind.min, IntKind.max, IntKind.signed, IntKind.bits] at h3
  omega
theorem u8sR (h : DataW.trod enc Try.prog w base spare held fuel 87 cs = some x) : ∃ (r : SV) (xs : List Int), cs = [svV r] ∧ ListAt u8K7 w (Lt w.heap.size) r xs ∧ ∀ x, x ∈ xs → 0 ≤ x ∧ x ≤ 255 := by
  obtain ⟨A, n, c, l, rfl, hr, hnc, hcm, hg⟩ := sliceR (C := u8K7.c) (G := fun k : Int => 0 ≤ k ∧ k ≤ 255) Try.underlying87 c_u8 (fun n cs x h => u8R h) (fun _ => rfl) (by decide) h
  exact ⟨⟨A, n, c⟩, l, rfl, ⟨ReadsP.of hr, by simp only; unfold maxLen at hcm; omega, fun a ha x hx => by cases hx⟩, hg⟩
set_option maxRecDepth 100000 in
theorem i3R (h : DataW.trod enc Try.prog w base spare held fuel 86 cs = some x) : ∃ a b c : Int, cs = [.int .i64 a, .int .i64 b, .int .i64 c] := by
  obtain ⟨xs, m, _, _, hl, hn, hf⟩ := DataW.trod_array Try.underlying86 h
  rw [c_i3] at hl
  match cs, hl with
  | [a0, a1, a2], _ =>
    have h0 := hf 0 (by decide)
    have h1 := hf 1 (by decide)
    have h2 := hf 2 (by decide)
    rw [c_int] at h0 h1 h2
    rw [List.getElem?_eq_getElem (by omega)] at h0 h1 h2
    obtain ⟨b0, e0⟩ := intR' h0
    obtain ⟨b1, e1⟩ := intR' h1
    obtain ⟨b2, e2⟩ := intR' h2
    simp only [List.drop_succ_cons, List.drop_zero, List.take_succ_cons, List.take_zero, Nat.zero_mul, Nat.one_mul] at e0 e1 e2
    cases e0; cases e1; cases e2
    exact ⟨b0, b1, b2, rfl⟩
end
end Go.Proofs.Ytmckmlmfilmiaaa.X
/-
  The walk of RunoffTides.
-/
namespace Go.Proofs.Ytmckmlmfilmiaaa.Bs
open Go.Proofs.Ytmckmlmfilmiaaa.X
/-- spans, as pairs and otherwise. -/
def spns (l : List (Int × Int)) : List Spn := l.map fun x => ⟨x.1, x.2⟩
theorem spns_len (l : List (Int × Int)) : (spns l).length = l.length := by simp [spns]
theorem spns_at {l : List (Int × Int)} {k : Nat} (h : k < l.length) : spn (spns l) k = ⟨l[k].1, l[k].2⟩ := by
  unfold spn spns
  rw [List.getElem?_map, List.getElem?_eq_getElem h]; rfl
/-- a level by so many 255ths of its span. -/
def shr (l : List (Int × Int)) (sh : List Int) (k : Nat) : Int := if k < sh.length then (l[k]?.getD (0, 0)).1 + (((l[k]?.getD (0, 0)).2 - (l[k]?.getD (0, 0)).1) * at0 sh k).tdiv 255 else (l[k]?.getD (0, 0)).1
theorem shr_bd {l : List (Int × Int)} {sh : List Int} {k : Nat} (hk : k < l.length) (h : l[k].1 ≤ l[k].2) (hs : ∀ x, x ∈ sh → 0 ≤ x ∧ x ≤ 255) : l[k].1 ≤ shr l sh k ∧ shr l sh k ≤ l[k].2 := by
  unfold shr
  rw [List.getElem?_eq_getElem hk]
  simp only [Option.getD_some]
  split
  · rename_i hs9
    have h2 : 0 ≤ at0 sh k ∧ at0 sh k ≤ 255 := by unfold at0; rw [List.getElem?_eq_getElem hs9]; exact hs _ (List.getElem_mem hs9)
    have m1 : 0 ≤ (l[k].2 - l[k].1) * at0 sh k := Int.mul_nonneg (by omega) h2.1
    have m2 : (l[k].2 - l[k].1) * at0 sh k ≤ (l[k].2 - l[k].1) * 255 := Int.mul_le_mul_of_nonneg_left h2.2 (by omega)
    rw [Int.tdiv_eq_ediv_of_nonneg m1]
    omega
  · omega
end Go.Proofs.Ytmckmlmfilmiaaa.Bs
namespace Go.Proofs.Ytmckmlmfilmiaaa.X
open Go Go.RowKit Go.Proofs.Ytmckmlmfilmiaaa.Bs
set_option linter.unusedVariables false
theorem spns_list {w : World} {ok : Nat → Prop} {r : SV} {l : List (Int × Int)} (h : ListAt spanK w ok r l) : ListAt spnK w ok r (spns l) := by
  have e : (spns l).flatMap spnK.c = l.flatMap spanK.c := by
    unfold spns
    rw [List.flatMap_map]; rfl
  exact ⟨by rw [e]; exact h.rd, h.max, fun a ha x hx => by cases hx⟩
set_option maxHeartbeats 16000000 in
theorem tdLevels_int {r : SV} {m t : Int} {cs : List ConI} {n : Int} {w : World} (hr : TabAt w (Lt w.heap.size) r cs) :
    Calls Try.prog 36 #[.agg ⟨tabC r m⟩, .int .i64 t, .int .i64 n] w (Made w (LvlV n)) := by
  simp only [tabC]
  refine enter Try.func36 rfl Try.ntmps36 rfl ?_; simp only [frame, Nat.zero_add, Nat.reduceAdd]
  repeat (first | (refine M0 ?_; first | refine SL ?_ | refine SB fun _ _ => ?_) | (refine M1 ?_; refine SC ?_) | (refine M2 ?_; refine SE ?_))
  rename_i g3 hg3
  refine XL.callF (ChkV m cs) (vs := [.agg ⟨tabC r m⟩]) (ck rfl) rfl rfl (Fam.start (ks := []) (Nat.le_refl w.heap.size)) (fun _ h => by cases h) (Below.refl w.heap.size w) (fun w1 S1 _ _ => tdCheck_made (hr.up S1.toBelow)) (fun w2 v new hR hF2 hB2 hk2 => ?_)
  obtain ⟨i, e, rfl, hok, rfl⟩ := hR
  repeat (first | (refine M0 ?_; first | refine SL ?_ | refine SB fun _ _ => ?_) | (refine M1 ?_; refine SC ?_) | (refine M2 ?_; refine SE ?_))
  refine XC.cond _ rfl (fun h0 => ?_) (fun h0 => ?_)
  rotate_left
  · have he : e ≠ 0 := by simpa using h0
    repeat (first | (refine M0 ?_; first | refine SL ?_ | refine SB fun _ _ => ?_) | (refine M1 ?_; refine SC ?_) | (refine M2 ?_; refine SE ?_))
    refine XC.cond _ rfl (fun h1 => ?_) (fun h1 => absurd (by simpa using h1) he)
    repeat (first | (refine M0 ?_; first | refine SL ?_ | refine SB fun _ _ => ?_) | (refine M1 ?_; refine SC ?_) | (refine M2 ?_; refine SE ?_))
    refine XE.retg tok Try.results36 rfl (by simp only [and_self, and_true]) (fun w' S => ?_)
    exact ⟨_, _, rfl, ⟨⟨none, 0, 0⟩, [], e, rfl, rfl, fun h => absurd h he⟩, (fun x hx => by rw [List.mem_singleton.1 hx]; exact ListAt.nil), hB2.trans S.toBelow⟩
  have he : e = 0 := by simpa using h0
  subst he
  have hok := hok rfl
  repeat (first | (refine M0 ?_; first | refine SL ?_ | refine SB fun _ _ => ?_ | refine Y4 (Ev.call (f := 67) (ck rfl) rfl (fun w5 S5 => some_any t n w5)) ?_) | (refine M1 ?_; refine SC ?_) | (refine M2 ?_; refine SE ?_))
  refine XC.cond _ rfl (fun h1 => ?_) (fun h1 => ?_)
  · have he : someE t n ≠ 0 := by simpa using h1
    repeat (first | (refine M0 ?_; first | refine SL ?_ | refine SB fun _ _ => ?_) | (refine M1 ?_; refine SC ?_) | (refine M2 ?_; refine SE ?_))
    refine XE.retg tok Try.results36 rfl (by simp only [and_self, and_true]) (fun w' S => ?_)
    exact ⟨_, _, rfl, ⟨⟨none, 0, 0⟩, [], _, rfl, rfl, fun h => absurd h he⟩, (fun x hx => by rw [List.mem_singleton.1 hx]; exact ListAt.nil), hB2.trans S.toBelow⟩
  have he : someE t n = 0 := by simpa using h1
  have hn0 : 0 ≤ n := by
    unfold someE at he
    by_cases h2 : outB n 0 400 = true
    · rw [if_pos h2] at he; omega
    · exact (outB_f.1 (by simpa using h2)).1
  obtain ⟨n, rfl⟩ : ∃ k : Nat, n = k := ⟨n.toNat, by omega⟩
  obtain ⟨h4, h5⟩ := someE_0 he
  repeat (first | (refine M0 ?_; first | refine SL ?_ | refine SB fun _ _ => ?_) | (refine M1 ?_; refine SC ?_) | (refine M2 ?_; refine SE ?_))
  refine XL.callF (LevV n) (vs := [.agg ⟨tabC r m⟩, .int .i64 t, .int .i64 (n : Nat)]) (ck rfl) rfl rfl hF2 hk2 hB2 (fun w1 S1 _ _ => levels_made (hr.up (hB2.trans S1.toBelow)) hok h4 h5) (fun w3 v new hR hF3 hB3 hk3 => ?_)
  obtain ⟨r1, l, rfl, rfl, hsp⟩ := hR
  repeat (first | (refine M0 ?_; first | refine SL ?_ | refine SB fun _ _ => ?_) | (refine M1 ?_; refine SC ?_) | (refine M2 ?_; refine SE ?_))
  refine XE.retg tok Try.results36 rfl (by simp only [and_self, and_true]) (fun w' S => ?_)
  have hF6 := hF3.sys S ZZHL
  exact ⟨_, _, rfl, ⟨r1, l, 0, rfl, rfl, fun _ => ⟨by omega, hsp⟩⟩, (fun x hx => by rw [List.mem_singleton.1 hx]; exact hF6.get (x := hList spanK r1 l) (.head _)), hB3.trans S.toBelow⟩
theorem arrI3 : arrB (Try.prog.underlying 86) = some (3, 3) := by kernel_rfl
set_option maxHeartbeats 16000000 in
theorem RunoffTides_any {r : SV} {m x0 x1 x2 : Int} {cs : List ConI} {q : SV} {sh : List Int} {w : World} (hr : TabAt w (Lt w.heap.size) r cs) (hq : ListAt u8K7 w (Lt w.heap.size) q sh) (hsh : ∀ x, x ∈ sh → 0 ≤ x ∧ x ≤ 255) :
    Calls Try.prog 10 #[.agg ⟨tabC r m⟩, .agg ⟨[.int .i64 x0, .int .i64 x1, .int .i64 x2]⟩, svV q] w fun e w' => e = .returned (.bool true) ∧ Below w.heap.size w w' := by
  have hlv := fun (w5 : World) (hB : Below w.heap.size w w5) => tdLevels_int (m := m) (t := x0) (n := x1) (hr.up hB)
  have haw := fun {L : Lo} {W : World} (w5 : World) (S5 : Sys w.heap.size W L w5) => Awake7_any (w := w5)
  obtain ⟨Aq, nq, cq⟩ := q
  have lq := hq.len (by decide)
  simp only at lq
  subst lq
  simp only [tabC, svV] at hlv ⊢
  refine enter Try.func10 rfl Try.ntmps10 rfl ?_; simp only [frame, Nat.zero_add, Nat.reduceAdd]
  repeat (first | (refine M0 ?_; first | refine SL ?_ | refine SB fun _ _ => ?_ | refine Y4 (Ev.idxArrP 0 arrI3 int_sz rfl rfl rfl (by decide)) ?_ | refine Y4 (Ev.idxArrP 1 arrI3 int_sz rfl rfl rfl (by decide)) ?_ | refine Y4 (Ev.load_at tok 0 (o := 0) (j := 0) rfl rfl rfl rfl) ?_ | refine Y4 (Ev.load_at tok 0 (o := 0) (j := 1) rfl rfl rfl rfl) ?_) | (refine M1 ?_; refine SC ?_) | (refine M2 ?_; refine SE ?_))
  rename_i g3 hg3 g4 hg4
  refine XL.rebase (List.Sublist.refl _) (fun W0 S0 => ?_)
  refine XL.callF (ks := [g4, g3]) (rs := []) (hs := []) (b0 := w.heap.size) (wE := w) (LvlV x1) (ck rfl) rfl rfl (Fam.start S0.size) (fun k hk => S0.keyLt k hk) S0.toBelow (fun w1 S1 _ hB1 => hlv w1 hB1) (fun w2 x new hR hF2 hB2 hk2 => ?_) ZZHL
  obtain ⟨lq, l, e, rfl, rfl, hok⟩ := hR
  clear S0
  simp only [svV]
  repeat (first | (refine M0 ?_; first | refine SL ?_ | refine SB fun _ _ => ?_ | refine Y4 (Ev.idxArrP 2 arrI3 int_sz rfl rfl rfl (by decide)) ?_ | refine Y4 (Ev.load_at tok 0 (o := 0) (j := 2) rfl rfl rfl rfl) ?_) | (refine M1 ?_; refine SC ?_) | (refine M2 ?_; refine SE ?_))
  refine XL.callF (wE := w) (WinV x2 (spns l)) (ck rfl) rfl rfl hF2 hk2 hB2 (fun w1 S1 hF1 hB1 => Windows_made (spns_list ((show ListAt spanK w1 _ lq l from hF1.held (hList spanK lq l) (.head _)).mono fun j hj => hj.2.1))) (fun w3 x new hR hF3 hB3 hk3 => ?_) ZZHL
  obtain ⟨q1, q2, rfl, rfl⟩ := hR
  obtain ⟨e2, he2⟩ : ∃ a, a = winE x2 (spns l) := ⟨_, rfl⟩
  rw [← he2] at hF3 ⊢
  clear hF2 hk2
  simp only [svV]
  by_cases he : e = 0
  rotate_left
  · repeat (first | (refine M0 ?_; first | refine SL ?_ | refine SB fun _ _ => ?_) | (refine M1 ?_; refine SC ?_) | (refine M2 ?_; refine SE ?_))
    rw [show decide (e ≠ 0) = true from decide_eq_true he]
    repeat (first | (refine M0 ?_; first | refine SL ?_ | refine SB fun _ _ => ?_ | refine Y4 (Ev.call (f := 12) (ck rfl) rfl (fun w5 S5 => haw w5 S5)) ?_) | (refine M1 ?_; refine SC ?_) | (refine M2 ?_; refine SE ?_))
    refine XE.retg tok Try.results10 rfl (by simp only [and_self, and_true]) (fun w' S => ?_)
    exact ⟨rfl, hB3.trans S.toBelow⟩
  subst he
  by_cases he3 : e2 = 0
  rotate_left
  · repeat (first | (refine M0 ?_; first | refine SL ?_ | refine SB fun _ _ => ?_) | (refine M1 ?_; refine SC ?_) | (refine M2 ?_; refine SE ?_))
    rw [show decide (e2 ≠ 0) = true from decide_eq_true he3]
    repeat (first | (refine M0 ?_; first | refine SL ?_ | refine SB fun _ _ => ?_ | refine Y4 (Ev.call (f := 12) (ck rfl) rfl (fun w5 S5 => haw w5 S5)) ?_) | (refine M1 ?_; refine SC ?_) | (refine M2 ?_; refine SE ?_))
    refine XE.retg tok Try.results10 rfl (by simp only [and_self, and_true]) (fun w' S => ?_)
    exact ⟨rfl, hB3.trans S.toBelow⟩
  subst he3
  obtain ⟨h400, hsp⟩ := hok rfl
  rw [if_pos rfl, if_pos rfl, spns_len] at hF3
  have hll : l.length ≤ 400 := by have := hsp.len; omega
  have hH : ∀ {L : Lo} (w5 : World) (S5 : Sys w.heap.size w3 L w5) (hL5 : ∀ e, e ∈ L → e.1 ∈ [g4, g3] ∨ w3.heap.size ≤ e.1) (k : Nat) {q : SV} {y : List Int}, hInts q y ∈ [hInts q1 (winS x2 (spns l) l.length), hInts q2 (winP x2 (spns l) l.length)] → Calls Try.prog 29 #[svV q, .int .i64 (k : Nat)] w5 fun e w' => e = .returned (.bool (decide ((k : Int) ∈ y))) ∧ Below w5.heap.size w5 w' := fun {L} w5 S5 hL5 k {q y} hm => by
    have F5 := hF3.sys S5 (fun e he => (hL5 e he).imp (fun h => List.mem_append_right _ (List.mem_append_right _ h)) id)
    have k1 : IntsAt w5 _ q y := F5.held (hInts q y) (by simp only [List.mem_cons, List.not_mem_nil, or_false] at hm; rcases hm with h | h <;> rw [h] <;> simp)
    exact has_any (k1.mono fun j hj => hj.2.1)
  have hlq : ListAt spanK w3 _ lq l := hF3.held (hList spanK lq l) (by simp)
  obtain ⟨Al, nl, cl⟩ := lq
  have hnl := hlq.len (by decide)
  simp only at hnl
  subst hnl
  simp only
  repeat (first | (refine M0 ?_; first | refine SL ?_ | refine SB fun _ _ => ?_) | (refine M1 ?_; refine SC ?_) | (refine M2 ?_; refine SE ?_))
  refine XC.loopk [2, 4, 7, 9, 10] rfl (fun k : Nat => [(12, .int .i64 (k : Nat))]) (fun _ => [(g4, _), (g3, _)]) (fun _ => w3) (fun k => k ≤ l.length) (fun k => l.length - k) 0 (Nat.zero_le _) ZZSUB (fun _ h => h) ?_
  intro k hk
  dsimp only [List.cons_append, List.nil_append]
  repeat (first | (refine M0 ?_; first | refine SL ?_ | refine SB fun _ _ => ?_) | (refine M1 ?_; refine SC ?_) | (refine M2 ?_; refine SE ?_))
  refine XC.cond _ rfl (fun h2 => ?_) (fun h2 => ?_)
  rotate_left
  · repeat (first | (refine M0 ?_; first | refine SL ?_ | refine SB fun _ _ => ?_ | refine Y4 (Ev.call (f := 12) (ck rfl) rfl (fun w5 S5 => haw w5 S5)) ?_) | (refine M1 ?_; refine SC ?_) | (refine M2 ?_; refine SE ?_))
    refine XE.retg tok Try.results10 rfl (by simp only [and_self, and_true]) (fun w' S => ?_)
    exact ⟨rfl, hB3.trans S.toBelow⟩
  have hkl : k < l.length := by have := of_decide_eq_true h2; omega
  obtain ⟨al, hal, hfl⟩ := hlq.addr (by decide) (by omega)
  subst hal
  have hc0 := hlq.elem (List.getElem?_eq_getElem hkl) 0 (.int .i64 l[k].1) rfl
  have hc1 := hlq.elem (List.getElem?_eq_getElem hkl) 1 (.int .i64 l[k].2) rfl
  have hspk := hsp.ok k hkl
  have hat := shr_bd hkl hspk.1 hsh
  have hsn := spns_at hkl
  have hwS := winS_at (lv := x2) (l := spns l) hkl
  have hwP := winP_at (lv := x2) (l := spns l) hkl
  rw [hsn] at hwS hwP
  simp only at hwS hwP
  have hS := fun {L : Lo} (w5 : World) (S5 : Sys w.heap.size w3 L w5) hL5 => hH w5 S5 hL5 k (q := q1) (y := winS x2 (spns l) l.length) (by simp)
  have hP := fun {L : Lo} (w5 : World) (S5 : Sys w.heap.size w3 L w5) hL5 => hH w5 S5 hL5 k (q := q2) (y := winP x2 (spns l) l.length) (by simp)
  simp only [svV] at hS hP
  have es : shr l sh k = if k < sh.length then l[k].1 + ((l[k].2 - l[k].1) * at0 sh k).tdiv 255 else l[k].1 := by unfold shr; rw [List.getElem?_eq_getElem hkl]; rfl
  obtain ⟨lo, hlo⟩ : ∃ a, a = l[k].1 := ⟨_, rfl⟩
  obtain ⟨hi, hhi⟩ : ∃ a, a = l[k].2 := ⟨_, rfl⟩
  rw [← hlo, ← hhi] at es hat hspk
  rw [← hlo] at hc0 hwP
  rw [← hhi] at hc1 hwS
  obtain ⟨a0, ha0⟩ : ∃ a, a = shr l sh k := ⟨_, rfl⟩
  rw [← ha0] at es hat
  repeat (first | (refine M0 ?_; first | refine SL ?_ | refine SB fun _ _ => ?_ | refine Y4 (Ev.load_far tok rfl rfl (by rw [add_block, add_block]; exact hfl.2.1) (Free.far2 hfl ZZHL) hc0) ?_) | (refine M1 ?_; refine SC ?_) | (refine M2 ?_; refine SE ?_))
  refine XC.cutln [2, 4, 7, 9, 10, 12] rfl (fun _ : Unit => [(13, .int .i64 a0)]) (fun _ => []) (fun _ => True) ?_ (fun _ _ => ?_)
  · refine XC.cond _ rfl (fun h4 => ?_) (fun h4 => ?_)
    · have hks : k < sh.length := by have := of_decide_eq_true h4; omega
      obtain ⟨ash, rfl, hlas⟩ := hq.addr (by decide) (by omega)
      have hc8 : w3.cell? (ash.add (k * 1)) = some (.int .u8 (at0 sh k)) := by
        have h9 := (hq.below hB3).elem (List.getElem?_eq_getElem hks) 0 (.int .u8 sh[k]) rfl
        rw [add_add, Nat.add_zero] at h9
        unfold at0
        rw [List.getElem?_eq_getElem hks]
        exact h9
      have hs8 : 0 ≤ at0 sh k ∧ at0 sh k ≤ 255 := by unfold at0; rw [List.getElem?_eq_getElem hks]; exact hsh _ (List.getElem_mem hks)
      have hw8 : IntKind.i64.wrap (at0 sh k) = at0 sh k := wrap_in (by unfold i64in; omega)
      rw [if_pos hks] at es
      have m1 : 0 ≤ (hi - lo) * at0 sh k := Int.mul_nonneg (by omega) hs8.1
      have m2 : (hi - lo) * at0 sh k ≤ (hi - lo) * 255 := Int.mul_le_mul_of_nonneg_left hs8.2 (by omega)
      have i1 : i64in ((hi - lo) * at0 sh k) := by unfold i64in; omega
      repeat (first | (refine M0 ?_; first | refine SL ?_ | refine SB fun _ _ => ?_ | refine Y4 (Ev.load_far tok rfl rfl (by rw [add_block, add_block]; exact hfl.2.1) (Free.far2 hfl ZZHL) hc0) ?_ | refine Y4 (Ev.load_far tok rfl rfl (by rw [add_block, add_block]; exact hfl.2.1) (Free.far2 hfl ZZHL) hc1) ?_ | refine Y4 (Ev.load_old tok rfl rfl (add_lt hlas) hc8) ?_ | refine Y4 (Ev.conv Try.underlying5 Try.underlying3 rfl hw8) ?_) | (refine M1 ?_; first | refine SC ?_ | refine SD ?_) | (refine M2 ?_; refine SE ?_) | (refine M3 ?_; first | refine SG ?_ | refine SF ?_ | refine YF (Ev.load_far tok rfl rfl (by rw [add_block, add_block]; exact hfl.2.1) (Free.far2 hfl ZZHL) hc0) ?_ | refine YF (Ev.load_far tok rfl rfl (by rw [add_block, add_block]; exact hfl.2.1) (Free.far2 hfl ZZHL) hc1) ?_ | refine YF (Ev.load_old tok rfl rfl (add_lt hlas) hc8) ?_ | refine YF (Ev.conv Try.underlying5 Try.underlying3 rfl hw8) ?_) | (refine M4 ?_; refine SR ?_) | (refine M5 ?_; first | exact M7 | refine YM ?_ | refine YN ?_ ?_))
      rw [← es]
      refine XE.leaf () ZZSUB (fun _ S' => by first | exact S' | exact S'.perm (by repeat (first | exact List.Perm.refl _ | refine perm1 ?_ | refine List.Perm.cons _ ?_ | refine perm2 ?_)) | exact (S'.pop (by assumption)) | exact (S'.pop2 (by assumption))) ?_
      trivial
    · have hks : ¬ k < sh.length := by have := of_decide_eq_false h4; omega
      rw [if_neg hks] at es
      repeat (first | (refine M0 ?_; first | refine SL ?_ | refine SB fun _ _ => ?_) | (refine M1 ?_; refine SC ?_) | (refine M2 ?_; refine SE ?_))
      rw [← es]
      refine XE.leaf () ZZSUB (fun _ S' => by first | exact S' | exact S'.perm (by repeat (first | exact List.Perm.refl _ | refine perm1 ?_ | refine List.Perm.cons _ ?_ | refine perm2 ?_)) | exact (S'.pop (by assumption)) | exact (S'.pop2 (by assumption))) ?_
      trivial
  dsimp only [List.cons_append, List.nil_append]
  repeat (first | (refine M0 ?_; first | refine SL ?_ | refine SB fun _ _ => ?_) | (refine M1 ?_; refine SC ?_) | (refine M2 ?_; refine SE ?_))
  refine XL.step _ (Ev.call (f := 29) (ck rfl) rfl (fun w5 S5 => hS w5 S5 ZZHL)) rfl ?_
  by_cases c1 : (k : Int) ∈ winS x2 (spns l) l.length
  · have c2 : hi < x2 := hwS.1 c1
    have c3 : (k : Int) ∈ winP x2 (spns l) l.length := hwP.2 (by omega)
    rw [decide_eq_true c3] at hP
    rw [decide_eq_true c1] at hS ⊢
    repeat (first | (refine M0 ?_; first | refine SL ?_ | refine SB fun _ _ => ?_ | refine Y4 (Ev.idxArrP 2 arrI3 int_sz rfl rfl rfl (by decide)) ?_ | refine Y4 (Ev.load_at tok 0 (o := 0) (j := 2) rfl rfl rfl rfl) ?_) | (refine M1 ?_; refine SC ?_) | (refine M2 ?_; refine SE ?_))
    rw [show decide (x2 ≤ a0) = false from decide_eq_false (by omega)]
    repeat (first | (refine M0 ?_; first | refine SL ?_ | refine SB fun _ _ => ?_) | (refine M1 ?_; refine SC ?_) | (refine M2 ?_; refine SE ?_))
    refine XL.step _ (Ev.call (f := 29) (ck rfl) rfl (fun w5 S5 => hP w5 S5 ZZHL)) rfl ?_
    repeat (first | (refine M0 ?_; first | refine SL ?_ | refine SB fun _ _ => ?_) | (refine M1 ?_; refine SC ?_) | (refine M2 ?_; refine SE ?_))
    refine XL.step _ (Ev.call (f := 29) (ck rfl) rfl (fun w5 S5 => hS w5 S5 ZZHL)) rfl ?_
    repeat (first | (refine M0 ?_; first | refine SL ?_ | refine SB fun _ _ => ?_) | (refine M1 ?_; refine SC ?_) | (refine M2 ?_; refine SE ?_))
    refine XL.step _ (Ev.call (f := 29) (ck rfl) rfl (fun w5 S5 => hP w5 S5 ZZHL)) rfl ?_
    repeat (first | (refine M0 ?_; first | refine SL ?_ | refine SB fun _ _ => ?_) | (refine M1 ?_; refine SC ?_) | (refine M2 ?_; refine SE ?_))
    exact XE.round (s := k) (k + 1) hkl (by omega) ZZSUB (fun _ h => h)
  rw [decide_eq_false c1] at hS ⊢
  repeat (first | (refine M0 ?_; first | refine SL ?_ | refine SB fun _ _ => ?_) | (refine M1 ?_; refine SC ?_) | (refine M2 ?_; refine SE ?_))
  refine XL.step _ (Ev.call (f := 29) (ck rfl) rfl (fun w5 S5 => hP w5 S5 ZZHL)) rfl ?_
  by_cases c3 : (k : Int) ∈ winP x2 (spns l) l.length
  · rw [decide_eq_true c3]
    repeat (first | (refine M0 ?_; first | refine SL ?_ | refine SB fun _ _ => ?_) | (refine M1 ?_; refine SC ?_) | (refine M2 ?_; refine SE ?_))
    refine XL.step _ (Ev.call (f := 29) (ck rfl) rfl (fun w5 S5 => hS w5 S5 ZZHL)) rfl ?_
    repeat (first | (refine M0 ?_; first | refine SL ?_ | refine SB fun _ _ => ?_) | (refine M1 ?_; refine SC ?_) | (refine M2 ?_; refine SE ?_))
    exact XE.round (s := k) (k + 1) hkl (by omega) ZZSUB (fun _ h => h)
  · have c4 : ¬ lo < x2 := fun h => c3 (hwP.2 h)
    rw [decide_eq_false c3]
    repeat (first | (refine M0 ?_; first | refine SL ?_ | refine SB fun _ _ => ?_ | refine Y4 (Ev.idxArrP 2 arrI3 int_sz rfl rfl rfl (by decide)) ?_ | refine Y4 (Ev.load_at tok 0 (o := 0) (j := 2) rfl rfl rfl rfl) ?_) | (refine M1 ?_; refine SC ?_) | (refine M2 ?_; refine SE ?_))
    rw [show decide (a0 < x2) = false from decide_eq_false (by omega)]
    repeat (first | (refine M0 ?_; first | refine SL ?_ | refine SB fun _ _ => ?_) | (refine M1 ?_; refine SC ?_) | (refine M2 ?_; refine SE ?_))
    refine XL.step _ (Ev.call (f := 29) (ck rfl) rfl (fun w5 S5 => hS w5 S5 ZZHL)) rfl ?_
    repeat (first | (refine M0 ?_; first | refine SL ?_ | refine SB fun _ _ => ?_) | (refine M1 ?_; refine SC ?_) | (refine M2 ?_; refine SE ?_))
    exact XE.round (s := k) (k + 1) hkl (by omega) ZZSUB (fun _ h => h)
end Go.Proofs.Ytmckmlmfilmiaaa.X
/-
  Tables of tides that came in (runoff).
-/
namespace Go.Proofs.Ytmckmlmfilmiaaa.X
open Go Go.RowKit Go.ChangeShapes Go.WideShapes Go.Proofs.Ytmckmlmfilmiaaa.Bs
set_option linter.unusedVariables false
section
variable {H : Type} {enc : TypeId × Value → H} {w : World} {base : Nat} {spare : Nat → Bool} {held : Bool} {fuel : Nat} {cs : List Value} {x : DataW H × List MemPlace}
theorem c_con : (Try.prog).cellsOf 181 = 6 := by kernel_rfl
theorem c_cons : (Try.prog).cellsOf 83 = 1 := by kernel_rfl
theorem c_tab : (Try.prog).cellsOf 85 = 2 := by kernel_rfl
theorem conR (h : DataW.trod enc Try.prog w base spare held fuel 181 cs = some x) : ∃ a : ConI, cs = a.v ∧ IntsAt w (Lt w.heap.size) a.q a.c.hs ∧ a.c.name.size ≤ 9223372036854775807 := by
  obtain ⟨hl, n, hf⟩ := fieldN Try.underlying181 h
  rw [c_con] at hl
  match cs, hl with
  | [c0, c1, c2, c3, c4, c5], _ =>
    obtain ⟨y0, h0⟩ := hf 0 _ 9 0 1 rfl rfl rfl c_str
    obtain ⟨y1, h1⟩ := hf 1 _ 26 1 1 rfl rfl rfl c_ints
    obtain ⟨y2, h2⟩ := hf 2 _ 3 2 1 rfl rfl rfl c_int
    obtain ⟨y3, h3⟩ := hf 3 _ 3 3 1 rfl rfl rfl c_int
    obtain ⟨y4, h4⟩ := hf 4 _ 3 4 1 rfl rfl rfl c_int
    obtain ⟨y5, h5⟩ := hf 5 _ 3 5 1 rfl rfl rfl c_int
    obtain ⟨s, e0, hs⟩ := strR (c := c0) h0
    obtain ⟨q, l, e1, hq⟩ := intsR (cs := [c1]) h1
    obtain ⟨k2, e2⟩ := intR' (cs := [c2]) h2
    obtain ⟨k3, e3⟩ := intR' (cs := [c3]) h3
    obtain ⟨k4, e4⟩ := intR' (cs := [c4]) h4
    obtain ⟨k5, e5⟩ := intR' (cs := [c5]) h5
    cases e0; cases e1; cases e2; cases e3; cases e4; cases e5
    exact ⟨⟨⟨s, l, k2, k3, k4, k5⟩, q⟩, rfl, hq, by unfold maxLen at hs; exact hs⟩
theorem consR (h : DataW.trod enc Try.prog w base spare held fuel 83 cs = some x) : ∃ (r : SV) (l : List ConI), cs = [svV r] ∧ TabAt w (Lt w.heap.size) r l := by
  obtain ⟨A, n, c, l, rfl, hr, hnc, hcm, hg⟩ := sliceR (C := conK.c) (G := fun a : ConI => IntsAt w (Lt w.heap.size) a.q a.c.hs ∧ a.c.name.size ≤ 9223372036854775807) Try.underlying83 c_con (fun n cs x h => conR h) conK.len (by decide) h
  exact ⟨⟨A, n, c⟩, l, rfl, ⟨ReadsP.of hr, by simp only; unfold maxLen at hcm; omega, fun a ha x hx => by
    have hx' : x = hInts a.q a.c.hs := List.mem_singleton.1 hx
    subst hx'
    exact (hg a ha).1⟩, fun a ha => (hg a ha).2⟩
theorem tabR (h : DataW.trod enc Try.prog w base spare held fuel 85 cs = some x) : ∃ (r : SV) (m : Int) (l : List ConI), cs = tabC r m ∧ TabAt w (Lt w.heap.size) r l := by
  obtain ⟨hl, n, hf⟩ := fieldN Try.underlying85 h
  rw [c_tab] at hl
  match cs, hl with
  | [c0, c1], _ =>
    obtain ⟨y0, h0⟩ := hf 0 _ 3 0 1 rfl rfl rfl c_int
    obtain ⟨y1, h1⟩ := hf 1 _ 83 1 1 rfl rfl rfl c_cons
    obtain ⟨k0, e0⟩ := intR' (cs := [c0]) h0
    obtain ⟨r, l, e1, hr⟩ := consR (cs := [c1]) h1
    cases e0; cases e1
    exact ⟨r, k0, l, rfl, hr⟩
end
end Go.Proofs.Ytmckmlmfilmiaaa.X
