/-
  The walks of the example's Task, Rules and of Awake (closure).
-/
import Derived.Test.YtmpaiphakjogjaaPart4
import Derived.Test.YtmpaiphakjogjaaPart3
set_option linter.unusedVariables false
set_option linter.unusedSimpArgs false
namespace Go.Proofs.Ytmpaiphakjogjaa.X
open Go Go.RowKit Go.Proofs.Ytmpaiphakjogjaa.Bs
set_option linter.unusedVariables false
/-- a task in blocks of ok. -/
structure CtAtP (w : World) (ok : Nat → Prop) (v : CTV) (t : CTk) : Prop where
  bas : BasAtP w ok v.p t.b
  fil : IntsAt w ok v.f t.fil
  his : ∃ es : List (SV × His), ListAt hisK w ok v.h es ∧ es.map (·.2) = t.his
  river : IntsAt w ok v.r t.river
  cap : v.h.n ≤ v.h.c
theorem CtAtP.keep {w w' : World} {ok : Nat → Prop} {v : CTV} {t : CTk} (h : CtAtP w ok v t) (hk : ∀ k, ok k → w'.heap[k]? = w.heap[k]?) : CtAtP w' ok v t := by
  obtain ⟨es, h1, h2⟩ := h.his
  exact ⟨h.bas.keep hk, h.fil.keep hk, ⟨es, h1.keep hk, h2⟩, h.river.keep hk, h.cap⟩
theorem CtAtP.mono {w : World} {ok ok' : Nat → Prop} {v : CTV} {t : CTk} (h : CtAtP w ok v t) (hk : ∀ k, ok k → ok' k) : CtAtP w ok' v t := by
  obtain ⟨es, h1, h2⟩ := h.his
  exact ⟨h.bas.mono hk, h.fil.mono hk, ⟨es, h1.mono hk, h2⟩, h.river.mono hk, h.cap⟩
theorem CtAtP.to {w : World} {ok : Nat → Prop} {v : CTV} {t : CTk} {B : Nat} (h : CtAtP w ok v t) (hk : ∀ k, ok k → k < B) : CtAt w B v t := by
  obtain ⟨es, h1, h2⟩ := h.his
  exact ⟨(h.bas.mono hk).to, h.fil.mono hk, ⟨es, h1.mono hk, h2⟩, h.river.mono hk, h.cap⟩
def hCt (v : CTV) (t : CTk) : Held := ⟨fun w ok => CtAtP w ok v t, CtAtP.keep, CtAtP.mono⟩
def hBas5 (p : BV) (b : Bas) : Held := ⟨fun w ok => BasAtP w ok p b, BasAtP.keep, BasAtP.mono⟩
def Tsk5V (x : Value) (new : List Held) : Prop := ∃ v : CTV, x = ctkV v cxT ∧ new = [hCt v cxT]
def Bas5V (v : Value) (new : List Held) : Prop := ∃ p : BV, v = basV p exB ∧ new = [hBas5 p exB]
theorem Basin5_made (w : World) : Calls Try.prog 71 #[] w (Made w Bas5V) := (Basin_any w).mono fun e w' ⟨v, h1, ⟨p, h2, h3⟩, h4⟩ =>
  ⟨v, _, h1, ⟨p, h2, rfl⟩, fun x hx => by rw [List.mem_singleton] at hx; subst hx; exact h3, h4⟩
theorem task5_end {w W w' : World} {B : Nat} {L : Lo} {A A2 : Option Addr} {n c n2 c2 ga gb gh gr : Nat} (hbas : BasAtP w' (Btw w.heap.size w'.heap.size) ⟨A, n, c, A2, n2, c2⟩ exB) (S : Sys B W L w') (hB : Below w.heap.size w w')
    (h3 : (gh, cel 65 [.int .i64 10, .slice (some ⟨ga, 0, none⟩) 6 6, .int .i64 10, .slice (some ⟨gb, 0, none⟩) 6 6]) ∈ L) (h4 : (gr, cel 3 [.int .i64 60000, .int .i64 60000, .int .i64 60000, .int .i64 60000, .int .i64 60000, .int .i64 60000]) ∈ L)
    (h1 : (ga, cel 3 [.int .i64 0, .int .i64 500, .int .i64 1500, .int .i64 2500, .int .i64 1500, .int .i64 500]) ∈ L) (h2 : (gb, cel 3 (ints (List.replicate 6 0))) ∈ L)
    (b1 : w.heap.size ≤ ga) (b2 : w.heap.size ≤ gb) (b3 : w.heap.size ≤ gh) (b4 : w.heap.size ≤ gr) :
    Made w Tsk5V (.returned (.agg ⟨[.slice A n c, .int .i64 100, .int .i64 3000, .int .i64 500, .slice none 0 0, .slice none 0 0, .slice (some ⟨gh, 0, none⟩) 2 2, .slice (some ⟨gr, 0, none⟩) 6 6, .int .i64 0, .int .i64 800, .int .i64 1]⟩)) w' := by
  refine ⟨_, _, rfl, ⟨⟨⟨A, n, c, none, 0, 0⟩, ⟨none, 0, 0⟩, ⟨some ⟨gh, 0, none⟩, 2, 2⟩, ⟨some ⟨gr, 0, none⟩, 6, 6⟩⟩, rfl, rfl⟩, fun x hx => ?_, hB⟩
  rw [List.mem_singleton.1 hx]
  have k1 : IntsAt w' (Btw w.heap.size w'.heap.size) ⟨some ⟨ga, 0, none⟩, 6, 6⟩ [0, 500, 1500, 2500, 1500, 500] := ⟨ReadsP.block (S.own _ h1).2 b1 rfl, by simp⟩
  have k2 : IntsAt w' (Btw w.heap.size w'.heap.size) ⟨some ⟨gb, 0, none⟩, 6, 6⟩ [0, 0, 0, 0, 0, 0] := ⟨ReadsP.block (S.own _ h2).2 b2 rfl, by simp⟩
  have k4 : IntsAt w' (Btw w.heap.size w'.heap.size) ⟨some ⟨gr, 0, none⟩, 6, 6⟩ [60000, 60000, 60000, 60000, 60000, 60000] := ⟨ReadsP.block (S.own _ h4).2 b4 rfl, by simp⟩
  refine ⟨⟨hbas.rows, ReadsP.nil, hbas.cap, hbas.len, by simp, fun d hd => by cases hd⟩, ⟨ReadsP.nil, by simp⟩, ⟨[(⟨some ⟨ga, 0, none⟩, 6, 6⟩, ⟨10, [0, 500, 1500, 2500, 1500, 500]⟩), (⟨some ⟨gb, 0, none⟩, 6, 6⟩, ⟨10, [0, 0, 0, 0, 0, 0]⟩)], ⟨ReadsP.block (S.own _ h3).2 b3 rfl, by simp, fun a ha x hx => ?_⟩, rfl⟩, k4, by simp⟩
  simp only [List.mem_cons, List.not_mem_nil, or_false] at ha
  rcases ha with rfl | rfl
  · rw [List.mem_singleton.1 hx]; exact k1
  · rw [List.mem_singleton.1 hx]; exact k2
theorem ser_el5 : elemOk Try.prog 26 3 1 8 = true := by kernel_rfl
set_option maxHeartbeats 4000000 in
theorem Task5_made (w : World) : Calls Try.prog 29 #[] w (Made w Tsk5V) := by
  refine enter Try.func29 rfl Try.ntmps29 rfl ?_; simp only [frame, Nat.zero_add, Nat.reduceAdd]
  repeat (first | (refine M0 ?_; first | refine SL ?_ | refine SB fun _ _ => ?_) | (refine M1 ?_; refine SC ?_) | (refine M2 ?_; refine SE ?_))
  rename_i g0 hg0
  refine XL.callF (ks := []) (rs := []) (hs := []) (b0 := w.heap.size) (wE := w) Bas5V (ck rfl) rfl rfl (Fam.start (Nat.le_refl w.heap.size)) (fun _ h => by cases h) (Below.refl w.heap.size w) (fun w1 S1 _ _ => Basin5_made w1) (fun w2 x new hR hF2 hB2 hk2 => ?_) ZZHL
  obtain ⟨⟨A, n, c, A2, n2, c2⟩, rfl, rfl⟩ := hR
  simp only [basV, basC]
  repeat (first | (refine M0 ?_; first | refine SL ?_ | refine SB fun _ _ => ?_) | (refine M1 ?_; refine SC ?_) | (refine M2 ?_; refine SE ?_))
  rename_i g1 hg1
  have hz2 := hB2.size
  have l0 : g0 < w2.heap.size := hk2 g0 (by simp)
  have hle : w.heap.size ≤ w.heap.size := Nat.le_refl _
  refine XC.drawRS (trunc w w.heap.size) [(g1, cel 25 [.slice A n c, .int .i64 100, .int .i64 3000, .int .i64 500, .slice none 0 0])] [0] [1, 2, 3, 4, 5, 6, 7, 8] mixed (fun _ h => Sys.anchorT hB2 h (fun e he => by rw [List.mem_singleton.1 he]; exact .head _) (by simp) hle) rfl (by kernel_rfl) ?_
  repeat (any_goals (first | (refine M0 ?_; first | refine SL ?_ | refine SB fun _ _ => ?_ | refine Y4 (Ev.load_loc_agg tok 0 (g := g1) (o := 0) rfl rfl rfl rfl) ?_ | refine XL.buildSlice tok rfl rfl rfl rfl rfl rfl rfl rfl rfl (fun _ _ => ?_) | refine XL.makeInts (n := 6) ser_el5 (by kernel_rfl) rfl rfl rfl (by omega) (fun _ _ => ?_)) | (refine M1 ?_; refine SC ?_) | (refine M2 ?_; first | refine SE ?_ | ((with_reducible refine atHeld ?_); refine z7 ?_)) | (refine M3 ?_; first | refine SG ?_ | refine SF ?_ | refine YF (Ev.load_loc_agg tok 0 (g := g1) (o := 0) rfl rfl rfl rfl) ?_) | (refine M4 ?_; refine SR ?_) | (refine M5 ?_; first | exact M7 | refine YM ?_ | refine YN ?_ ?_)))
  any_goals (repeat (first | exact AnyR.nil | refine AnyR.skip rfl ?_))
  all_goals
    refine XE.retg tok Try.results29 rfl (by simp only [and_self, and_true]) (fun w' S => ?_)
    apply task5_end (A2 := A2) (n2 := n2) (c2 := c2) (S := S) (hB := hB2.trans S.toBelow)
    case h3 => repeat (first | exact List.mem_cons_self | apply List.mem_cons_of_mem)
    case h4 => repeat (first | exact List.mem_cons_self | apply List.mem_cons_of_mem)
    case h1 => repeat (first | exact List.mem_cons_self | apply List.mem_cons_of_mem)
    case h2 => repeat (first | exact List.mem_cons_self | apply List.mem_cons_of_mem)
    case b1 => omega
    case b2 => omega
    case b3 => omega
    case b4 => omega
    case hbas => exact (hF2.sys S (by intro e he; repeat (first | (cases he; done) | (rcases List.mem_cons.1 he with rfl | he; · first | (left; simp; done) | (right; assumption))))).get (x := hBas5 ⟨A, n, c, A2, n2, c2⟩ exB) (.head _)
set_option maxHeartbeats 4000000 in
theorem Rules5_any (w : World) : Calls Try.prog 30 #[] w fun e w' => e = .returned (ruV cxR) ∧ Below w.heap.size w w' := by
  refine enter Try.func30 rfl Try.ntmps30 rfl ?_; simp only [frame, Nat.zero_add, Nat.reduceAdd]
  repeat (first | (refine M0 ?_; first | refine SL ?_ | refine SB fun _ _ => ?_) | (refine M1 ?_; refine SC ?_) | (refine M2 ?_; refine SE ?_))
  refine XE.retg tok Try.results30 rfl (by simp only [and_self, and_true]) (fun w' S => ?_)
  exact ⟨rfl, S.toBelow⟩
end Go.Proofs.Ytmpaiphakjogjaa.X
/-
  The walk of Awake (closure).
-/
namespace Go.Proofs.Ytmpaiphakjogjaa.X
open Go Go.RowKit Go.Proofs.Ytmpaiphakjogjaa.Bs
set_option linter.unusedVariables false
theorem Fam.ct {W : World} {b0 : Nat} {ks : List Nat} {rs : List RowX} {hs : List Held} {v : CTV} {t : CTk} (h : Fam W b0 ks rs hs) (hm : hCt v t ∈ hs) : CtAt W W.heap.size v t := CtAtP.to (h.get hm) fun k hk => hk.2
set_option maxHeartbeats 4000000 in
theorem Awake5_any {w : World} : Calls Try.prog 17 #[] w fun e w' => e = .returned (.bool true) ∧ Below w.heap.size w w' := by
  obtain ⟨d1, d2, d3⟩ := cx_dec
  refine enter Try.func17 rfl Try.ntmps17 rfl ?_; simp only [frame, Nat.zero_add, Nat.reduceAdd]
  repeat (first | (refine M0 ?_; first | refine SL ?_ | refine SB fun _ _ => ?_) | (refine M1 ?_; refine SC ?_) | (refine M2 ?_; refine SE ?_))
  refine XL.callF (ks := []) (rs := []) (hs := []) (b0 := w.heap.size) (wE := w) Tsk5V (ck rfl) rfl rfl (Fam.start (Nat.le_refl w.heap.size)) (fun _ h => by cases h) (Below.refl w.heap.size w) (fun w1 S1 _ _ => Task5_made w1) (fun w1 x new hR hF1 hB1 hk1 => ?_) ZZHL
  obtain ⟨v1, rfl, rfl⟩ := hR
  repeat (first | (refine M0 ?_; first | refine SL ?_ | refine SB fun _ _ => ?_ | refine Y4 (Ev.call (f := 23) (ck rfl) rfl (fun w5 S5 => Last_any (t := cxT) (v := v1) (h0 := 0) ((hF1.sys S5 ZZHL).ct (.head _)))) ?_) | (refine M1 ?_; refine SC ?_) | (refine M2 ?_; refine SE ?_))
  rw [cx_las.1, cx_las.2]
  repeat (first | (refine M0 ?_; first | refine SL ?_ | refine SB fun _ _ => ?_) | (refine M1 ?_; refine SC ?_) | (refine M2 ?_; refine SE ?_))
  refine XL.callF (wE := w) Tsk5V (ck rfl) rfl rfl hF1 hk1 hB1 (fun w1 S1 _ _ => Task5_made w1) (fun w2 x new hR hF2 hB2 hk2 => ?_) ZZHL
  obtain ⟨v2, rfl, rfl⟩ := hR
  repeat (first | (refine M0 ?_; first | refine SL ?_ | refine SB fun _ _ => ?_ | refine Y4 (Ev.call (f := 30) (ck rfl) rfl (fun w5 S5 => Rules5_any w5)) ?_) | (refine M1 ?_; refine SC ?_) | (refine M2 ?_; refine SE ?_))
  refine XL.callF (wE := w) (DecR cxT cxR) (ck rfl) rfl rfl hF2 hk2 hB2 (fun w1 S1 hFx _ => Decide_made (t := cxT) (v := v2) (r := cxR) (hFx.ct (.head _))) (fun w3 x new hR hF3 hB3 hk3 => ?_) ZZHL
  obtain ⟨q1, q2, rfl, rfl⟩ := hR
  have hl2 : ListAt wtnK5 w3 (Free w3 w.heap.size _ []) q2 (cxT.decD cxR).later := hF3.held (hList wtnK5 q2 (cxT.decD cxR).later) (.tail _ (.head _))
  have hq2 := hl2.len (by decide)
  rw [d3] at hq2
  obtain ⟨A2, n2, c2⟩ := q2
  simp only at hq2
  subst hq2
  simp only [decV, decC, d1, d2, svV]
  repeat (first | (refine M0 ?_; first | refine SL ?_ | refine SB fun _ _ => ?_) | (refine M1 ?_; refine SC ?_) | (refine M2 ?_; refine SE ?_))
  rename_i g3 hg3
  refine XL.callF (wE := w) Tsk5V (ck rfl) rfl rfl hF3 hk3 hB3 (fun w1 S1 _ _ => Task5_made w1) (fun w4 x new hR hF4 hB4 hk4 => ?_) ZZHL
  obtain ⟨v4, rfl, rfl⟩ := hR
  have hla := fun (w5 : World) (h5 : CtAt w5 w5.heap.size v4 cxT) => Last_any (t := cxT) (v := v4) (h0 := 2) h5
  obtain ⟨z, hz⟩ : ∃ z, z = cxT.lasN 2 := ⟨_, rfl⟩
  rw [cx_las2, ← hz] at hla
  repeat (first | (refine M0 ?_; first | refine SL ?_ | refine SB fun _ _ => ?_ | refine Y4 (Ev.call (f := 23) (ck rfl) rfl (fun w5 S5 => hla w5 ((hF4.sys S5 ZZHL).ct (.head _)))) ?_) | (refine M1 ?_; refine SC ?_) | (refine M2 ?_; refine SE ?_))
  repeat (first | (refine M0 ?_; first | refine SL ?_ | refine SB fun _ _ => ?_ | refine Y4 (Ev.plnEql rfl rfl) ?_) | (refine M1 ?_; first | refine SC ?_ | refine SD ?_) | (refine M2 ?_; refine SE ?_) | (refine M3 ?_; first | refine SG ?_ | refine SF ?_ | refine YF (Ev.plnEql rfl rfl) ?_) | (refine M4 ?_; refine SR ?_) | (refine M5 ?_; first | exact M7 | refine YM ?_ | refine YN ?_ ?_))
  refine XE.retg tok Try.results17 rfl (by simp only [and_self, and_true]) (fun w' S => ?_)
  exact ⟨rfl, hB4.trans S.toBelow⟩
end Go.Proofs.Ytmpaiphakjogjaa.X
/-
  The law ClosureOpens.
-/
namespace Go.Proofs.Ytmpaiphakjogjaa.Bs
open Go Go.Proofs.Ytmpaiphakjogjaa.X
set_option linter.unusedVariables false
end Go.Proofs.Ytmpaiphakjogjaa.Bs
namespace Go.Proofs.Ytmpaiphakjogjaa.X
open Go Go.RowKit Go.Proofs.Ytmpaiphakjogjaa.Bs
set_option linter.unusedVariables false
end Go.Proofs.Ytmpaiphakjogjaa.X
/-
  The walks of whole, Long and levels of the statements (closure).
-/
namespace Go.Proofs.Ytmpaiphakjogjaa.Bs
open Go Go.Proofs.Ytmpaiphakjogjaa.X
set_option linter.unusedVariables false
def CTk.wholeB (t : CTk) : Bool := decide (0 < t.m) && (List.range t.m).all fun k => decide ((t.h k).vals.length = t.river.length) && decide ((t.h k).from_ = t.from_)
def CTk.longB (t : CTk) : Bool := (decide (12 < t.river.length) && decide (t.river.length ≤ 60)) || (decide (4 < t.m) && decide (t.m ≤ 8))
theorem whole_t {t : CTk} (h : t.wholeB = true) : 0 < t.m ∧ ∀ k, k < t.m → (t.h k).vals.length = t.river.length ∧ (t.h k).from_ = t.from_ := by
  unfold CTk.wholeB at h
  rw [Bool.and_eq_true, decide_eq_true_eq, List.all_eq_true] at h
  exact ⟨h.1, fun k hk => by have := h.2 k (List.mem_range.2 hk); rw [Bool.and_eq_true, decide_eq_true_eq, decide_eq_true_eq] at this; exact this⟩
end Go.Proofs.Ytmpaiphakjogjaa.Bs
namespace Go.Proofs.Ytmpaiphakjogjaa.X
open Go Go.RowKit Go.Proofs.Ytmpaiphakjogjaa.Bs
set_option linter.unusedVariables false
set_option maxHeartbeats 8000000 in
theorem whole5_any {v : CTV} {t : CTk} {w : World} (hT : CtAt w w.heap.size v t) :
    Calls Try.prog 19 #[ctkV v t] w fun e w' => e = .returned (.bool t.wholeB) ∧ Below w.heap.size w w' := by
  have hhn := hT.hn
  have hhm := hT.hmax
  have hhis := fun k hk => hT.hisAt (k := k) hk
  have hrn := hT.river.len
  have hrm := hT.river.max
  obtain ⟨vp, vf, ⟨Ah, nh, ch⟩, ⟨Ar, nr, cr⟩⟩ := v
  simp only at hhn hrn hhis hhm hrm
  subst hhn hrn
  simp only [ctkV, ctkC]
  refine enter Try.func19 rfl Try.ntmps19 rfl ?_; simp only [frame, Nat.zero_add, Nat.reduceAdd]
  repeat (first | (refine M0 ?_; first | refine SL ?_ | refine SB fun _ _ => ?_) | (refine M1 ?_; refine SC ?_) | (refine M2 ?_; refine SE ?_))
  rename_i g1 hg1
  refine XC.loopk [1] rfl (fun k : Nat => [(3, .int .i64 (k : Nat))]) (fun _ => [(g1, cel 29 (ctkC ⟨vp, vf, ⟨Ah, t.m, ch⟩, ⟨Ar, t.river.length, cr⟩⟩ t))]) (fun _ => w) (fun k => k ≤ t.m ∧ ∀ j, j < k → (t.h j).vals.length = t.river.length ∧ (t.h j).from_ = t.from_) (fun k => t.m - k) 0 ⟨Nat.zero_le _, fun j h => absurd h (by omega)⟩ ZZSUB (fun _ h => h) ?_
  rintro k ⟨hk, h0⟩
  simp only [ctkC]
  dsimp only [List.cons_append, List.nil_append]
  repeat (first | (refine M0 ?_; first | refine SL ?_ | refine SB fun _ _ => ?_) | (refine M1 ?_; refine SC ?_) | (refine M2 ?_; refine SE ?_))
  refine XC.cond _ rfl (fun h2 => ?_) (fun h2 => ?_)
  rotate_left
  · have hkn : k = t.m := by have := of_decide_eq_false h2; omega
    subst hkn
    repeat (first | (refine M0 ?_; first | refine SL ?_ | refine SB fun _ _ => ?_) | (refine M1 ?_; refine SC ?_) | (refine M2 ?_; refine SE ?_))
    refine XE.retg tok Try.results19 rfl (by simp only [and_self, and_true]) (fun w' S => ?_)
    refine ⟨?_, S.toBelow⟩
    have e : t.wholeB = decide ((0 : Int) < (t.m : Int)) := by
      unfold CTk.wholeB
      rw [show ((List.range t.m).all fun k => decide ((t.h k).vals.length = t.river.length) && decide ((t.h k).from_ = t.from_)) = true from List.all_eq_true.2 fun k hk => by
        obtain ⟨a, b⟩ := h0 k (List.mem_range.1 hk)
        rw [decide_eq_true a, decide_eq_true b]; rfl, Bool.and_true]
      by_cases h : 0 < t.m
      · rw [decide_eq_true h, decide_eq_true (by omega)]
      · rw [decide_eq_false h, decide_eq_false (by omega)]
    rw [e]; rfl
  have hkn : k < t.m := by have := of_decide_eq_true h2; omega
  obtain ⟨ad, q, e1, hlt, hc, hq⟩ := hhis k hkn
  obtain ⟨ad', q0, e1', hlt', hc', hq0⟩ := hhis 0 (by omega)
  obtain rfl := e1
  obtain rfl : ad = ad' := Option.some.inj e1'
  have hql := hq.len
  have hqm := hq.max
  have c0 := hc 0 _ rfl
  have c1 := hc 1 _ rfl
  have d0 := hc' 0 _ rfl
  obtain ⟨qA, qn, qc⟩ := q
  simp only at hql hqm
  subst hql
  simp only [svV] at c1
  have hno : ∀ j, j < t.m → ¬((t.h j).vals.length = t.river.length ∧ (t.h j).from_ = t.from_) → t.wholeB = false := fun j hj hn => by
    cases hw : t.wholeB with
    | false => rfl
    | true => exact absurd ((whole_t hw).2 j hj) hn
  have hadd : ∀ j, (ad.add j).block < w.heap.size := fun j => add_lt hlt
  repeat (any_goals (first | (refine M0 ?_; first | refine SL ?_ | refine SB fun _ _ => ?_ | (refine XL.split _ _ rfl (fun h => ?_) (fun h => ?_) <;> rw [h]) | refine Y4 (Ev.load_old tok rfl rfl (add_lt2 hlt) c1) ?_ | refine Y4 (Ev.load_old tok rfl rfl (add_lt2 hlt) c0) ?_ | refine Y4 (Ev.load_old tok rfl rfl (add_lt2 hlt) d0) ?_) | (refine M1 ?_; first | refine SC ?_ | refine SD ?_ | refine XC.cond _ rfl (fun h => ?_) (fun h => ?_)) | (refine M2 ?_; refine SE ?_) | (refine M3 ?_; first | refine SG ?_ | refine SF ?_ | (refine Fw.split _ _ rfl (fun h => ?_) (fun h => ?_) <;> rw [h]) | refine YF (Ev.load_old tok rfl rfl (add_lt2 hlt) c1) ?_ | refine YF (Ev.load_old tok rfl rfl (add_lt2 hlt) c0) ?_ | refine YF (Ev.load_old tok rfl rfl (add_lt2 hlt) d0) ?_) | (refine M4 ?_; refine SR ?_) | (refine M5 ?_; first | exact M7 | refine YM ?_ | refine YN ?_ ?_)))
  · have hl : (t.h k).vals.length ≠ t.river.length := by have := of_decide_eq_true h; omega
    refine XE.retg tok Try.results19 rfl (by simp only [and_self, and_true]) (fun w' S => ?_)
    rw [hno k hkn (fun h => hl h.1)]
    exact ⟨rfl, S.toBelow⟩
  · have hl : (t.h k).from_ ≠ (t.h 0).from_ := of_decide_eq_true h
    refine XE.retg tok Try.results19 rfl (by simp only [and_self, and_true]) (fun w' S => ?_)
    rw [hno k hkn (fun h => hl h.2)]
    exact ⟨rfl, S.toBelow⟩
  · rename_i h5
    have e5 : (t.h k).vals.length = t.river.length := by have := of_decide_eq_false h5; omega
    have e6 : (t.h k).from_ = t.from_ := Decidable.byContradiction fun hn => of_decide_eq_false h hn
    refine XE.round (s := k) (k + 1) ⟨hkn, fun j hj => ?_⟩ (by omega) ZZSUB (fun _ h => h)
    rcases Nat.lt_or_ge j k with h6 | h6
    · exact h0 j h6
    · have : j = k := by omega
      subst this
      exact ⟨e5, e6⟩
end Go.Proofs.Ytmpaiphakjogjaa.X
/-
  The walk of lower of the statements (closure).
-/
namespace Go.Proofs.Ytmpaiphakjogjaa.Bs
open Go Go.Proofs.Ytmpaiphakjogjaa.X
set_option linter.unusedVariables false
def lowV (bs : List Int) (v : Int) (i : Nat) : Int := if 0 < bs.length then max (-20000) (v - at0 bs (i % bs.length)) else v
def lowTo (l bs : List Int) (n : Nat) : List Int := (List.range n).map fun i => lowV bs (at0 l i) i
end Go.Proofs.Ytmpaiphakjogjaa.Bs
namespace Go.Proofs.Ytmpaiphakjogjaa.X
open Go Go.RowKit Go.Proofs.Ytmpaiphakjogjaa.Bs
set_option linter.unusedVariables false
def u16K5 : Kind Int := ⟨43, 1, fun k => [.int .u16 k], fun _ => [], fun _ => rfl⟩
def LowR (h : His) (bs : List Int) (x : Value) (new : List Held) : Prop := ∃ q : SV, x = .agg ⟨[.int .i64 h.from_, svV q]⟩ ∧ new = [hInts q (lowTo h.vals bs h.vals.length)]
end Go.Proofs.Ytmpaiphakjogjaa.X
/-
  The law ClosureSafe.
-/
namespace Go.Proofs.Ytmpaiphakjogjaa.X
open Go Go.RowKit Go.Proofs.Ytmpaiphakjogjaa.Bs
set_option linter.unusedVariables false
def hisK0 : Kind (SV × His) := ⟨65, 2, fun e => hisC e.1 e.2, fun _ => [], fun _ => rfl⟩
theorem his0_el : elemOk Try.prog 27 hisK0.ty hisK0.m 32 = true := by kernel_rfl
theorem ListAt.bare {w : World} {ok : Nat → Prop} {r : SV} {l : List (SV × His)} (h : ListAt hisK w ok r l) : ListAt hisK0 w ok r l := ⟨h.rd, h.max, fun a ha x hx => by cases hx⟩
end Go.Proofs.Ytmpaiphakjogjaa.X
/-
  The walk of Long; the law ClosureLess.
-/
namespace Go.Proofs.Ytmpaiphakjogjaa.Bs
open Go Go.Proofs.Ytmpaiphakjogjaa.X
set_option linter.unusedVariables false
/-- a task without one of its histories. -/
def CTk.wout (t : CTk) (k : Nat) : CTk := { t with his := t.his.take k ++ t.his.drop (k + 1) }
theorem wout_h {t : CTk} {k : Nat} (hk : k < t.m) (j : Nat) : (t.wout k).h j = t.h (if j < k then j else j + 1) := by
  unfold CTk.wout CTk.h
  simp only
  have hl : (t.his.take k).length = k := by rw [List.length_take]; exact Nat.min_eq_left (Nat.le_of_lt hk)
  by_cases h : j < k
  · rw [if_pos h, List.getElem?_append_left (by omega), List.getElem?_take_of_lt h]
  · rw [if_neg h, List.getElem?_append_right (by omega), List.getElem?_drop, hl, show k + 1 + (j - k) = j + 1 from by omega]
theorem wout_m {t : CTk} {k : Nat} (hk : k < t.m) : (t.wout k).m = t.m - 1 := by
  have h1 : k < t.his.length := hk
  show (t.his.take k ++ t.his.drop (k + 1)).length = t.his.length - 1
  rw [List.length_append, List.length_take, List.length_drop]
  omega
theorem wout_sub {t : CTk} (ho : CtOk t) {k : Nat} (hk : k < t.m) (h2 : 2 ≤ t.m) : Sub5 t (t.wout k) := by
  have h0 := wout_h hk 0
  have h1 : (if 0 < k then 0 else 0 + 1) < t.m := by split <;> omega
  refine { b := rfl, fil := rfl, river := rfl, out := rfl, delay := rfl, n := ?_, from_ := ?_, lim := rfl, m1 := by rw [wout_m hk]; omega, m := by rw [wout_m hk]; omega, h := fun j hj => ⟨_, ?_, wout_h hk j⟩ }
  · unfold CTk.n
    rw [h0]
    exact ho.len _ h1
  · unfold CTk.from_
    rw [h0]
    exact ho.from_ _ h1
  · rw [wout_m hk] at hj
    split <;> omega
theorem dec_ok {t : CTk} {r : CRu} (h : t.decE r = 0) : ctE t = 0 ∧ CtOk t ∧ t.strange (t.decD r).plan = false := by
  obtain ⟨h0, h1⟩ := decE_0 h
  obtain ⟨hc, ho, _⟩ := ruE_0 h0
  refine ⟨hc, ho, ?_⟩
  rcases h1 with ⟨_, e⟩ | ⟨_, i, h2, _, e⟩
  · rw [e]; unfold CTk.strange; simp
  · rw [e]
    have := (lastOk_some.1 h2).1
    exact (plan_ok ho (Int.natCast_nonneg i) this).1
theorem less_all {t : CTk} {r : CRu} (h : t.decE r = 0) (hn : 0 ≤ (t.decD r).plan.close) {k : Nat} (hk : k < t.m) (h2 : 2 ≤ t.m) :
    ruE (t.wout k) r = 0 ∧ ((t.wout k).allowed r (t.decD r).plan.close = true → (t.wout k).decE r = 0 ∧ (t.decD r).plan.close ≤ ((t.wout k).decD r).plan.close) :=
  less_hist (wout_sub (dec_ok h).2.1 hk h2) h hn
end Go.Proofs.Ytmpaiphakjogjaa.Bs
namespace Go.Proofs.Ytmpaiphakjogjaa.X
open Go Go.RowKit Go.Proofs.Ytmpaiphakjogjaa.Bs
set_option linter.unusedVariables false
theorem ListAt.dropK {α : Type} {K : Kind α} {w : World} {ok : Nat → Prop} {A : Option Addr} {n c : Nat} {l : List α} (h : ListAt K w ok ⟨A, n, c⟩ l) {k : Nat} (hk : k ≤ l.length) (hc : n ≤ c) (h0 : 0 < K.m) : ListAt K w ok ⟨if c = k then A else A.map (·.add (k * K.m)), n - k, c - k⟩ (l.drop k) := by
  have hn := h.len h0
  simp only at hn
  subst hn
  have hmx := h.max
  simp only at hmx
  rcases Nat.lt_or_ge k l.length with h1 | h1
  · obtain ⟨ad, rfl, hok⟩ := h.addr h0 (by omega)
    rw [if_neg (by omega)]
    have hf : (l.take k).flatMap K.c ++ (l.drop k).flatMap K.c = l.flatMap K.c := by rw [← List.flatMap_append, List.take_append_drop]
    have hl : ((l.take k).flatMap K.c).length = k * K.m := by rw [flat_len K.c K.m K.len, List.length_take, Nat.min_eq_left hk]
    refine ⟨⟨?_, fun _ => ⟨_, rfl, by rw [add_block]; exact hok, fun j u hj => ?_⟩⟩, by simp only; omega, fun a ha => h.ins a (List.mem_of_mem_drop ha)⟩
    · rw [flat_len K.c K.m K.len, List.length_drop]
    · rw [add_add]
      obtain ⟨ad', e, _, h3⟩ := h.rd.2 (by simp only; omega)
      obtain rfl := Option.some.inj e
      refine h3 (k * K.m + j) u ?_
      rw [← hf, List.getElem?_append_right (by omega), hl, Nat.add_sub_cancel_left]
      exact hj
  · have : l.drop k = [] := List.drop_eq_nil_of_le h1
    rw [this, show l.length - k = 0 from by omega]
    exact ⟨ReadsP.nil, Nat.zero_le _, fun a ha => by cases ha⟩
theorem Long5_any {v : CTV} {t : CTk} {w : World} (hT : CtAt w w.heap.size v t) :
    Calls Try.prog 18 #[ctkV v t] w fun e w' => e = .returned (.bool t.longB) ∧ Below w.heap.size w w' := by
  have hhn := hT.hn
  have hhm := hT.hmax
  have hrn := hT.river.len
  have hrm := hT.river.max
  obtain ⟨vp, vf, ⟨Ah, nh, ch⟩, ⟨Ar, nr, cr⟩⟩ := v
  simp only at hhn hrn hhm hrm
  subst hhn hrn
  have k1 : decide ((12 : Int) < (t.river.length : Int)) = decide (12 < t.river.length) := by rw [decide_eq_decide]; omega
  have k2 : decide ((t.river.length : Int) ≤ 60) = decide (t.river.length ≤ 60) := by rw [decide_eq_decide]; omega
  have k3 : decide ((4 : Int) < (t.m : Int)) = decide (4 < t.m) := by rw [decide_eq_decide]; omega
  have k4 : decide ((t.m : Int) ≤ 8) = decide (t.m ≤ 8) := by rw [decide_eq_decide]; omega
  simp only [ctkV, ctkC]
  unfold CTk.longB
  refine enter Try.func18 rfl Try.ntmps18 rfl ?_; simp only [frame, Nat.zero_add, Nat.reduceAdd]
  repeat (first | (refine M0 ?_; first | refine SL ?_ | refine SB fun _ _ => ?_) | (refine M1 ?_; refine SC ?_) | (refine M2 ?_; refine SE ?_))
  rw [k1]
  cases decide (12 < t.river.length) with
  | true =>
    repeat (first | (refine M0 ?_; first | refine SL ?_ | refine SB fun _ _ => ?_) | (refine M1 ?_; refine SC ?_) | (refine M2 ?_; refine SE ?_))
    rw [k2]
    cases decide (t.river.length ≤ 60) with
    | true =>
      repeat (first | (refine M0 ?_; first | refine SL ?_ | refine SB fun _ _ => ?_) | (refine M1 ?_; refine SC ?_) | (refine M2 ?_; refine SE ?_))
      refine XE.retg tok Try.results18 rfl (by simp only [and_self, and_true]) (fun w' S => ?_)
      exact ⟨rfl, S.toBelow⟩
    | false =>
      repeat (first | (refine M0 ?_; first | refine SL ?_ | refine SB fun _ _ => ?_) | (refine M1 ?_; refine SC ?_) | (refine M2 ?_; refine SE ?_))
      rw [k3]
      cases decide (4 < t.m) with
      | true =>
        repeat (first | (refine M0 ?_; first | refine SL ?_ | refine SB fun _ _ => ?_) | (refine M1 ?_; refine SC ?_) | (refine M2 ?_; refine SE ?_))
        rw [k4]
        refine XE.retg tok Try.results18 rfl (by simp only [and_self, and_true]) (fun w' S => ?_)
        exact ⟨rfl, S.toBelow⟩
      | false =>
        repeat (first | (refine M0 ?_; first | refine SL ?_ | refine SB fun _ _ => ?_) | (refine M1 ?_; refine SC ?_) | (refine M2 ?_; refine SE ?_))
        refine XE.retg tok Try.results18 rfl (by simp only [and_self, and_true]) (fun w' S => ?_)
        exact ⟨rfl, S.toBelow⟩
  | false =>
    repeat (first | (refine M0 ?_; first | refine SL ?_ | refine SB fun _ _ => ?_) | (refine M1 ?_; refine SC ?_) | (refine M2 ?_; refine SE ?_))
    rw [k3]
    cases decide (4 < t.m) with
    | true =>
      repeat (first | (refine M0 ?_; first | refine SL ?_ | refine SB fun _ _ => ?_) | (refine M1 ?_; refine SC ?_) | (refine M2 ?_; refine SE ?_))
      rw [k4]
      refine XE.retg tok Try.results18 rfl (by simp only [and_self, and_true]) (fun w' S => ?_)
      exact ⟨rfl, S.toBelow⟩
    | false =>
      repeat (first | (refine M0 ?_; first | refine SL ?_ | refine SB fun _ _ => ?_) | (refine M1 ?_; refine SC ?_) | (refine M2 ?_; refine SE ?_))
      refine XE.retg tok Try.results18 rfl (by simp only [and_self, and_true]) (fun w' S => ?_)
      exact ⟨rfl, S.toBelow⟩
/-- the task with other histories, of the same elements, in memory. -/
theorem someCt_at {w w' : World} {v : CTV} {t : CTk} {r : SV} {es es' : List (SV × His)} (hT : CtAt w w.heap.size v t) (hB : Below w.heap.size w w') (hes : ListAt hisK w (Lt w.heap.size) v.h es) (hrow : ListAt hisK0 w' (Lt w'.heap.size) r es') (hsub : ∀ a, a ∈ es' → a ∈ es) (hc : r.n ≤ r.c) :
    CtAt w' w'.heap.size ⟨v.p, v.f, r, v.r⟩ { t with his := es'.map (·.2) } := by
  have h0 := (hT.below hB).more hB.size
  exact ⟨h0.bas, h0.fil, ⟨es', ⟨hrow.rd, hrow.max, fun a ha x hx => x.mono (x.keep (hes.ins a (hsub a ha) x hx) fun j hj => hB.block j hj) fun j hj => Nat.lt_of_lt_of_le hj hB.size⟩, rfl⟩, h0.river, hc⟩
theorem CtAt.withLimit {w : World} {B : Nat} {v : CTV} {t : CTk} (h : CtAt w B v t) (l : Int) : CtAt w B v (t.more l) := ⟨h.bas, h.fil, h.his, h.river, h.cap⟩
end Go.Proofs.Ytmpaiphakjogjaa.X
/-
  The law ClosureLess.
-/
namespace Go.Proofs.Ytmpaiphakjogjaa.X
open Go Go.RowKit Go.Proofs.Ytmpaiphakjogjaa.Bs
set_option linter.unusedVariables false
theorem arrH2 : arrB (Try.prog.underlying 44) = some (2, 43) := by kernel_rfl
theorem u16_sz5 : (Try.prog.info? 43).map (·.size) = some 1 := by kernel_rfl
set_option maxHeartbeats 16000000 in
theorem ClosureLess_any {v : CTV} {t : CTk} {r : CRu} {x0 x1 : Int} {w : World} (hT : CtAt w w.heap.size v t) (hx0 : 0 ≤ x0 ∧ x0 ≤ 65535) (hx1 : 0 ≤ x1 ∧ x1 ≤ 65535) (hbig : t.m ≤ 5000000) :
    Calls Try.prog 4 #[ctkV v t, ruV r, .agg ⟨[.int .u16 x0, .int .u16 x1]⟩] w fun e w' => e = .returned (.bool true) ∧ Below w.heap.size w w' := by
  have haw := fun {L : Lo} {W : World} (w5 : World) (S5 : Sys w.heap.size W L w5) => Awake5_any (w := w5)
  have hlo := fun (w5 : World) (hB : Below w.heap.size w w5) => Long5_any (hT.sys (Sys.ofBelow hB))
  have hwh := fun (w5 : World) (hB : Below w.heap.size w w5) => whole5_any (hT.sys (Sys.ofBelow hB))
  have hhn := hT.hn
  have hhm := hT.hmax
  have hcap := hT.cap
  obtain ⟨es, hes, h2⟩ := hT.his
  have hel : es.length = t.m := by unfold CTk.m; rw [← h2, List.length_map]
  obtain ⟨vp, vf, ⟨Ah, nh, ch⟩, vr⟩ := v
  simp only at hhn hhm hcap
  subst hhn
  simp only [ctkV, ctkC, ruV] at hlo hwh ⊢
  refine enter Try.func4 rfl Try.ntmps4 rfl ?_; simp only [frame, Nat.zero_add, Nat.reduceAdd]
  repeat (first | (refine M0 ?_; first | refine SL ?_ | refine SB fun _ _ => ?_ | refine Y4 (Ev.call (f := 18) (ck rfl) rfl (fun w5 S5 => hlo w5 S5.toBelow)) ?_) | (refine M1 ?_; refine SC ?_) | (refine M2 ?_; refine SE ?_))
  rename_i g3 hg3 g4 hg4 g5 hg5
  cases hlg : t.longB with
  | true =>
    repeat (first | (refine M0 ?_; first | refine SL ?_ | refine SB fun _ _ => ?_ | refine Y4 (Ev.call (f := 17) (ck rfl) rfl (fun w5 S5 => haw w5 S5)) ?_) | (refine M1 ?_; refine SC ?_) | (refine M2 ?_; refine SE ?_))
    refine XE.retg tok Try.results4 rfl (by simp only [and_self, and_true]) (fun w' S => ?_)
    exact ⟨rfl, S.toBelow⟩
  | false =>
  repeat (first | (refine M0 ?_; first | refine SL ?_ | refine SB fun _ _ => ?_ | refine Y4 (Ev.call (f := 19) (ck rfl) rfl (fun w5 S5 => hwh w5 S5.toBelow)) ?_) | (refine M1 ?_; refine SC ?_) | (refine M2 ?_; refine SE ?_))
  cases hwb : t.wholeB with
  | false =>
    repeat (first | (refine M0 ?_; first | refine SL ?_ | refine SB fun _ _ => ?_ | refine Y4 (Ev.call (f := 17) (ck rfl) rfl (fun w5 S5 => haw w5 S5)) ?_) | (refine M1 ?_; refine SC ?_) | (refine M2 ?_; refine SE ?_))
    refine XE.retg tok Try.results4 rfl (by simp only [and_self, and_true]) (fun w' S => ?_)
    exact ⟨rfl, S.toBelow⟩
  | true =>
  repeat (first | (refine M0 ?_; first | refine SL ?_ | refine SB fun _ _ => ?_) | (refine M1 ?_; refine SC ?_) | (refine M2 ?_; refine SE ?_))
  by_cases hm2 : t.m < 2
  · rw [show decide ((t.m : Int) < 2) = true from decide_eq_true (by omega)]
    repeat (first | (refine M0 ?_; first | refine SL ?_ | refine SB fun _ _ => ?_ | refine Y4 (Ev.call (f := 17) (ck rfl) rfl (fun w5 S5 => haw w5 S5)) ?_) | (refine M1 ?_; refine SC ?_) | (refine M2 ?_; refine SE ?_))
    refine XE.retg tok Try.results4 rfl (by simp only [and_self, and_true]) (fun w' S => ?_)
    exact ⟨rfl, S.toBelow⟩
  rw [show decide ((t.m : Int) < 2) = false from decide_eq_false (by omega)]
  have hw0 : IntKind.i64.wrap x0 = x0 := wrap_in (by unfold i64in; omega)
  have hw1 : IntKind.i64.wrap x1 = x1 := wrap_in (by unfold i64in; omega)
  obtain ⟨k, hk⟩ : ∃ k : Nat, k = x0.toNat % t.m := ⟨_, rfl⟩
  have hkm : k < t.m := by rw [hk]; exact Nat.mod_lt _ (by omega)
  have et : x0.tmod (t.m : Int) = (k : Int) := by
    rw [Int.tmod_eq_emod_of_nonneg hx0.1, hk]
    have : x0 = (x0.toNat : Int) := by omega
    rw [this]; rfl
  have hm0 : (t.m : Int) ≠ 0 := by omega
  repeat (first | (refine M0 ?_; first | refine SL ?_ | refine SB fun _ _ => ?_ | refine Y4 (Ev.idxArrP 0 arrH2 u16_sz5 rfl rfl rfl (by decide)) ?_ | refine Y4 (Ev.load_at tok 0 (g := g5) (o := 0) (j := 0) rfl rfl rfl rfl) ?_ | refine Y4 (Ev.conv Try.underlying43 Try.underlying3 rfl hw0) ?_) | (refine M1 ?_; refine SC ?_) | (refine M2 ?_; refine SE ?_))
  rw [et]
  refine XL.callF (ks := []) (rs := []) (hs := []) (b0 := w.heap.size) (wE := w) (DecR t r) (ck rfl) rfl rfl (Fam.start (Nat.le_refl w.heap.size)) (fun _ h => by cases h) (Below.refl w.heap.size w) (fun w1 S1 _ hB1 => Decide_made (v := ⟨vp, vf, ⟨Ah, t.m, ch⟩, vr⟩) (r := r) (hT.sys (Sys.ofBelow hB1))) (fun w1 x new hR hF1 hB1 hk1 => ?_) ZZHL
  obtain ⟨q1, q2, rfl, rfl⟩ := hR
  simp only [decV, decC, svV]
  repeat (first | (refine M0 ?_; first | refine SL ?_ | refine SB fun _ _ => ?_) | (refine M1 ?_; refine SC ?_) | (refine M2 ?_; refine SE ?_))
  obtain ⟨ad, rfl, hok⟩ := ListAt.addr (A := Ah) (n := t.m) (c := ch) hes (by decide) (by omega)
  have hk1' : (k : Int) + 1 = ((k + 1 : Nat) : Int) := by omega
  have hchk : k ≤ ch := by omega
  have hk1m : k + 1 ≤ t.m := hkm
  have hle : w.heap.size ≤ w.heap.size := Nat.le_refl _
  have ht1 : ListAt hisK0 w (Lt w.heap.size) ⟨some ad, k, ch⟩ (es.take k) := (ListAt.take (A := some ad) (n := t.m) (c := ch) hes.bare (by omega) (by decide))
  have ht2 : ListAt hisK0 w (Lt w.heap.size) ⟨if ch = k + 1 then some ad else (some ad).map (·.add ((k + 1) * 2)), t.m - (k + 1), ch - (k + 1)⟩ (es.drop (k + 1)) := ListAt.dropK (A := some ad) (n := t.m) (c := ch) (k := k + 1) hes.bare (by omega) hcap (by decide)
  have hlt : (es.take k).length + (es.drop (k + 1)).length ≤ 5000000 := by rw [List.length_take, List.length_drop]; omega
  rename_i g8 hg8 g10 hg10
  refine XC.drawRS (trunc w w.heap.size) [(g3, cel 29 (ctkC ⟨vp, vf, ⟨some ad, t.m, ch⟩, vr⟩ t))] [1, 2, 3, 4, 6, 7, 8, 9, 10] [0, 5, 11, 12, 13] mixed (fun _ h => Sys.anchorT hB1 h (by intro e he; repeat (first | (cases he; done) | (rcases List.mem_cons.1 he with rfl | he; · repeat (first | exact List.mem_cons_self | apply List.mem_cons_of_mem)))) (by simp) hle) rfl (by kernel_rfl) ?_
  simp only [ctkC]
  repeat (any_goals (first | (refine M0 ?_; first | refine SL ?_ | refine SB fun _ _ => ?_ | refine Y4 (Ev.load_loc tok 0 (g := g3) (o := 6) rfl rfl rfl rfl) ?_ | refine Y4 (Ev.slice_hi tok k rfl rfl rfl rfl hchk) ?_ | refine Y4 (Ev.slice_from tok (k + 1) rfl rfl hk1' rfl hk1m) ?_ | refine XL.newRow tok (K := hisK0) (l := []) (wE := w) rfl rfl rfl rfl rfl rfl rfl rfl rfl ⟨rfl, rfl⟩ rfl rfl hF1 hk1 hB1 hB1.size (fun a ha => by cases ha) (fun w7 g7 hF7 hB7 hk7 => ?_) ZZHL | refine XL.pushL (K := hisK0) (l := []) (l2 := es.take k) (r2 := ⟨some ad, k, ch⟩) (wE := w) 0 his0_el (by decide) rfl rfl rfl hF7 rfl hk7 hB7 (Nat.le_refl _) (fun w9 S9 => (ht1.below (hB7.trans S9.toBelow)).mono fun j hj => Nat.lt_of_lt_of_le hj (hB7.trans S9.toBelow).size) (fun a ha x hx => by cases hx) (fun a => rfl) (by simp only [List.length_nil]; omega) (by decide) (fun w8 v8 hF8 hB8 hk8 => ?_) ZZHL | refine XL.pushL (K := hisK0) (l := [] ++ es.take k) (l2 := es.drop (k + 1)) (r2 := ⟨if ch = k + 1 then some ad else (some ad).map (·.add ((k + 1) * 2)), t.m - (k + 1), ch - (k + 1)⟩) (wE := w) 0 his0_el (by decide) rfl rfl rfl hF8 rfl hk8 hB8 (Nat.le_refl _) (fun w9 S9 => (ht2.below (hB8.trans S9.toBelow)).mono fun j hj => Nat.lt_of_lt_of_le hj (hB8.trans S9.toBelow).size) (fun a ha x hx => by cases hx) (fun a => rfl) (by simp only [List.nil_append]; omega) (by decide) (fun w9 v9 hF9 hB9 hk9 => ?_) ZZHL) | (refine M1 ?_; refine SC ?_) | (refine M2 ?_; first | refine SE ?_ | ((with_reducible refine atHeld ?_); refine z7 ?_)) | (refine M3 ?_; first | refine SG ?_ | refine SF ?_ | refine YF (Ev.load_loc tok 0 (g := g3) (o := 6) rfl rfl rfl rfl) ?_ | refine YF (Ev.slice_hi tok k rfl rfl rfl rfl hchk) ?_ | refine YF (Ev.slice_from tok (k + 1) rfl rfl hk1' rfl hk1m) ?_) | (refine M4 ?_; refine SR ?_) | (refine M5 ?_; first | exact M7 | refine YM ?_ | refine YN ?_ ?_)))
  obtain ⟨⟨r9A, r9n, r9c⟩, rfl, hr9⟩ := hF9.sv (K := hisK0) (l := ([] ++ es.take k) ++ es.drop (k + 1)) (.head _)
  have hrow9 : w9.ownsRow w.heap.size 65 2 (.slice r9A r9n r9c) (([] ++ es.take k) ++ es.drop (k + 1)).length ((([] ++ es.take k) ++ es.drop (k + 1)).flatMap hisK0.c) := hF9.row _ (.head _)
  have hcap9 : r9n ≤ r9c := by
    obtain ⟨_, e, h3, _⟩ := ReadsP.own hrow9
    simp only [List.nil_append, List.length_append, List.length_take, List.length_drop] at e h3
    omega
  have hFr : Fam w9 w.heap.size _ [] (hList hisK0 ⟨r9A, r9n, r9c⟩ (es.take k ++ es.drop (k + 1)) :: _) := hF9.freeze (r := ⟨r9A, r9n, r9c⟩)
  have hwo : ({ t with his := (es.take k ++ es.drop (k + 1)).map (·.2) } : CTk) = t.wout k := by unfold CTk.wout; rw [List.map_append, List.map_take, List.map_drop, h2]
  have hsub : ∀ a, a ∈ es.take k ++ es.drop (k + 1) → a ∈ es := fun a ha => (List.mem_append.1 ha).elim List.mem_of_mem_take List.mem_of_mem_drop
  have hctu := fun {L : Lo} (w5 : World) (S5 : Sys w.heap.size w9 L w5) (hLs : ∀ e, e ∈ L → e.1 ∈ _ ∨ w9.heap.size ≤ e.1) => someCt_at (v := ⟨vp, vf, ⟨some ad, t.m, ch⟩, vr⟩) hT (hB9.trans S5.toBelow) hes (((hFr.sys S5 hLs).get (x := hList hisK0 ⟨r9A, r9n, r9c⟩ (es.take k ++ es.drop (k + 1))) (.head _) : ListAt hisK0 _ _ _ _).mono fun j hj => hj.2) hsub hcap9
  rw [hwo] at hctu
  simp only [svV]
  repeat (any_goals (first | (refine M0 ?_; refine SL ?_) | (refine M2 ?_; ((with_reducible refine atHeld ?_); refine z7 ?_)) | (refine M3 ?_; first | refine SG ?_ | refine SF ?_) | (refine M4 ?_; refine SR ?_) | (refine M5 ?_; first | exact M7 | refine YM ?_ | refine YN ?_ ?_)))
  refine SE ?_
  refine XC.seq ?_
  have hkz : ∀ {z z9 : World} {B : Nat} {L : Lo}, Sys B z L z9 → g10 ∈ L.map (·.1) → g8 ∈ L.map (·.1) → g5 ∈ L.map (·.1) → g4 ∈ L.map (·.1) → g3 ∈ L.map (·.1) → ∀ x, x ∈ [g10, g8, g5, g4, g3] → x < z9.heap.size := fun S9 m1 m2 m3 m4 m5 x hx => by
    simp only [List.mem_cons, List.not_mem_nil, or_false] at hx
    rcases hx with rfl | rfl | rfl | rfl | rfl
    · exact S9.keyLt _ m1
    · exact S9.keyLt _ m2
    · exact S9.keyLt _ m3
    · exact S9.keyLt _ m4
    · exact S9.keyLt _ m5
  refine XC.cutn [3, 5, 7, 8, 9, 10] rfl (fun z : World => []) (fun _ => [(g10, cel 29 (ctkC ⟨vp, vf, ⟨r9A, r9n, r9c⟩, vr⟩ t)), (g8, cel 49 [.int .i64 (t.decD r).plan.close, .int .i64 (t.decD r).plan.open_, .slice q1.A q1.n q1.c, .slice q2.A q2.n q2.c]), (g5, cel 44 [.int .u16 x0, .int .u16 x1]), (g4, cel 42 [.int .i64 r.count, .int .i64 r.early]), (g3, cel 29 (ctkC ⟨vp, vf, ⟨some ad, t.m, ch⟩, vr⟩ t))]) (fun z => z) (fun z => Below w.heap.size w z ∧ ∀ x, x ∈ [g10, g8, g5, g4, g3] → x < z.heap.size) ?_ ?_
  · repeat (first | (refine M0 ?_; first | refine SL ?_ | refine SB fun _ _ => ?_) | (refine M1 ?_; refine SC ?_) | (refine M2 ?_; refine SE ?_))
    by_cases hE : t.decE r = 0
    rotate_left
    · rw [show decide (t.decE r = 0) = false from decide_eq_false hE]
      repeat (first | (refine M0 ?_; first | refine SL ?_ | refine SB fun _ _ => ?_) | (refine M1 ?_; refine SC ?_) | (refine M2 ?_; refine SE ?_))
      exact XE.leafW (fun z9 S9 => ⟨z9, ⟨hB9.trans S9.toBelow, hkz S9 (by simp) (by simp) (by simp) (by simp) (by simp)⟩, ZZSUB, S9.rebase ZZSM⟩)
    rw [show decide (t.decE r = 0) = true from decide_eq_true hE]
    repeat (first | (refine M0 ?_; first | refine SL ?_ | refine SB fun _ _ => ?_) | (refine M1 ?_; refine SC ?_) | (refine M2 ?_; refine SE ?_))
    by_cases hcl : 0 ≤ (t.decD r).plan.close
    rotate_left
    · rw [show decide (0 ≤ (t.decD r).plan.close) = false from decide_eq_false hcl]
      repeat (first | (refine M0 ?_; first | refine SL ?_ | refine SB fun _ _ => ?_) | (refine M1 ?_; refine SC ?_) | (refine M2 ?_; refine SE ?_))
      exact XE.leafW (fun z9 S9 => ⟨z9, ⟨hB9.trans S9.toBelow, hkz S9 (by simp) (by simp) (by simp) (by simp) (by simp)⟩, ZZSUB, S9.rebase ZZSM⟩)
    rw [show decide (0 ≤ (t.decD r).plan.close) = true from decide_eq_true hcl]
    obtain ⟨l1, l2⟩ := less_all hE hcl hkm (by omega)
    have hal := fun {L : Lo} (w5 : World) (S5 : Sys w.heap.size w9 L w5) (hLs : ∀ e, e ∈ L → e.1 ∈ _ ∨ w9.heap.size ≤ e.1) => Allowed_any (t := t.wout k) (v := ⟨vp, vf, ⟨r9A, r9n, r9c⟩, vr⟩) (r := r) (i := (t.decD r).plan.close) (hctu w5 S5 hLs)
    have hab : (t.wout k).alwB r (t.decD r).plan.close = (t.wout k).allowed r (t.decD r).plan.close := by unfold CTk.alwB; rw [if_neg (by simp [l1])]
    rw [l1, hab] at hal
    simp only [ctkV, ctkC, ruV] at hal
    repeat (first | (refine M0 ?_; first | refine SL ?_ | refine SB fun _ _ => ?_ | refine Y4 (Ev.call (f := 21) (ck rfl) rfl (fun w5 S5 => hal w5 S5 ZZHL)) ?_) | (refine M1 ?_; refine SC ?_) | (refine M2 ?_; refine SE ?_))
    refine XL.callF (wE := w) (DecR (t.wout k) r) (ck rfl) rfl rfl hFr hk9 hB9 (fun w5 S5 hF5 hB5 => Decide_made (v := ⟨vp, vf, ⟨r9A, r9n, r9c⟩, vr⟩) (r := r) (hctu w5 S5 ZZHL)) (fun w10 x new hR hF10 hB10 hk10 => ?_) ZZHL
    obtain ⟨q3, q4, rfl, rfl⟩ := hR
    simp only [decV, decC, svV]
    repeat (first | (refine M0 ?_; first | refine SL ?_ | refine SB fun _ _ => ?_) | (refine M1 ?_; refine SC ?_) | (refine M2 ?_; refine SE ?_))
    cases ha : (t.wout k).allowed r (t.decD r).plan.close with
    | false =>
      repeat (first | (refine M0 ?_; first | refine SL ?_ | refine SB fun _ _ => ?_) | (refine M1 ?_; refine SC ?_) | (refine M2 ?_; refine SE ?_))
      exact XE.leafW (fun z9 S9 => ⟨z9, ⟨hB10.trans S9.toBelow, hkz S9 (by simp) (by simp) (by simp) (by simp) (by simp)⟩, ZZSUB, S9.rebase ZZSM⟩)
    | true =>
      obtain ⟨m1, m2⟩ := l2 ha
      repeat (first | (refine M0 ?_; first | refine SL ?_ | refine SB fun _ _ => ?_) | (refine M1 ?_; refine SC ?_) | (refine M2 ?_; refine SE ?_))
      rw [show decide ((t.wout k).decE r ≠ 0) = false from decide_eq_false (fun h => h m1)]
      repeat (first | (refine M0 ?_; first | refine SL ?_ | refine SB fun _ _ => ?_) | (refine M1 ?_; refine SC ?_) | (refine M2 ?_; refine SE ?_))
      rw [show decide (((t.wout k).decD r).plan.close < (t.decD r).plan.close) = false from decide_eq_false (by omega)]
      repeat (first | (refine M0 ?_; first | refine SL ?_ | refine SB fun _ _ => ?_) | (refine M1 ?_; refine SC ?_) | (refine M2 ?_; refine SE ?_))
      exact XE.leafW (fun z9 S9 => ⟨z9, ⟨hB10.trans S9.toBelow, hkz S9 (by simp) (by simp) (by simp) (by simp) (by simp)⟩, ZZSUB, S9.rebase ZZSM⟩)
  rintro z ⟨hBz, hkz2⟩
  simp only [ctkC]
  dsimp only [List.cons_append, List.nil_append]
  obtain ⟨nl, hnl⟩ : ∃ nl, nl = min 20000 (IntKind.i64.wrap (t.limit + x1)) := ⟨_, rfl⟩
  have hnlo : ctE t = 0 → t.limit ≤ nl ∧ nl ≤ 20000 := fun hc => by
    have ho := ctOk_of hc
    have h1 := ho.lim
    have h2 := (ho.ok.level 0 (by have := ho.ok.n2; omega)).1
    rw [hnl, wrap_in (by unfold i64in; omega)]
    omega
  refine SC ?_
  refine SC ?_
  repeat (first | (refine M0 ?_; first | refine SL ?_ | refine SB fun _ _ => ?_) | (refine M2 ?_; refine SE ?_) | (refine M3 ?_; first | refine SG ?_ | refine SF ?_) | (refine M4 ?_; refine SR ?_) | (refine M5 ?_; first | exact M7 | refine YM ?_ | refine YN ?_ ?_))
  refine SC ?_
  refine SC ?_
  repeat (first | (refine M0 ?_; first | refine SL ?_ | refine SB fun _ _ => ?_ | refine Y4 (Ev.idxArrP 1 arrH2 u16_sz5 rfl rfl rfl (by decide)) ?_ | refine Y4 (Ev.load_at tok 2 (g := g5) (o := 0) (j := 1) rfl rfl rfl rfl) ?_ | refine Y4 (Ev.conv Try.underlying43 Try.underlying3 rfl hw1) ?_ | refine Y4 (Ev.add_w rfl rfl) ?_) | (refine M2 ?_; refine SE ?_) | (refine M3 ?_; first | refine SG ?_ | refine SF ?_ | refine YF (Ev.idxArrP 1 arrH2 u16_sz5 rfl rfl rfl (by decide)) ?_ | refine YF (Ev.load_at tok 2 (g := g5) (o := 0) (j := 1) rfl rfl rfl rfl) ?_ | refine YF (Ev.conv Try.underlying43 Try.underlying3 rfl hw1) ?_ | refine YF (Ev.add_w rfl rfl) ?_) | (refine M4 ?_; refine SR ?_) | (refine M5 ?_; first | exact M7 | refine YM ?_ | refine YN ?_ ?_))
  rw [← hnl]
  refine XC.seq ?_
  refine XC.cutn [3, 7, 10] rfl (fun z : World => []) (fun _ => [(g10, cel 29 (ctkC ⟨vp, vf, ⟨some ad, t.m, ch⟩, vr⟩ (t.more nl))), (g8, cel 49 [.int .i64 (t.decD r).plan.close, .int .i64 (t.decD r).plan.open_, .slice q1.A q1.n q1.c, .slice q2.A q2.n q2.c]), (g5, cel 44 [.int .u16 x0, .int .u16 x1]), (g4, cel 42 [.int .i64 r.count, .int .i64 r.early]), (g3, cel 29 (ctkC ⟨vp, vf, ⟨some ad, t.m, ch⟩, vr⟩ t))]) (fun z => z) (fun z => Below w.heap.size w z) ?_ ?_
  · repeat (first | (refine M0 ?_; first | refine SL ?_ | refine SB fun _ _ => ?_) | (refine M1 ?_; refine SC ?_) | (refine M2 ?_; refine SE ?_))
    by_cases hE : t.decE r = 0
    rotate_left
    · rw [show decide (t.decE r = 0) = false from decide_eq_false hE]
      repeat (first | (refine M0 ?_; first | refine SL ?_ | refine SB fun _ _ => ?_) | (refine M1 ?_; refine SC ?_) | (refine M2 ?_; refine SE ?_))
      exact XE.leafW (fun z9 S9 => ⟨z9, hBz.trans S9.toBelow, ZZSUB, S9.rebase ZZSM⟩)
    rw [show decide (t.decE r = 0) = true from decide_eq_true hE]
    obtain ⟨hc, ho, hst⟩ := dec_ok hE
    obtain ⟨hn1, hn2⟩ := hnlo hc
    have hou := more_ok ho hn1 hn2
    have e1 := hld_of ho hst
    have hstu : (t.more nl).strange (t.decD r).plan = false := by rw [(more_same t nl).strange]; exact hst
    have e2 := hld_of hou hstu
    obtain ⟨-, -, -, f1⟩ := hld_0 e1
    obtain ⟨-, -, -, f2⟩ := hld_0 e2
    have n1 : (t.hldL (t.decD r).plan).length = t.m := by rw [f1]; unfold CTk.holdL; rw [List.length_map, List.length_range]
    have n2 : ((t.more nl).hldL (t.decD r).plan).length = t.m := by rw [f2]; unfold CTk.holdL; rw [List.length_map, List.length_range]; rfl
    have hm8 := ho.m8
    repeat (first | (refine M0 ?_; first | refine SL ?_ | refine SB fun _ _ => ?_) | (refine M1 ?_; refine SC ?_) | (refine M2 ?_; refine SE ?_))
    refine XL.callF (ks := [g10, g8, g5, g4, g3]) (rs := []) (hs := []) (b0 := w.heap.size) (wE := w) (HldR t (t.decD r).plan) (ck rfl) rfl rfl (Fam.start hBz.size) hkz2 hBz (fun w5 S5 _ hB5 => Holds_made (v := ⟨vp, vf, ⟨some ad, t.m, ch⟩, vr⟩) (p := (t.decD r).plan) (hT.sys (Sys.ofBelow hB5))) (fun wa x new hR hFa hBa hka => ?_) ZZHL
    obtain ⟨⟨a1, m1, c1⟩, rfl, rfl⟩ := hR
    have hLa : ListAt boolK5 wa (Free wa w.heap.size _ []) ⟨a1, m1, c1⟩ (t.hldL (t.decD r).plan) := hFa.held (hList boolK5 ⟨a1, m1, c1⟩ (t.hldL (t.decD r).plan)) (.head _)
    have hq1 := hLa.len (by decide)
    simp only [n1] at hq1
    subst hq1
    rw [e1]
    simp only [svV]
    repeat (first | (refine M0 ?_; first | refine SL ?_ | refine SB fun _ _ => ?_) | (refine M1 ?_; refine SC ?_) | (refine M2 ?_; refine SE ?_))
    refine XL.callF (wE := w) (HldR (t.more nl) (t.decD r).plan) (ck rfl) rfl rfl hFa hka hBa (fun w5 S5 _ hB5 => Holds_made (v := ⟨vp, vf, ⟨some ad, t.m, ch⟩, vr⟩) (p := (t.decD r).plan) ((hT.sys (Sys.ofBelow hB5)).withLimit nl)) (fun wb x new hR hFb hBb hkb => ?_) ZZHL
    obtain ⟨⟨a2, m2, c2⟩, rfl, rfl⟩ := hR
    have hLb : ListAt boolK5 wb (Free wb w.heap.size _ []) ⟨a2, m2, c2⟩ ((t.more nl).hldL (t.decD r).plan) := hFb.held (hList boolK5 ⟨a2, m2, c2⟩ ((t.more nl).hldL (t.decD r).plan)) (.head _)
    have hLc : ListAt boolK5 wb (Free wb w.heap.size _ []) ⟨a1, t.m, c1⟩ (t.hldL (t.decD r).plan) := hFb.held (hList boolK5 ⟨a1, t.m, c1⟩ (t.hldL (t.decD r).plan)) (.tail _ (.head _))
    have hq2 := hLb.len (by decide)
    simp only [n2] at hq2
    subst hq2
    rw [e2]
    simp only [svV]
    repeat (first | (refine M0 ?_; first | refine SL ?_ | refine SB fun _ _ => ?_) | (refine M2 ?_; refine SE ?_) | (refine M3 ?_; first | refine SG ?_ | refine SF ?_) | (refine M4 ?_; refine SR ?_) | (refine M5 ?_; first | exact M7 | refine YM ?_ | refine YN ?_ ?_))
    refine SC ?_
    refine SC ?_
    refine SC ?_
    repeat (first | (refine M0 ?_; first | refine SL ?_ | refine SB fun _ _ => ?_) | (refine M2 ?_; refine SE ?_) | (refine M3 ?_; first | refine SG ?_ | refine SF ?_) | (refine M4 ?_; refine SR ?_) | (refine M5 ?_; first | exact M7 | refine YM ?_ | refine YN ?_ ?_))
    rw [show decide ((t.m : Int) ≠ (t.m : Int)) = false from decide_eq_false (fun h => h rfl)]
    repeat (first | (refine M0 ?_; first | refine SL ?_ | refine SB fun _ _ => ?_) | (refine M1 ?_; refine SC ?_) | (refine M2 ?_; refine SE ?_))
    refine XC.loopk [3, 7, 10, 15, 17] rfl (fun i : Nat => [(19, .int .i64 (i : Nat))]) (fun _ => [(g10, cel 29 (ctkC ⟨vp, vf, ⟨some ad, t.m, ch⟩, vr⟩ (t.more nl))), (g8, cel 49 [.int .i64 (t.decD r).plan.close, .int .i64 (t.decD r).plan.open_, .slice q1.A q1.n q1.c, .slice q2.A q2.n q2.c]), (g5, cel 44 [.int .u16 x0, .int .u16 x1]), (g4, cel 42 [.int .i64 r.count, .int .i64 r.early]), (g3, cel 29 (ctkC ⟨vp, vf, ⟨some ad, t.m, ch⟩, vr⟩ t))]) (fun _ => wb) (fun i => i ≤ t.m) (fun i => t.m - i) 0 (Nat.zero_le _) ZZSUB (fun _ h => h) ?_
    intro i hi
    simp only [ctkC]
    dsimp only [List.cons_append, List.nil_append]
    repeat (first | (refine M0 ?_; first | refine SL ?_ | refine SB fun _ _ => ?_) | (refine M1 ?_; refine SC ?_) | (refine M2 ?_; refine SE ?_))
    refine XC.cond _ rfl (fun h1 => ?_) (fun h1 => ?_)
    rotate_left
    · repeat (first | (refine M0 ?_; first | refine SL ?_ | refine SB fun _ _ => ?_) | (refine M1 ?_; refine SC ?_) | (refine M2 ?_; refine SE ?_))
      exact XE.leafW (fun z9 S9 => ⟨z9, hBb.trans S9.toBelow, ZZSUB, S9.rebase ZZSM⟩)
    have him : i < t.m := by have := of_decide_eq_true h1; omega
    obtain ⟨ad1, rfl, hfa⟩ := hLc.addr (by decide) (by omega)
    obtain ⟨ad2, rfl, hfb⟩ := hLb.addr (by decide) (by omega)
    have ca := hLc.elem (show (t.hldL (t.decD r).plan)[i]? = some (t.holds i (t.decD r).plan) from by rw [f1]; exact holdL_at him) 0 (.bool (t.holds i (t.decD r).plan)) rfl
    have cb := hLb.elem (show ((t.more nl).hldL (t.decD r).plan)[i]? = some ((t.more nl).holds i (t.decD r).plan) from by rw [f2]; exact holdL_at (t := t.more nl) him) 0 (.bool ((t.more nl).holds i (t.decD r).plan)) rfl
    rw [add_add, Nat.add_zero] at ca cb
    have ca : wb.cell? (ad1.add (i * 1)) = some (.bool (t.holds i (t.decD r).plan)) := ca
    have cb : wb.cell? (ad2.add (i * 1)) = some (.bool ((t.more nl).holds i (t.decD r).plan)) := cb
    have la : (ad1.add (i * 1)).block < wb.heap.size := by rw [add_block]; exact hfa.2.1
    have lb : (ad2.add (i * 1)).block < wb.heap.size := by rw [add_block]; exact hfb.2.1
    have hmh := more_holds ho hn1 hn2 him hst
    cases hh : t.holds i (t.decD r).plan with
    | false =>
      rw [hh] at ca
      repeat (first | (refine M0 ?_; first | refine SL ?_ | refine SB fun _ _ => ?_ | refine Y4 (Ev.load_far tok rfl rfl la (hfa.far ZZHL) ca) ?_) | (refine M1 ?_; refine SC ?_) | (refine M2 ?_; refine SE ?_))
      exact XE.round (s := i) (i + 1) (by omega) (by omega) ZZSUB (fun _ h => h)
    | true =>
      rw [hh] at ca
      rw [hmh hh] at cb
      repeat (first | (refine M0 ?_; first | refine SL ?_ | refine SB fun _ _ => ?_ | refine Y4 (Ev.load_far tok rfl rfl la (hfa.far ZZHL) ca) ?_ | refine Y4 (Ev.load_far tok rfl rfl lb (hfb.far ZZHL) cb) ?_) | (refine M1 ?_; refine SC ?_) | (refine M2 ?_; refine SE ?_))
      exact XE.round (s := i) (i + 1) (by omega) (by omega) ZZSUB (fun _ h => h)
  intro z2 hBz2
  simp only [ctkC]
  dsimp only [List.cons_append, List.nil_append]
  have hla := fun {L : Lo} (w5 : World) (S5 : Sys w.heap.size z2 L w5) => Last_any (v := ⟨vp, vf, ⟨some ad, t.m, ch⟩, vr⟩) (t := t) (h0 := (k : Nat)) (hT.sys (Sys.ofBelow (hBz2.trans S5.toBelow)))
  have hlb := fun {L : Lo} (w5 : World) (S5 : Sys w.heap.size z2 L w5) => Last_any (v := ⟨vp, vf, ⟨some ad, t.m, ch⟩, vr⟩) (t := t.more nl) (h0 := (k : Nat)) ((hT.sys (Sys.ofBelow (hBz2.trans S5.toBelow))).withLimit nl)
  simp only [ctkV, ctkC] at hla hlb
  refine SC ?_
  refine SC ?_
  repeat (first | (refine M0 ?_; first | refine SL ?_ | refine SB fun _ _ => ?_ | refine Y4 (Ev.call (f := 23) (ck rfl) rfl (fun w5 S5 => hla w5 S5)) ?_) | (refine M2 ?_; refine SE ?_) | (refine M3 ?_; first | refine SG ?_ | refine SF ?_ | refine YF (Ev.call (f := 23) (ck rfl) rfl (fun w5 S5 => hla w5 S5)) ?_) | (refine M4 ?_; refine SR ?_) | (refine M5 ?_; first | exact M7 | refine YM ?_ | refine YN ?_ ?_))
  repeat (first | (refine M0 ?_; first | refine SL ?_ | refine SB fun _ _ => ?_ | refine Y4 (Ev.call (f := 23) (ck rfl) rfl (fun w5 S5 => hlb w5 S5)) ?_) | (refine M1 ?_; refine SC ?_) | (refine M2 ?_; refine SE ?_))
  by_cases hls : t.lasE (k : Nat) = 0
  rotate_left
  · rw [show decide (t.lasE (k : Nat) ≠ 0) = true from decide_eq_true hls]
    repeat (first | (refine M0 ?_; first | refine SL ?_ | refine SB fun _ _ => ?_ | refine Y4 (Ev.call (f := 17) (ck rfl) rfl (fun w5 S5 => haw w5 S5)) ?_) | (refine M1 ?_; refine SC ?_) | (refine M2 ?_; refine SE ?_))
    refine XE.retg tok Try.results4 rfl (by simp only [and_self, and_true]) (fun w' S => ?_)
    exact ⟨rfl, hBz2.trans S.toBelow⟩
  obtain ⟨hn1, hn2⟩ := hnlo (las_0 hls).1
  obtain ⟨p1, p2⟩ := more_last hn1 hn2 hls
  rw [show decide (t.lasE (k : Nat) ≠ 0) = false from decide_eq_false (fun h => h hls)]
  repeat (first | (refine M0 ?_; first | refine SL ?_ | refine SB fun _ _ => ?_) | (refine M1 ?_; refine SC ?_) | (refine M2 ?_; refine SE ?_))
  rw [show decide ((t.more nl).lasE (k : Nat) = 0) = true from decide_eq_true p1]
  repeat (first | (refine M0 ?_; first | refine SL ?_ | refine SB fun _ _ => ?_) | (refine M1 ?_; refine SC ?_) | (refine M2 ?_; refine SE ?_))
  rw [show decide (t.lasN (k : Nat) ≤ (t.more nl).lasN (k : Nat)) = true from decide_eq_true p2]
  repeat (first | (refine M0 ?_; first | refine SL ?_ | refine SB fun _ _ => ?_ | refine Y4 (Ev.call (f := 17) (ck rfl) rfl (fun w5 S5 => haw w5 S5)) ?_) | (refine M1 ?_; refine SC ?_) | (refine M2 ?_; refine SE ?_))
  refine XE.retg tok Try.results4 rfl (by simp only [and_self, and_true]) (fun w' S => ?_)
  exact ⟨rfl, hBz2.trans S.toBelow⟩
end Go.Proofs.Ytmpaiphakjogjaa.X
