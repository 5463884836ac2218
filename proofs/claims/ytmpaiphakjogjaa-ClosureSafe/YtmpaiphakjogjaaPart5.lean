/-
  The walks of whole, Long and levels of the statements (closure).
-/
import Derived.Test.YtmpaiphakjogjaaPart4
set_option linter.unusedVariables false
set_option linter.unusedSimpArgs false
namespace Go.Proofs.Ytmpaiphakjogjaa.Bs
open Go Go.Proofs.Ytmpaiphakjogjaa.X
set_option linter.unusedVariables false
def CTk.wholeB (t : CTk) : Bool := decide (0 < t.m) && (List.range t.m).all fun k => decide ((t.h k).vals.length = t.river.length) && decide ((t.h k).from_ = t.from_)
def CTk.longB (t : CTk) : Bool := (decide (12 < t.river.length) && decide (t.river.length ≤ 60)) || (decide (4 < t.m) && decide (t.m ≤ 8))
theorem whole_ok {t : CTk} (ho : CtOk t) : t.wholeB = true := by
  unfold CTk.wholeB
  rw [decide_eq_true (by have := ho.m1; omega), Bool.true_and, List.all_eq_true]
  intro k hk
  have hk' := List.mem_range.1 hk
  rw [decide_eq_true (by rw [ho.len k hk', ho.river]), decide_eq_true (ho.from_ k hk')]; rfl
theorem whole_t {t : CTk} (h : t.wholeB = true) : 0 < t.m ∧ ∀ k, k < t.m → (t.h k).vals.length = t.river.length ∧ (t.h k).from_ = t.from_ := by
  unfold CTk.wholeB at h
  rw [Bool.and_eq_true, decide_eq_true_eq, List.all_eq_true] at h
  exact ⟨h.1, fun k hk => by have := h.2 k (List.mem_range.2 hk); rw [Bool.and_eq_true, decide_eq_true_eq, decide_eq_true_eq] at this; exact this⟩
end Go.Proofs.Ytmpaiphakjogjaa.Bs
namespace Go.Proofs.Ytmpaiphakjogjaa.X
open Go Go.RowKit Go.Proofs.Ytmpaiphakjogjaa.Bs
set_option linter.unusedVariables false
set_option maxHeartbeats 8000000 in
theorem whole5_any {v : CTV} {t : CTk} {w : World} (hT : CtAt w w.heap.size v t) :
    Calls Try.prog 19 #[ctkV v t] w fun e w' => e = .returned (.bool t.wholeB) ∧ Below w.heap.size w w' := by
  have hhn := hT.hn
  have hhm := hT.hmax
  have hhis := fun k hk => hT.hisAt (k := k) hk
  have hrn := hT.river.len
  have hrm := hT.river.max
  obtain ⟨vp, vf, ⟨Ah, nh, ch⟩, ⟨Ar, nr, cr⟩⟩ := v
  simp only at hhn hrn hhis hhm hrm
  subst hhn hrn
  simp only [ctkV, ctkC]
  refine enter Try.func19 rfl Try.ntmps19 rfl ?_; simp only [frame, Nat.zero_add, Nat.reduceAdd]
  repeat (first | (refine M0 ?_; first | refine SL ?_ | refine SB fun _ _ => ?_) | (refine M1 ?_; refine SC ?_) | (refine M2 ?_; refine SE ?_))
  rename_i g1 hg1
  refine XC.loopk [1] rfl (fun k : Nat => [(3, .int .i64 (k : Nat))]) (fun _ => [(g1, cel 29 (ctkC ⟨vp, vf, ⟨Ah, t.m, ch⟩, ⟨Ar, t.river.length, cr⟩⟩ t))]) (fun _ => w) (fun k => k ≤ t.m ∧ ∀ j, j < k → (t.h j).vals.length = t.river.length ∧ (t.h j).from_ = t.from_) (fun k => t.m - k) 0 ⟨Nat.zero_le _, fun j h => absurd h (by omega)⟩ ZZSUB (fun _ h => h) ?_
  rintro k ⟨hk, h0⟩
  simp only [ctkC]
  dsimp only [List.cons_append, List.nil_append]
  repeat (first | (refine M0 ?_; first | refine SL ?_ | refine SB fun _ _ => ?_) | (refine M1 ?_; refine SC ?_) | (refine M2 ?_; refine SE ?_))
  refine XC.cond _ rfl (fun h2 => ?_) (fun h2 => ?_)
  rotate_left
  · have hkn : k = t.m := by have := of_decide_eq_false h2; omega
    subst hkn
    repeat (first | (refine M0 ?_; first | refine SL ?_ | refine SB fun _ _ => ?_) | (refine M1 ?_; refine SC ?_) | (refine M2 ?_; refine SE ?_))
    refine XE.retg tok Try.results19 rfl (by simp only [and_self, and_true]) (fun w' S => ?_)
    refine ⟨?_, S.toBelow⟩
    have e : t.wholeB = decide ((0 : Int) < (t.m : Int)) := by
      unfold CTk.wholeB
      rw [show ((List.range t.m).all fun k => decide ((t.h k).vals.length = t.river.length) && decide ((t.h k).from_ = t.from_)) = true from List.all_eq_true.2 fun k hk => by
        obtain ⟨a, b⟩ := h0 k (List.mem_range.1 hk)
        rw [decide_eq_true a, decide_eq_true b]; rfl, Bool.and_true]
      by_cases h : 0 < t.m
      · rw [decide_eq_true h, decide_eq_true (by omega)]
      · rw [decide_eq_false h, decide_eq_false (by omega)]
    rw [e]; rfl
  have hkn : k < t.m := by have := of_decide_eq_true h2; omega
  obtain ⟨ad, q, e1, hlt, hc, hq⟩ := hhis k hkn
  obtain ⟨ad', q0, e1', hlt', hc', hq0⟩ := hhis 0 (by omega)
  obtain rfl := e1
  obtain rfl : ad = ad' := Option.some.inj e1'
  have hql := hq.len
  have hqm := hq.max
  have c0 := hc 0 _ rfl
  have c1 := hc 1 _ rfl
  have d0 := hc' 0 _ rfl
  obtain ⟨qA, qn, qc⟩ := q
  simp only at hql hqm
  subst hql
  simp only [svV] at c1
  have hno : ∀ j, j < t.m → ¬((t.h j).vals.length = t.river.length ∧ (t.h j).from_ = t.from_) → t.wholeB = false := fun j hj hn => by
    cases hw : t.wholeB with
    | false => rfl
    | true => exact absurd ((whole_t hw).2 j hj) hn
  have hadd : ∀ j, (ad.add j).block < w.heap.size := fun j => add_lt hlt
  repeat (any_goals (first | (refine M0 ?_; first | refine SL ?_ | refine SB fun _ _ => ?_ | (refine XL.split _ _ rfl (fun h => ?_) (fun h => ?_) <;> rw [h]) | refine Y4 (Ev.load_old tok rfl rfl (add_lt2 hlt) c1) ?_ | refine Y4 (Ev.load_old tok rfl rfl (add_lt2 hlt) c0) ?_ | refine Y4 (Ev.load_old tok rfl rfl (add_lt2 hlt) d0) ?_) | (refine M1 ?_; first | refine SC ?_ | refine SD ?_ | refine XC.cond _ rfl (fun h => ?_) (fun h => ?_)) | (refine M2 ?_; refine SE ?_) | (refine M3 ?_; first | refine SG ?_ | refine SF ?_ | (refine Fw.split _ _ rfl (fun h => ?_) (fun h => ?_) <;> rw [h]) | refine YF (Ev.load_old tok rfl rfl (add_lt2 hlt) c1) ?_ | refine YF (Ev.load_old tok rfl rfl (add_lt2 hlt) c0) ?_ | refine YF (Ev.load_old tok rfl rfl (add_lt2 hlt) d0) ?_) | (refine M4 ?_; refine SR ?_) | (refine M5 ?_; first | exact M7 | refine YM ?_ | refine YN ?_ ?_)))
  · have hl : (t.h k).vals.length ≠ t.river.length := by have := of_decide_eq_true h; omega
    refine XE.retg tok Try.results19 rfl (by simp only [and_self, and_true]) (fun w' S => ?_)
    rw [hno k hkn (fun h => hl h.1)]
    exact ⟨rfl, S.toBelow⟩
  · have hl : (t.h k).from_ ≠ (t.h 0).from_ := of_decide_eq_true h
    refine XE.retg tok Try.results19 rfl (by simp only [and_self, and_true]) (fun w' S => ?_)
    rw [hno k hkn (fun h => hl h.2)]
    exact ⟨rfl, S.toBelow⟩
  · rename_i h5
    have e5 : (t.h k).vals.length = t.river.length := by have := of_decide_eq_false h5; omega
    have e6 : (t.h k).from_ = t.from_ := Decidable.byContradiction fun hn => of_decide_eq_false h hn
    refine XE.round (s := k) (k + 1) ⟨hkn, fun j hj => ?_⟩ (by omega) ZZSUB (fun _ h => h)
    rcases Nat.lt_or_ge j k with h6 | h6
    · exact h0 j h6
    · have : j = k := by omega
      subst this
      exact ⟨e5, e6⟩
set_option maxHeartbeats 8000000 in
theorem levels5_any {v : CTV} {t : CTk} {k : Nat} {p : CPl} {w : World} (hT : CtAt w w.heap.size v t) (ho : CtOk t) (hk : k < t.m) (hp : t.strange p = false) :
    Calls Try.prog 25 #[ctkV v t, .int .i64 (k : Nat), plnV p] w fun e w' => e = .returned (.tuple ⟨[.bool (t.holds k p), .bool true]⟩) ∧ Below w.heap.size w w' := by
  have hin := fun (w5 : World) (hB : Below w.heap.size w w5) => Inner_made (v := v) (h0 := (k : Nat)) (p := p) (hT.sys (Sys.ofBelow hB))
  have hrn := hT.river.len
  have hrv := ho.river
  have h60 := ho.n60
  obtain ⟨vp, vf, vh, ⟨Ar, nr, cr⟩⟩ := v
  simp only at hrn
  subst hrn
  simp only [ctkV, ctkC, plnV] at hin ⊢
  refine enter Try.func25 rfl Try.ntmps25 rfl ?_; simp only [frame, Nat.zero_add, Nat.reduceAdd]
  repeat (first | (refine M0 ?_; first | refine SL ?_ | refine SB fun _ _ => ?_) | (refine M1 ?_; refine SC ?_) | (refine M2 ?_; refine SE ?_))
  rename_i g3 hg3 g5 hg5
  refine XL.callF (ks := []) (rs := []) (hs := []) (b0 := w.heap.size) (wE := w) (InnR t (k : Nat) p) (ck rfl) rfl rfl (Fam.start (Nat.le_refl _)) (fun _ h => by cases h) (Below.refl _ w) (fun w1 S1 _ hB1 => hin w1 hB1) (fun w2 x new hR hF2 hB2 hk2 => ?_) ZZHL
  obtain ⟨q, rfl, rfl⟩ := hR
  have hl : ListAt spnK5 w2 (Free w2 w.heap.size _ []) q (t.innL (k : Nat) p) := hF2.held (hList spnK5 q (t.innL (k : Nat) p)) (.head _)
  have hql := hl.len (by decide)
  obtain ⟨qA, qn, qc⟩ := q
  simp only at hql
  subst hql
  simp only [svV]
  rcases lev_holds ho hk hp with ⟨e1, e2⟩ | ⟨e1, e2, e3⟩
  · have e4 : t.innL (k : Nat) p = [] := by unfold CTk.innL; rw [if_pos (by rw [e1]; decide)]
    rw [e1, e2, e4]
    simp only [List.length_nil]
    repeat (first | (refine M0 ?_; first | refine SL ?_ | refine SB fun _ _ => ?_) | (refine M1 ?_; refine SC ?_) | (refine M2 ?_; refine SE ?_))
    refine XC.loopk [9, 10, 8] rfl (fun _ : Unit => [(11, .bool false), (12, .int .i64 0)]) (fun _ => [(g5, cel 36 [.int .i64 p.close, .int .i64 p.open_]), (g3, cel 29 (ctkC ⟨vp, vf, vh, ⟨Ar, t.river.length, cr⟩⟩ t))]) (fun _ => w2) (fun _ => True) (fun _ => 1) () trivial ZZSUB (fun _ h => h) ?_
    intro u hu
    simp only [ctkC]
    dsimp only [List.cons_append, List.nil_append]
    repeat (first | (refine M0 ?_; first | refine SL ?_ | refine SB fun _ _ => ?_) | (refine M1 ?_; refine SC ?_) | (refine M2 ?_; refine SE ?_))
    refine XE.retg tok Try.results25 rfl (by simp only [and_self, and_true]) (fun w' S => ?_)
    exact ⟨rfl, hB2.trans S.toBelow⟩
  · rw [e1]
    have hlr : (t.innL (k : Nat) p).length = t.river.length := by rw [e2, hrv]
    obtain ⟨l, hll⟩ : ∃ l, l = t.innL (k : Nat) p := ⟨_, rfl⟩
    rw [← hll] at hl hlr e3 ⊢
    repeat (first | (refine M0 ?_; first | refine SL ?_ | refine SB fun _ _ => ?_) | (refine M1 ?_; refine SC ?_) | (refine M2 ?_; refine SE ?_))
    rw [show decide ((l.length : Int) = (t.river.length : Int)) = true from decide_eq_true (by omega)]
    repeat (first | (refine M0 ?_; first | refine SL ?_ | refine SB fun _ _ => ?_) | (refine M1 ?_; refine SC ?_) | (refine M2 ?_; refine SE ?_))
    refine XC.loopk [3, 8, 9, 10] rfl (fun j : Nat => [(11, .bool ((l.take j).all fun x => decide (x.2 ≤ t.limit))), (12, .int .i64 (j : Nat))]) (fun _ => [(g5, cel 36 [.int .i64 p.close, .int .i64 p.open_]), (g3, cel 29 (ctkC ⟨vp, vf, vh, ⟨Ar, t.river.length, cr⟩⟩ t))]) (fun _ => w2) (fun j => j ≤ l.length) (fun j => l.length - j) 0 (Nat.zero_le _) ZZSUB (fun _ h => h) ?_
    intro j hj
    simp only [ctkC]
    dsimp only [List.cons_append, List.nil_append]
    repeat (first | (refine M0 ?_; first | refine SL ?_ | refine SB fun _ _ => ?_) | (refine M1 ?_; refine SC ?_) | (refine M2 ?_; refine SE ?_))
    refine XC.cond _ rfl (fun h2 => ?_) (fun h2 => ?_)
    rotate_left
    · have hjn : j = l.length := by have := of_decide_eq_false h2; omega
      subst hjn
      rw [List.take_length, e3]
      repeat (first | (refine M0 ?_; first | refine SL ?_ | refine SB fun _ _ => ?_) | (refine M1 ?_; refine SC ?_) | (refine M2 ?_; refine SE ?_))
      refine XE.retg tok Try.results25 rfl (by simp only [and_self, and_true]) (fun w' S => ?_)
      exact ⟨rfl, hB2.trans S.toBelow⟩
    have hjn : j < l.length := by have := of_decide_eq_true h2; omega
    obtain ⟨ad, rfl, hfr⟩ := hl.addr (by decide) (by omega)
    have hcell := hl.elem (List.getElem?_eq_getElem hjn) 1 (.int .i64 l[j].2) rfl
    have hcell : w2.cell? ((ad.add (j * 2)).add 1) = some (.int .i64 l[j].2) := hcell
    have htk : (l.take (j + 1)).all (fun x => decide (x.2 ≤ t.limit)) = ((l.take j).all (fun x => decide (x.2 ≤ t.limit)) && decide (l[j].2 ≤ t.limit)) := by
      rw [List.take_succ_eq_append_getElem hjn, List.all_append]; simp
    have hlt2 : ((ad.add (j * 2)).add 1).block < w2.heap.size := by rw [add_block, add_block]; exact hfr.2.1
    cases hb : (l.take j).all fun x => decide (x.2 ≤ t.limit) with
    | false =>
      rw [hb] at htk
      repeat (first | (refine M0 ?_; first | refine SL ?_ | refine SB fun _ _ => ?_) | (refine M1 ?_; first | refine SC ?_ | refine SD ?_) | (refine M2 ?_; refine SE ?_) | (refine M3 ?_; first | refine SG ?_ | refine SF ?_) | (refine M4 ?_; refine SR ?_) | (refine M5 ?_; first | exact M7 | refine YM ?_ | refine YN ?_ ?_))
      exact XE.round (s := j) (j + 1) (by omega) (by omega) (Sub.cons (by simp only [htk]; rfl) ZZSUB) (fun _ h => h)
    | true =>
      rw [hb] at htk
      repeat (first | (refine M0 ?_; first | refine SL ?_ | refine SB fun _ _ => ?_ | refine Y4 (Ev.load_far tok rfl rfl hlt2 (hfr.far2 ZZHL) hcell) ?_) | (refine M1 ?_; first | refine SC ?_ | refine SD ?_) | (refine M2 ?_; refine SE ?_) | (refine M3 ?_; first | refine SG ?_ | refine SF ?_ | refine YF (Ev.load_far tok rfl rfl hlt2 (hfr.far2 ZZHL) hcell) ?_) | (refine M4 ?_; refine SR ?_) | (refine M5 ?_; first | exact M7 | refine YM ?_ | refine YN ?_ ?_))
      exact XE.round (s := j) (j + 1) (by omega) (by omega) (Sub.cons (by simp only [htk]; rfl) ZZSUB) (fun _ h => h)
end Go.Proofs.Ytmpaiphakjogjaa.X
/-
  The walk of lower of the statements (closure).
-/
namespace Go.Proofs.Ytmpaiphakjogjaa.Bs
open Go Go.Proofs.Ytmpaiphakjogjaa.X
set_option linter.unusedVariables false
def lowV (bs : List Int) (v : Int) (i : Nat) : Int := if 0 < bs.length then max (-20000) (v - at0 bs (i % bs.length)) else v
def lowTo (l bs : List Int) (n : Nat) : List Int := (List.range n).map fun i => lowV bs (at0 l i) i
theorem lowTo_succ {l bs : List Int} {n : Nat} : lowTo l bs n ++ [lowV bs (at0 l n) n] = lowTo l bs (n + 1) := by
  unfold lowTo
  rw [List.range_succ, List.map_append]; rfl
theorem lowTo_len {l bs : List Int} {n : Nat} : (lowTo l bs n).length = n := by unfold lowTo; rw [List.length_map, List.length_range]
theorem lowTo_at {l bs : List Int} {n i : Nat} (hi : i < n) : at0 (lowTo l bs n) i = lowV bs (at0 l i) i := by
  unfold lowTo at0
  rw [List.getElem?_map, List.getElem?_range hi]; rfl
theorem lowV_le {bs : List Int} {v : Int} {i : Nat} (hb : ∀ x, x ∈ bs → 0 ≤ x ∧ x ≤ 65535) (hv : -20000 ≤ v) : -20000 ≤ lowV bs v i ∧ lowV bs v i ≤ v := by
  unfold lowV
  split
  · rename_i h
    have h2 : i % bs.length < bs.length := Nat.mod_lt _ h
    have h3 : 0 ≤ at0 bs (i % bs.length) := by
      unfold at0
      rw [List.getElem?_eq_getElem h2]
      exact (hb _ (List.getElem_mem h2)).1
    omega
  · omega
end Go.Proofs.Ytmpaiphakjogjaa.Bs
namespace Go.Proofs.Ytmpaiphakjogjaa.X
open Go Go.RowKit Go.Proofs.Ytmpaiphakjogjaa.Bs
set_option linter.unusedVariables false
def u16K5 : Kind Int := ⟨43, 1, fun k => [.int .u16 k], fun _ => [], fun _ => rfl⟩
def LowR (h : His) (bs : List Int) (x : Value) (new : List Held) : Prop := ∃ q : SV, x = .agg ⟨[.int .i64 h.from_, svV q]⟩ ∧ new = [hInts q (lowTo h.vals bs h.vals.length)]
theorem ListAt.ints5 {w : World} {ok : Nat → Prop} {r : SV} {l : List Int} (h : ListAt intK5 w ok r l) : IntsAt w ok r l := ⟨by have := h.rd; rw [ints_flat5] at this; exact this, h.max⟩
set_option maxHeartbeats 8000000 in
theorem lower_made {q : SV} {h : His} {r : SV} {bs : List Int} {w : World} (hq : IntsAt w (Lt w.heap.size) q h.vals) (hr : ListAt u16K5 w (Lt w.heap.size) r bs) (hb : ∀ x, x ∈ bs → 0 ≤ x ∧ x ≤ 65535) (hn : h.vals.length ≤ 60) (hv : ∀ i, i < h.vals.length → -20000 ≤ at0 h.vals i ∧ at0 h.vals i ≤ 20000) :
    Calls Try.prog 26 #[.agg ⟨hisC q h⟩, svV r] w (Made w (LowR h bs)) := by
  have hql := hq.len
  have hqm := hq.max
  have hrl := hr.len (by decide)
  have hrm := hr.max
  obtain ⟨qA, qn, qc⟩ := q
  obtain ⟨rA, rn, rc⟩ := r
  simp only at hql hqm hrl hrm
  subst hql hrl
  simp only [svV, hisC]
  refine enter Try.func26 rfl Try.ntmps26 rfl ?_; simp only [frame, Nat.zero_add, Nat.reduceAdd]
  repeat (first | (refine M0 ?_; first | refine SL ?_ | refine SB fun _ _ => ?_) | (refine M1 ?_; refine SC ?_) | (refine M2 ?_; refine SE ?_))
  rename_i g2 hg2 g4 hg4 g5 hg5
  refine XC.rebase (List.Sublist.refl _) (fun W0 S0 => ?_)
  have hF0 : Fam W0 w.heap.size [g5, g4, g2] [⟨Int, intK5, .slice none 0 0, lowTo h.vals bs 0⟩] [] := Fam.nil intK5 (Fam.start S0.size)
  refine XC.loopk [1, 2, 4, 5] rfl (fun z : Nat × World × SV => [(6, .int .i64 (z.1 : Nat))]) (fun z => [(g5, cel 65 [.int .i64 h.from_, svV z.2.2]), (g4, cel 65 [.int .i64 0, .slice none 0 0]), (g2, cel 65 [.int .i64 h.from_, .slice qA h.vals.length qc])]) (fun z => z.2.1)
    (fun z => z.1 ≤ h.vals.length ∧ Below w.heap.size w z.2.1 ∧ Fam z.2.1 w.heap.size [g5, g4, g2] [⟨Int, intK5, svV z.2.2, lowTo h.vals bs z.1⟩] [] ∧ ∀ k, k ∈ [g5, g4, g2] → k < z.2.1.heap.size) (fun z => h.vals.length - z.1) (0, W0, ⟨none, 0, 0⟩) ⟨Nat.zero_le _, S0.toBelow, hF0, fun y hy => S0.keyLt y hy⟩ ZZSUB (fun _ h => h) ?_
  rintro ⟨i, W, q⟩ ⟨hi, hB, hF, hk⟩
  simp only at hi hB hF hk
  simp only [svV]
  dsimp only [List.cons_append, List.nil_append]
  repeat (first | (refine M0 ?_; first | refine SL ?_ | refine SB fun _ _ => ?_) | (refine M1 ?_; refine SC ?_) | (refine M2 ?_; refine SE ?_))
  refine XC.cond _ rfl (fun h1 => ?_) (fun h1 => ?_)
  rotate_left
  · have hin : i = h.vals.length := by have := of_decide_eq_false h1; omega
    subst hin
    repeat (first | (refine M0 ?_; first | refine SL ?_ | refine SB fun _ _ => ?_) | (refine M1 ?_; refine SC ?_) | (refine M2 ?_; refine SE ?_))
    refine XE.retg tok Try.results26 rfl (by simp only [and_self, and_true]) (fun w' S => ?_)
    have hF9 := hF.sys S ZZHL
    obtain ⟨qA', qn, qc'⟩ := q
    exact ⟨_, _, rfl, ⟨⟨qA', qn, qc'⟩, rfl, rfl⟩, fun x hx => by rw [List.mem_singleton.1 hx]; exact (hF9.listOf (K := intK5) (.head _)).ints5, hB.trans S.toBelow⟩
  have hin : i < h.vals.length := by have := of_decide_eq_true h1; omega
  have hqW : IntsAt W (Lt w.heap.size) ⟨qA, h.vals.length, qc⟩ h.vals := hq.keep fun k hk => hB.block k hk
  obtain ⟨aq, eq, hltq, hcq⟩ := hqW.at_ (by omega)
  obtain rfl := eq
  have cq := hcq i hin
  have hvi := hv i hin
  have hrW := hr.below hB
  repeat (first | (refine M0 ?_; first | refine SL ?_ | refine SB fun _ _ => ?_ | refine Y4 (Ev.load_old tok rfl rfl (add_lt hltq) cq) ?_) | (refine M1 ?_; refine SC ?_) | (refine M2 ?_; refine SE ?_))
  refine XC.cutn [1, 2, 4, 5, 6] rfl (fun _ : Unit => [(7, .int .i64 (lowV bs (at0 h.vals i) i))]) (fun _ => [(g5, cel 65 [.int .i64 h.from_, .slice q.A q.n q.c]), (g4, cel 65 [.int .i64 0, .slice none 0 0]), (g2, cel 65 [.int .i64 h.from_, .slice (some aq) h.vals.length qc])]) (fun _ => W) (fun _ => True) ?_ (fun _ _ => ?_)
  · by_cases h0 : 0 < bs.length
    · have hm : i % bs.length < bs.length := Nat.mod_lt _ h0
      obtain ⟨ar, rfl, hlr⟩ := hrW.addr (by decide) (by omega)
      have cr := hrW.elem (List.getElem?_eq_getElem hm) 0 (.int .u16 bs[i % bs.length]) rfl
      have et : ((i : Int).tmod (bs.length : Int)) = ((i % bs.length : Nat) : Int) := by rw [Int.tmod_eq_emod_of_nonneg (Int.natCast_nonneg i)]; rfl
      have hb0 : (bs.length : Int) ≠ 0 := by omega
      have ht0 : 0 ≤ ((i : Int).tmod (bs.length : Int)) := by rw [et]; omega
      have ht1 : ((i : Int).tmod (bs.length : Int)) < (bs.length : Int) := by rw [et]; omega
      have ht2 : ((i : Int).tmod (bs.length : Int)).toNat = i % bs.length := by rw [et]; rfl
      have cr : W.cell? (ar.add (((i : Int).tmod (bs.length : Int)).toNat * 1)) = some (.int .u16 bs[i % bs.length]) := by rw [ht2]; rw [add_add, Nat.add_zero] at cr; exact cr
      have hbx := hb _ (List.getElem_mem hm)
      rw [show decide ((0 : Int) < (bs.length : Int)) = true from decide_eq_true (by omega)]
      have hwr : IntKind.i64.wrap bs[i % bs.length] = bs[i % bs.length] := wrap_in (by unfold i64in; omega)
      have hlv : lowV bs (at0 h.vals i) i = max (-20000) (at0 h.vals i - bs[i % bs.length]) := by
        unfold lowV at0
        rw [if_pos h0, List.getElem?_eq_getElem hm]; rfl
      repeat (first | (refine M0 ?_; first | refine SL ?_ | refine SB fun _ _ => ?_ | refine Y4 (Ev.load_old tok rfl rfl (add_lt hlr) cr) ?_ | refine Y4 (Ev.conv Try.underlying43 Try.underlying3 rfl hwr) ?_) | (refine M1 ?_; refine SC ?_) | (refine M2 ?_; refine SE ?_))
      exact XE.leaf () (Sub.cons (by rw [hlv]; rfl) ZZSUB) (fun _ h => h) trivial
    · have hlv : lowV bs (at0 h.vals i) i = at0 h.vals i := by
        unfold lowV
        rw [if_neg h0]
      rw [show decide ((0 : Int) < (bs.length : Int)) = false from decide_eq_false (by omega)]
      repeat (first | (refine M0 ?_; first | refine SL ?_ | refine SB fun _ _ => ?_) | (refine M1 ?_; refine SC ?_) | (refine M2 ?_; refine SE ?_))
      exact XE.leaf () (Sub.cons (by rw [hlv]; rfl) ZZSUB) (fun _ h => h) trivial
  dsimp only [List.cons_append, List.nil_append]
  obtain ⟨x, hx⟩ : ∃ x, x = lowV bs (at0 h.vals i) i := ⟨_, rfl⟩
  have hl1 := lowTo_succ (l := h.vals) (bs := bs) (n := i)
  have hl2 := lowTo_len (l := h.vals) (bs := bs) (n := i)
  rw [← hx] at hl1 ⊢
  repeat (first | (refine M0 ?_; first | refine SL ?_ | refine SB fun _ _ => ?_ | refine XL.buildSlice tok rfl rfl rfl rfl rfl rfl rfl rfl rfl (fun _ _ => ?_)) | (refine M1 ?_; refine SC ?_) | (refine M2 ?_; refine SE ?_))
  refine XL.push (K := intK5) (a := x) (wE := w) 0 int5_el (by decide) rfl rfl rfl hF rfl hk hB (Nat.le_refl _) rfl (by omega) (by decide) (fun x hx => by cases hx) (fun W3 u3 hF3 hB3 hk3 => ?_)
  obtain ⟨⟨r3A, r3n, r3c⟩, rfl, hr3⟩ := Fam.sv (K := intK5) (l := lowTo h.vals bs i ++ [x]) (v := u3) hF3 (List.mem_singleton.2 rfl)
  simp only [svV]
  repeat (first | (refine M0 ?_; first | refine SL ?_ | refine SB fun _ _ => ?_) | (refine M1 ?_; refine SC ?_) | (refine M2 ?_; refine SE ?_))
  refine XE.roundW (s := (i, W, q)) (fun w9 S9 => ⟨(i + 1, w9, ⟨r3A, r3n, r3c⟩), ⟨hin, hB3.trans S9.toBelow, ?_, fun x hx => S9.keyLt x (by simp only [List.mem_cons, List.not_mem_nil, or_false] at hx; simp only [List.map_cons, List.map_nil, List.mem_cons, List.not_mem_nil, or_false]; omega)⟩, by simp only; omega, ZZSUB, S9.rebase ZZSM⟩)
  simp only [List.set_cons_zero, hl1] at hF3
  exact (hF3.sys S9 ZZHL).add (ks' := [g5, g4, g2]) (fun x hx => by left; simp only [List.mem_cons, List.not_mem_nil, or_false] at hx; simp only [List.map_cons, List.map_nil, List.mem_append, List.mem_cons, List.not_mem_nil, or_false]; omega)
end Go.Proofs.Ytmpaiphakjogjaa.X
/-
  The law ClosureSafe.
-/
namespace Go.Proofs.Ytmpaiphakjogjaa.X
open Go Go.RowKit Go.Proofs.Ytmpaiphakjogjaa.Bs
set_option linter.unusedVariables false
/-- a row's block becomes one of the own ones. -/
theorem Fam.drop {W : World} {b0 : Nat} {ks : List Nat} {rs : List RowX} {hs : List Held} {r : RowX} {g : Nat} (h : Fam W b0 ks (r :: rs) hs) (hg : r.v.ownBlock = some g) : Fam W b0 (g :: ks) rs hs := by
  have hf : ∀ j, Free W b0 ks (r :: rs) j → Free W b0 (g :: ks) rs j := fun j hj => ⟨hj.1, hj.2.1, fun hm => by
    rcases List.mem_cons.1 hm with rfl | hm
    · exact hj.2.2.2 r (.head _) hg
    · exact hj.2.2.1 hm, fun x hx => hj.2.2.2 x (.tail _ hx)⟩
  refine ⟨h.base, fun x hx => h.row x (.tail _ hx), fun x hx k hk hm => ?_, (List.pairwise_cons.1 h.two).2, fun x hx a ha y hy => y.mono (h.ins x (.tail _ hx) a ha y hy) hf, fun y hy => y.mono (h.held y hy) hf⟩
  rcases List.mem_cons.1 hm with rfl | hm
  · exact (List.pairwise_cons.1 h.two).1 x hx _ hg hk
  · exact h.sep x (.tail _ hx) k hk hm
theorem owns_block2 {w : World} {base e n : Nat} {A : Option Addr} {m c : Nat} {xs : List Value} (h : w.ownsRow base e 2 (.slice A m c) n xs) (hn : 0 < n) : ∃ g sp, A = some ⟨g, 0, none⟩ ∧ m = n ∧ base ≤ g ∧ w.heap[g]? = some (cel e (xs ++ sp)) ∧ n ≤ c := by
  have h4 := (ReadsP.own h).2.2.1 hn
  rcases h.2 with ⟨e1, rfl⟩ | ⟨g, cap, cur, e1, hb, hg, hc, hm, hsz, hx⟩
  · omega
  · cases e1
    exact ⟨g, cur.toList.drop (n * 2), rfl, rfl, hb, by rw [hg, ← hx, List.take_append_drop], h4⟩
def hisK0 : Kind (SV × His) := ⟨65, 2, fun e => hisC e.1 e.2, fun _ => [], fun _ => rfl⟩
theorem his0_el : elemOk Try.prog 27 hisK0.ty hisK0.m 32 = true := by kernel_rfl
theorem ListAt.bare {w : World} {ok : Nat → Prop} {r : SV} {l : List (SV × His)} (h : ListAt hisK w ok r l) : ListAt hisK0 w ok r l := ⟨h.rd, h.max, fun a ha x hx => by cases hx⟩
/-- the task with the lowered history, in memory. -/
theorem lowCt_at {w w' : World} {v : CTV} {t : CTk} {k : Nat} {q9 : SV} {l : List Int} {es : List (SV × His)} {g c : Nat} {sp : List Value} (hT : CtAt w w.heap.size v t) (hB : Below w.heap.size w w') (hes : ListAt hisK w (Lt w.heap.size) v.h es) (h2 : es.map (·.2) = t.his)
    (hg : w'.heap[g]? = some (cel 65 ((es.set k (q9, ⟨(t.h k).from_, l⟩)).flatMap hisK0.c ++ sp))) (hq9 : IntsAt w' (Lt w'.heap.size) q9 l) (hc : es.length ≤ c) : CtAt w' w'.heap.size ⟨v.p, v.f, ⟨some ⟨g, 0, none⟩, es.length, c⟩, v.r⟩ (t.low k l) := by
  have h0 := (hT.below hB).more hB.size
  have hm := hes.max
  have hl := hes.len (by decide)
  refine ⟨h0.bas, h0.fil, ⟨es.set k (q9, ⟨(t.h k).from_, l⟩), ⟨⟨?_, fun _ => ⟨_, rfl, (Array.getElem?_eq_some_iff.1 hg).1, fun j u hj => ?_⟩⟩, by simp only; omega, fun a ha x hx => ?_⟩, ?_⟩, h0.river, hc⟩
  · show ((es.set k (q9, ⟨(t.h k).from_, l⟩)).flatMap hisK0.c).length = es.length * 2
    rw [flat_len hisK0.c 2 (fun _ => rfl), List.length_set]
  · rw [add_off, Nat.zero_add]
    have hj' : ((es.set k (q9, ⟨(t.h k).from_, l⟩)).flatMap hisK0.c)[j]? = some u := hj
    have : ((es.set k (q9, ⟨(t.h k).from_, l⟩)).flatMap hisK0.c ++ sp)[j]? = some u := by
      rw [List.getElem?_append_left (List.getElem?_eq_some_iff.1 hj').1]; exact hj'
    simpa [World.cell?, hg] using this
  · rcases List.mem_or_eq_of_mem_set ha with h | rfl
    · exact x.mono (x.keep (hes.ins a h x hx) fun j hj => hB.block j hj) fun j hj => Nat.lt_of_lt_of_le hj hB.size
    · rw [List.mem_singleton.1 hx]
      exact hq9
  · rw [List.map_set, h2]; rfl
set_option maxHeartbeats 16000000 in
theorem ClosureSafe_any {v : CTV} {t : CTk} {p : CPl} {r : SV} {bs : List Int} {w : World} (hT : CtAt w w.heap.size v t) (hr : ListAt u16K5 w (Lt w.heap.size) r bs) (hb : ∀ x, x ∈ bs → 0 ≤ x ∧ x ≤ 65535) :
    Calls Try.prog 6 #[ctkV v t, plnV p, svV r] w fun e w' => e = .returned (.bool true) ∧ Below w.heap.size w w' := by
  have haw := fun {L : Lo} {W : World} (w5 : World) (S5 : Sys w.heap.size W L w5) => Awake5_any (w := w5)
  have hwh := fun (w5 : World) (hB : Below w.heap.size w w5) => whole5_any (hT.sys (Sys.ofBelow hB))
  have hhn := hT.hn
  have hhis := fun k hk => hT.hisAt (k := k) hk
  obtain ⟨vp, vf, ⟨Ah, nh, ch⟩, vr⟩ := v
  simp only at hhn hhis
  subst hhn
  simp only [ctkV, ctkC, plnV] at hwh ⊢
  refine enter Try.func6 rfl Try.ntmps6 rfl ?_; simp only [frame, Nat.zero_add, Nat.reduceAdd]
  repeat (first | (refine M0 ?_; first | refine SL ?_ | refine SB fun _ _ => ?_) | (refine M1 ?_; refine SC ?_) | (refine M2 ?_; refine SE ?_))
  rename_i g3 hg3 g4 hg4
  refine XL.callF (ks := []) (rs := []) (hs := []) (b0 := w.heap.size) (wE := w) (HldR t p) (ck rfl) rfl rfl (Fam.start (Nat.le_refl w.heap.size)) (fun _ h => by cases h) (Below.refl w.heap.size w) (fun w1 S1 _ hB1 => Holds_made (v := ⟨vp, vf, ⟨Ah, t.m, ch⟩, vr⟩) (p := p) (hT.sys (Sys.ofBelow hB1))) (fun w1 x new hR hF1 hB1 hk1 => ?_) ZZHL
  obtain ⟨q1, rfl, rfl⟩ := hR
  obtain ⟨q1A, q1n, q1c⟩ := q1
  simp only [svV]
  by_cases hE : t.hldE p = 0
  rotate_left
  · repeat (first | (refine M0 ?_; first | refine SL ?_ | refine SB fun _ _ => ?_) | (refine M1 ?_; refine SC ?_) | (refine M2 ?_; refine SE ?_))
    rw [show decide (t.hldE p ≠ 0) = true from decide_eq_true hE]
    repeat (first | (refine M0 ?_; first | refine SL ?_ | refine SB fun _ _ => ?_ | refine Y4 (Ev.call (f := 17) (ck rfl) rfl (fun w5 S5 => haw w5 S5)) ?_) | (refine M1 ?_; refine SC ?_) | (refine M2 ?_; refine SE ?_))
    refine XE.retg tok Try.results6 rfl (by simp only [and_self, and_true]) (fun w' S => ?_)
    exact ⟨rfl, hB1.trans S.toBelow⟩
  obtain ⟨hc, ho, hp, hl⟩ := hld_0 hE
  rw [whole_ok ho] at hwh
  have hL1 : ListAt boolK5 w1 (Free w1 w.heap.size _ []) ⟨q1A, q1n, q1c⟩ (t.hldL p) := hF1.held (hList boolK5 ⟨q1A, q1n, q1c⟩ (t.hldL p)) (.head _)
  have hq1 := hL1.len (by decide)
  have hlen : (t.hldL p).length = t.m := by rw [hl]; unfold CTk.holdL; rw [List.length_map, List.length_range]
  have hm8 := ho.m8
  simp only at hq1
  rw [hlen] at hq1
  subst hq1
  repeat (first | (refine M0 ?_; first | refine SL ?_ | refine SB fun _ _ => ?_) | (refine M1 ?_; refine SC ?_) | (refine M2 ?_; refine SE ?_))
  rw [show decide (t.hldE p ≠ 0) = false from decide_eq_false (fun h => h hE)]
  repeat (first | (refine M0 ?_; first | refine SL ?_ | refine SB fun _ _ => ?_ | refine Y4 (Ev.call (f := 19) (ck rfl) rfl (fun w5 S5 => hwh w5 (hB1.trans S5.toBelow))) ?_) | (refine M1 ?_; refine SC ?_) | (refine M2 ?_; refine SE ?_))
  rw [show decide ((t.m : Int) ≠ (t.m : Int)) = false from decide_eq_false (by omega)]
  repeat (first | (refine M0 ?_; first | refine SL ?_ | refine SB fun _ _ => ?_) | (refine M1 ?_; refine SC ?_) | (refine M2 ?_; refine SE ?_))
  refine XC.loopk [2, 3, 4, 7] rfl (fun z : Nat × World => [(9, .int .i64 (z.1 : Nat))]) (fun z => [(g4, cel 36 [.int .i64 p.close, .int .i64 p.open_]), (g3, cel 29 (ctkC ⟨vp, vf, ⟨Ah, t.m, ch⟩, vr⟩ t))]) (fun z => z.2)
    (fun z => z.1 ≤ t.m ∧ Below w.heap.size w z.2 ∧ Fam z.2 w.heap.size [g4, g3] [] [hList boolK5 ⟨q1A, t.m, q1c⟩ (t.hldL p)] ∧ ∀ k, k ∈ [g4, g3] → k < z.2.heap.size) (fun z => t.m - z.1) (0, w1) ⟨Nat.zero_le _, hB1, hF1, hk1⟩ ZZSUB (fun _ h => h) ?_
  rintro ⟨i, W⟩ ⟨hi, hB, hF, hk⟩
  simp only at hi hB hF hk
  simp only [ctkC]
  dsimp only [List.cons_append, List.nil_append]
  repeat (first | (refine M0 ?_; first | refine SL ?_ | refine SB fun _ _ => ?_) | (refine M1 ?_; refine SC ?_) | (refine M2 ?_; refine SE ?_))
  refine XC.cond _ rfl (fun h1 => ?_) (fun h1 => ?_)
  rotate_left
  · repeat (first | (refine M0 ?_; first | refine SL ?_ | refine SB fun _ _ => ?_ | refine Y4 (Ev.call (f := 17) (ck rfl) rfl (fun w5 S5 => haw w5 S5)) ?_) | (refine M1 ?_; refine SC ?_) | (refine M2 ?_; refine SE ?_))
    refine XE.retg tok Try.results6 rfl (by simp only [and_self, and_true]) (fun w' S => ?_)
    exact ⟨rfl, hB.trans S.toBelow⟩
  have him : i < t.m := by have := of_decide_eq_true h1; omega
  obtain ⟨ad, qo, e1, hlt, hch, hqo⟩ := hhis i him
  obtain rfl := e1
  have hlev := fun (w5 : World) (hB5 : Below w.heap.size w w5) => levels5_any (k := i) (p := p) (hT.sys (Sys.ofBelow hB5)) ho him hp
  simp only [ctkV, ctkC, plnV] at hlev
  have hLW : ListAt boolK5 W (Free W w.heap.size _ []) ⟨q1A, t.m, q1c⟩ (t.hldL p) := hF.held (hList boolK5 ⟨q1A, t.m, q1c⟩ (t.hldL p)) (.head _)
  obtain ⟨a1, rfl, hf1⟩ := hLW.addr (by decide) (by omega)
  have hli : (t.hldL p)[i]? = some (t.holds i p) := by rw [hl]; exact holdL_at him
  have hcell := hLW.elem hli 0 (.bool (t.holds i p)) rfl
  rw [add_add, Nat.add_zero] at hcell
  have hcell : W.cell? (a1.add (i * 1)) = some (.bool (t.holds i p)) := hcell
  have hlt1 : (a1.add (i * 1)).block < W.heap.size := by rw [add_block]; exact hf1.2.1
  have hfar := hf1
  obtain ⟨b, hbe⟩ : ∃ b, b = t.holds i p := ⟨_, rfl⟩
  rw [← hbe] at hcell hlev
  cases b with
  | false =>
    repeat (first | (refine M0 ?_; first | refine SL ?_ | refine SB fun _ _ => ?_ | refine Y4 (Ev.call (f := 25) (ck rfl) rfl (fun w5 S5 => hlev w5 (hB.trans S5.toBelow))) ?_ | refine Y4 (Ev.load_far tok rfl rfl hlt1 (hf1.far ZZHL) hcell) ?_ | refine Y4 (Ev.neqB Try.underlying4 rfl rfl) ?_) | (refine M1 ?_; refine SC ?_) | (refine M2 ?_; refine SE ?_))
    refine XE.roundW (s := (i, W)) (fun w9 S9 => ⟨(i + 1, w9), ⟨him, hB.trans S9.toBelow, hF.sys S9 ZZHL, fun x hx => S9.keyLt x hx⟩, by simp only; omega, ZZSUB, S9.rebase ZZSM⟩)
  | true =>
    repeat (first | (refine M0 ?_; first | refine SL ?_ | refine SB fun _ _ => ?_ | refine Y4 (Ev.call (f := 25) (ck rfl) rfl (fun w5 S5 => hlev w5 (hB.trans S5.toBelow))) ?_ | refine Y4 (Ev.load_far tok rfl rfl hlt1 (hf1.far ZZHL) hcell) ?_ | refine Y4 (Ev.neqB Try.underlying4 rfl rfl) ?_) | (refine M1 ?_; refine SC ?_) | (refine M2 ?_; refine SE ?_))
    rename_i g12 hg12
    obtain ⟨es, hes, h2⟩ := hT.his
    have hel : es.length = t.m := by unfold CTk.m; rw [← h2, List.length_map]
    refine XL.newRow tok (K := hisK0) (l := []) (wE := w) rfl rfl rfl rfl rfl rfl rfl rfl rfl ⟨rfl, rfl⟩ rfl rfl hF hk hB hB.size (fun a ha => by cases ha) (fun w7 g7 hF7 hB7 hk7 => ?_) ZZHL
    repeat (first | (refine M0 ?_; first | refine SL ?_ | refine SB fun _ _ => ?_) | (refine M1 ?_; refine SC ?_) | (refine M2 ?_; refine SE ?_))
    refine XL.pushL (K := hisK0) (l := []) (l2 := es) (r2 := ⟨some ad, t.m, ch⟩) (wE := w) 0 his0_el (by decide) rfl rfl rfl hF7 rfl hk7 hB7 (Nat.le_refl _) (fun w9 S9 => ((hes.below (hB7.trans S9.toBelow)).mono fun j hj => Nat.lt_of_lt_of_le hj (hB7.trans S9.toBelow).size).bare) (fun a ha x hx => by cases hx) (fun a => rfl) (by simp only [List.length_nil]; omega) (by decide) (fun w8 v8 hF8 hB8 hk8 => ?_) ZZHL
    obtain ⟨⟨r8A, r8n, r8c⟩, rfl, hr8⟩ := hF8.sv (K := hisK0) (l := [] ++ es) (.head _)
    simp only [svV]
    repeat (first | (refine M0 ?_; first | refine SL ?_ | refine SB fun _ _ => ?_) | (refine M1 ?_; refine SC ?_) | (refine M2 ?_; refine SE ?_))
    have hrow8 : w8.ownsRow w.heap.size 65 2 (.slice r8A r8n r8c) es.length (es.flatMap hisK0.c) := hF8.row _ (.head _)
    obtain ⟨gr, sp, rfl, rfl, hgr, hgo, hcap⟩ := owns_block2 hrow8 (by omega)
    have hsep8 := hF8.sep _ (.head _) gr rfl
    have hF8' := hF8.drop (g := gr) rfl
    have hgr8 := (Array.getElem?_eq_some_iff.1 hgo).1
    refine XC.grab hgo hgr (fun e he e1 => hsep8 (by rw [← e1]; repeat (first | (cases he; done) | (rcases List.mem_cons.1 he with rfl | he; · simp)))) (fun w10 S10 => ?_)
    have hF10 := hF8'.sys S10 ZZHL
    have hB10 := hB8.trans S10.toBelow
    have hk10 : ∀ k, k ∈ gr :: _ → k < w10.heap.size := fun k hk' => Nat.lt_of_lt_of_le ((List.mem_cons.1 hk').elim (fun h => h ▸ hgr8) (fun h => hk8 k h)) S10.size
    have l3 : g3 < W.heap.size := hk g3 (by simp)
    have hle : w.heap.size ≤ w.heap.size := Nat.le_refl _
    have hch0 := hch
    have hreads : ∀ j u, (hisC qo (t.h i))[j]? = some u → (trunc w w.heap.size).cell? ((ad.add (i * 2)).add j) = some u := fun j u hj => (trunc_cell (by rw [add_block, add_block]; exact hlt)).trans (hch j u hj)
    have hsz : (trunc w w.heap.size).heap.size = w.heap.size := by simp [trunc]
    have hltS : ad.block < (trunc w w.heap.size).heap.size := by rw [hsz]; exact hlt
    have hn60 : (t.h i).vals.length ≤ 60 := by rw [ho.len i him]; exact ho.n60
    have hvb : ∀ j, j < (t.h i).vals.length → -20000 ≤ at0 (t.h i).vals j ∧ at0 (t.h i).vals j ≤ 20000 := fun j hj => ho.val i j him (by rw [← ho.len i him]; exact hj)
    refine XC.drawRS (trunc w w.heap.size) [(g12, cel 29 (ctkC ⟨vp, vf, ⟨some ⟨gr, 0, none⟩, es.length, r8c⟩, vr⟩ t)), (g3, cel 29 (ctkC ⟨vp, vf, ⟨some ad, t.m, ch⟩, vr⟩ t))] [0, 1, 2, 3, 4, 5, 6, 7, 8] [9, 10, 11] mixed (fun _ h => Sys.anchorT hB10 h (by intro e he; repeat (first | (cases he; done) | (rcases List.mem_cons.1 he with rfl | he; · repeat (first | exact List.mem_cons_self | apply List.mem_cons_of_mem)))) (by simp; omega) hle) rfl (by kernel_rfl) ?_
    simp only [ctkC]
    repeat (any_goals (first | (refine M0 ?_; first | refine SL ?_ | refine SB fun _ _ => ?_ | refine Y4 (Ev.load_loc tok 0 (g := g12) (o := 6) rfl rfl rfl rfl) ?_ | refine Y4 (Ev.load_loc tok 1 (g := g3) (o := 6) rfl rfl rfl rfl) ?_ | refine Y4 (Ev.load_old_agg tok (hisC qo (t.h i)) rfl rfl rfl (add_lt hlt) hreads) ?_ | (refine XL.at_call 26 ?_; refine XL.callF (wE := w) (LowR (t.h i) bs) (ck rfl) rfl rfl hF10 hk10 hB10 (fun w9 S9 hF9 hB9 => lower_made ((hqo.keep fun j hj => hB9.block j hj).mono fun j hj => Nat.lt_of_lt_of_le hj hB9.size) ((hr.below hB9).mono fun j hj => Nat.lt_of_lt_of_le hj hB9.size) hb hn60 hvb) (fun w11 x new hR hF11 hB11 hk11 => ?_) ZZHL; obtain ⟨q9, rfl, rfl⟩ := hR; simp only [svV]) | refine XL.store_row2 hisK0 tok 0 (j := i) (a := (q9, ⟨(t.h i).from_, lowTo (t.h i).vals bs (t.h i).vals.length⟩)) (l := es) (sp := sp) rfl rfl rfl rfl rfl (fun _ => rfl) (by omega) rfl ?_) | (refine M1 ?_; refine SC ?_) | (refine M2 ?_; first | refine SE ?_ | ((with_reducible refine atHeld ?_); refine z7 ?_)) | (refine M3 ?_; first | refine SG ?_ | refine SF ?_ | refine YF (Ev.load_loc tok 0 (g := g12) (o := 6) rfl rfl rfl rfl) ?_ | refine YF (Ev.load_loc tok 1 (g := g3) (o := 6) rfl rfl rfl rfl) ?_ | refine YF (Ev.load_old_agg tok (hisC qo (t.h i)) rfl rfl rfl (add_lt hlt) hreads) ?_) | (refine M4 ?_; refine SR ?_) | (refine M5 ?_; first | exact M7 | refine YM ?_ | refine YN ?_ ?_)))
    obtain ⟨l9, hl9⟩ : ∃ l9, l9 = lowTo (t.h i).vals bs (t.h i).vals.length := ⟨_, rfl⟩
    rw [← hl9] at hF11 ⊢
    have hl9n : l9.length = t.n := by rw [hl9, lowTo_len, ho.len i him]
    have hl9v : ∀ j, j < t.n → -20000 ≤ at0 l9 j ∧ at0 l9 j ≤ t.v i j := fun j hj => by
      rw [hl9, lowTo_at (by rw [ho.len i him]; exact hj)]
      exact lowV_le hb (ho.val i j him hj).1
    obtain ⟨s1, s2, s3⟩ := safe_low ho him hl9n hl9v hp hbe.symm
    have hou := low_ok ho him hl9n hl9v
    have hmu : i < (t.low i l9).m := by rw [low_m]; exact him
    obtain ⟨-, -, -, hlu⟩ := hld_0 s1
    have hlenu : ((t.low i l9).hldL p).length = t.m := by rw [hlu]; unfold CTk.holdL; rw [List.length_map, List.length_range, low_m]
    have hliu : ((t.low i l9).hldL p)[i]? = some true := by rw [hlu, ← s2]; exact holdL_at hmu
    refine XL.callF (wE := w) (HldR (t.low i l9) p) (ck rfl) rfl rfl hF11 hk11 hB11 (fun w5 S5 hF5 hB5 => Holds_made (v := ⟨vp, vf, ⟨some ⟨gr, 0, none⟩, es.length, r8c⟩, vr⟩) (p := p) (lowCt_at (k := i) (q9 := q9) (l := l9) (sp := sp) hT hB5 hes h2 (S5.own (gr, cel 65 ((es.set i (q9, ⟨(t.h i).from_, l9⟩)).flatMap hisK0.c ++ sp)) (by repeat (first | exact List.mem_cons_self | apply List.mem_cons_of_mem))).2 ((hF5.get (x := hInts q9 l9) (.head _) : IntsAt _ _ _ _).mono fun j hj => hj.2) hcap)) (fun w12 x new hR hF12 hB12 hk12 => ?_) ZZHL
    obtain ⟨⟨q2A, q2n, q2c⟩, rfl, rfl⟩ := hR
    rw [s1]
    simp only [svV]
    have hL2 : ListAt boolK5 w12 (Free w12 w.heap.size _ []) ⟨q2A, q2n, q2c⟩ ((t.low i l9).hldL p) := hF12.held (hList boolK5 ⟨q2A, q2n, q2c⟩ ((t.low i l9).hldL p)) (.head _)
    have hq2 := hL2.len (by decide)
    simp only at hq2
    rw [hlenu] at hq2
    subst hq2
    obtain ⟨a2, rfl, hf2⟩ := hL2.addr (by decide) (by omega)
    have hcell2 := hL2.elem hliu 0 (.bool true) rfl
    rw [add_add, Nat.add_zero] at hcell2
    have hcell2 : w12.cell? (a2.add (i * 1)) = some (.bool true) := hcell2
    have hlt2 : (a2.add (i * 1)).block < w12.heap.size := by rw [add_block]; exact hf2.2.1
    have hlv2 := fun {L : Lo} (w5 : World) (S5 : Sys w.heap.size w12 L w5) (hm : (gr, cel 65 ((es.set i (q9, ⟨(t.h i).from_, l9⟩)).flatMap hisK0.c ++ sp)) ∈ L) (hLs : ∀ e, e ∈ L → e.1 ∈ _ ∨ w12.heap.size ≤ e.1) => levels5_any (v := ⟨vp, vf, ⟨some ⟨gr, 0, none⟩, es.length, r8c⟩, vr⟩) (t := t.low i l9) (k := i) (p := p) (lowCt_at (k := i) (q9 := q9) (l := l9) (sp := sp) hT (hB12.trans S5.toBelow) hes h2 (S5.own _ hm).2 (((hF12.sys S5 hLs).get (x := hInts q9 l9) (.tail _ (.head _)) : IntsAt _ _ _ _).mono fun j hj => hj.2) hcap) hou hmu s3
    rw [s2] at hlv2
    simp only [ctkV, ctkC, plnV] at hlv2
    repeat (first | (refine M0 ?_; first | refine SL ?_ | refine SB fun _ _ => ?_) | (refine M2 ?_; refine SE ?_) | (refine M3 ?_; first | refine SG ?_ | refine SF ?_) | (refine M4 ?_; refine SR ?_) | (refine M5 ?_; first | exact M7 | refine YM ?_ | refine YN ?_ ?_))
    refine SC ?_
    refine SC ?_
    repeat (first | (refine M0 ?_; first | refine SL ?_ | refine SB fun _ _ => ?_ | refine Y4 (Ev.call (f := 25) (ck rfl) rfl (fun w5 S5 => hlv2 w5 S5 (by repeat (first | exact List.mem_cons_self | apply List.mem_cons_of_mem)) ZZHL)) ?_ | refine Y4 (Ev.load_far tok rfl rfl hlt2 (hf2.far ZZHL) hcell2) ?_) | (refine M2 ?_; refine SE ?_) | (refine M3 ?_; first | refine SG ?_ | refine SF ?_ | refine YF (Ev.call (f := 25) (ck rfl) rfl (fun w5 S5 => hlv2 w5 S5 (by repeat (first | exact List.mem_cons_self | apply List.mem_cons_of_mem)) ZZHL)) ?_ | refine YF (Ev.load_far tok rfl rfl hlt2 (hf2.far ZZHL) hcell2) ?_) | (refine M4 ?_; refine SR ?_) | (refine M5 ?_; first | exact M7 | refine YM ?_ | refine YN ?_ ?_))
    refine SC ?_
    refine SC ?_
    repeat (first | (refine M0 ?_; first | refine SL ?_ | refine SB fun _ _ => ?_) | (refine M2 ?_; refine SE ?_) | (refine M3 ?_; first | refine SG ?_ | refine SF ?_) | (refine M4 ?_; refine SR ?_) | (refine M5 ?_; first | exact M7 | refine YM ?_ | refine YN ?_ ?_))
    rw [show decide ((t.m : Int) ≠ (t.m : Int)) = false from decide_eq_false (fun h => h rfl)]
    repeat (first | (refine M0 ?_; first | refine SL ?_ | refine SB fun _ _ => ?_ | refine Y4 (Ev.load_far tok rfl rfl hlt2 (hf2.far ZZHL) hcell2) ?_) | (refine M2 ?_; refine SE ?_) | (refine M3 ?_; first | refine SG ?_ | refine SF ?_ | refine YF (Ev.load_far tok rfl rfl hlt2 (hf2.far ZZHL) hcell2) ?_) | (refine M4 ?_; refine SR ?_) | (refine M5 ?_; first | exact M7 | refine YM ?_ | refine YN ?_ ?_))
    repeat (first | (refine M0 ?_; first | refine SL ?_ | refine SB fun _ _ => ?_) | (refine M1 ?_; refine SC ?_) | (refine M2 ?_; refine SE ?_))
    refine XE.roundW (s := (i, W)) (fun w9 S9 => ⟨(i + 1, w9), ⟨him, hB12.trans S9.toBelow, ?_, fun x hx => S9.keyLt x (by simp only [List.mem_cons, List.not_mem_nil, or_false] at hx; simp only [List.map_cons, List.map_nil, List.mem_cons, List.not_mem_nil, or_false]; omega)⟩, by simp only; omega, ZZSUB, S9.rebase ZZSM⟩)
    exact Fam.forget ((hF12.sys S9 ZZHL).add (ks' := [g4, g3]) (fun x hx => by left; simp only [List.mem_cons, List.not_mem_nil, or_false] at hx; simp only [List.map_cons, List.map_nil, List.mem_append, List.mem_cons, List.not_mem_nil, or_false]; omega)) (fun x hx => by rw [List.mem_singleton.1 hx]; simp)
end Go.Proofs.Ytmpaiphakjogjaa.X
