/-
  Alarms: the walks of Index, Contains and slots.
-/
import Derived.Test.YtgddcbpbadookaaGreatDoorPart4
import Derived.Test.YtgddcbpbadookaaGreatDoorPart2
import Derived.Test.YtgddcbpbadookaaGreatDoorPart3
import Derived.Test.YtgddcbpbadookaaGreatDoorPart1
namespace Go.Proofs.YtgddcbpbadookaaGreatDoor
set_option linter.unusedVariables false
set_option linter.unusedSimpArgs false
namespace Bs
open X
namespace ATk
variable {t : ATk} {now : Int}
theorem most_snoc (l : List Nat) (i c : Nat) : t.most now (l ++ [i]) c = if (t.tw i).chs.contains (c : Int) then max (t.most now l c) (t.latest i (c : Int) - now + 1) else t.most now l c := by
  unfold most
  rw [List.filter_append, List.foldl_append]
  rw [show List.filter (fun i => (t.tw i).chs.contains (c : Int)) [i] = if (t.tw i).chs.contains (c : Int) then [i] else [] by rw [List.filter_cons]; rfl]
  by_cases h : (t.tw i).chs.contains (c : Int) = true
  · rw [if_pos h, if_pos h]; rfl
  · rw [if_neg h, if_neg h]; rfl
theorem latest_le (i : Nat) (c : Int) : t.latest i c ≤ 200000 := by unfold latest; omega
theorem foldl_max_in {α : Type} (f : α → Int) {K : Int} (hf : ∀ a, f a ≤ K) : ∀ (l : List α) (n : Int), 0 ≤ n → n ≤ K → 0 ≤ l.foldl (fun n i => max n (f i)) n ∧ l.foldl (fun n i => max n (f i)) n ≤ K := by
  intro l
  induction l with
  | nil => exact fun n h1 h2 => ⟨h1, h2⟩
  | cons a r ih => intro n h1 h2; rw [List.foldl_cons]; have := hf a; exact ih _ (by omega) (by omega)
theorem most_in (hnow : 0 ≤ now) (l : List Nat) (c : Nat) : 0 ≤ t.most now l c ∧ t.most now l c ≤ 200001 :=
  foldl_max_in (fun i => t.latest i (c : Int) - now + 1) (K := 200001) (fun i => by have := latest_le (t := t) i (c : Int); omega) _ 0 (Int.le_refl _) (by decide)
def slotsK (t : ATk) (now : Int) (l : List Nat) (c : Nat) : Int := ((List.range c).map fun c => t.most now l c * (t.ch (c : Int)).room).foldl (· + ·) 0
theorem slotsK_add (l : List Nat) (c : Nat) : t.slotsK now l (c + 1) = t.slotsK now l c + t.most now l c * (t.ch (c : Int)).room := by
  unfold slotsK
  rw [List.range_succ, List.map_append, List.foldl_append]
  rfl
theorem slotsK_in (hO : AlOk t) (hnow : 0 ≤ now) (l : List Nat) : ∀ c, c ≤ t.cha.length → 0 ≤ t.slotsK now l c ∧ t.slotsK now l c ≤ c * 4000020 := by
  intro c
  induction c with
  | zero => exact fun _ => ⟨Int.le_refl _, by simp [slotsK]⟩
  | succ c ih =>
    intro hc
    have h1 := ih (by omega)
    have h2 := most_in (t := t) hnow l c
    have h3 := (hO.cha c (by omega)).2
    have h4 : 0 ≤ t.most now l c * (t.ch (c : Int)).room := Int.mul_nonneg h2.1 h3.1
    have h5 : t.most now l c * (t.ch (c : Int)).room ≤ 200001 * 20 := Int.mul_le_mul h2.2 h3.2 h3.1 (by decide)
    rw [slotsK_add]
    omega
end ATk
end Bs
namespace X
open Go Go.RowKit Bs
theorem indexI_any {r : SV} {ms : List Int} {y : Int} {w : World} (hr : IntsAt w (Lt w.heap.size) r ms) (hn : ms.length ≤ 9223372036854775806) :
    Calls Tryz.prog 70 #[svV r, .int .i64 y] w fun e w' => e = .returned (.int .i64 (idxL ms fun m => decide (y = m))) ∧ Below w.heap.size w w' := by
  obtain ⟨A, n, c⟩ := r
  have hln := hr.len
  simp only at hln
  subst hln
  simp only [svV]
  refine enter Tryz.func70 rfl Tryz.ntmps70 rfl ?_; simp only [frame, Nat.zero_add, Nat.reduceAdd]
  repeat (first | (refine M0 ?_; first | refine SL ?_ | refine SB fun _ _ => ?_) | (refine M1 ?_; first | refine SC ?_ | refine SD ?_) | (refine M2 ?_; refine SE ?_) | (refine M3 ?_; first | refine SG ?_ | refine SF ?_) | (refine M4 ?_; refine SR ?_) | (refine M5 ?_; first | exact M7 | refine YM ?_ | refine YN ?_ ?_))
  refine XC.loopk [0, 1, 7] rfl (fun k : Nat => [(8, .int .i64 (k : Nat))]) (fun _ => []) (fun _ => w) (fun k => k ≤ ms.length ∧ ∀ j m, j < k → ms[j]? = some m → decide (y = m) = false) (fun k => ms.length - k) 0 ⟨Nat.zero_le _, fun j m h => absurd h (by omega)⟩ ZZSUB (fun _ h => h) ?_
  rintro k ⟨hk, h0⟩
  dsimp only [List.cons_append, List.nil_append]
  repeat (first | (refine M0 ?_; first | refine SL ?_ | refine SB fun _ _ => ?_) | (refine M1 ?_; first | refine SC ?_ | refine SD ?_) | (refine M2 ?_; refine SE ?_) | (refine M3 ?_; first | refine SG ?_ | refine SF ?_) | (refine M4 ?_; refine SR ?_) | (refine M5 ?_; first | exact M7 | refine YM ?_ | refine YN ?_ ?_))
  refine XC.cond _ rfl (fun h3 => ?_) (fun h3 => ?_)
  · have hkn : k < ms.length := by simpa using h3
    obtain ⟨ad, rfl, hlt, hcells⟩ := hr.at_ (by omega)
    have hmk : ms[k]? = some ms[k] := List.getElem?_eq_getElem hkn
    have hcell := hcells k hkn
    rw [show at0 ms k = ms[k] by simp [at0, hkn]] at hcell
    repeat (first | (refine M0 ?_; first | refine SL ?_ | refine SB fun _ _ => ?_ | refine Y4 (Ev.load_old tok rfl rfl (add_lt hlt) hcell) ?_) | (refine M1 ?_; first | refine SC ?_ | refine SD ?_) | (refine M2 ?_; refine SE ?_) | (refine M3 ?_; first | refine SG ?_ | refine SF ?_ | refine YF (Ev.load_old tok rfl rfl (add_lt hlt) hcell) ?_) | (refine M4 ?_; refine SR ?_) | (refine M5 ?_; first | exact M7 | refine YM ?_ | refine YN ?_ ?_))
    refine XC.cond _ rfl (fun h4 => ?_) (fun h4 => ?_)
    · repeat (first | (refine M0 ?_; first | refine SL ?_ | refine SB fun _ _ => ?_) | (refine M1 ?_; first | refine SC ?_ | refine SD ?_) | (refine M2 ?_; refine SE ?_) | (refine M3 ?_; first | refine SG ?_ | refine SF ?_) | (refine M4 ?_; refine SR ?_) | (refine M5 ?_; first | exact M7 | refine YM ?_ | refine YN ?_ ?_))
      refine XE.retg tok Tryz.results70 rfl (by simp only [and_self, and_true]) (fun w' S => ?_)
      have : ms.findIdx? (fun m => decide (y = m)) = some k := by
        rw [List.findIdx?_eq_some_iff_getElem]
        exact ⟨hkn, h4, fun j hj => by simpa using h0 j _ hj (List.getElem?_eq_getElem (by omega))⟩
      unfold idxL
      rw [this]
      exact ⟨rfl, S.toBelow⟩
    · repeat (first | (refine M0 ?_; first | refine SL ?_ | refine SB fun _ _ => ?_) | (refine M1 ?_; first | refine SC ?_ | refine SD ?_) | (refine M2 ?_; refine SE ?_) | (refine M3 ?_; first | refine SG ?_ | refine SF ?_) | (refine M4 ?_; refine SR ?_) | (refine M5 ?_; first | exact M7 | refine YM ?_ | refine YN ?_ ?_))
      refine XE.round (k + 1) ⟨hkn, fun j m hj hm => ?_⟩ (by omega) ZZSUB (fun _ h => h)
      rcases Nat.lt_or_ge j k with h5 | h5
      · exact h0 j m h5 hm
      · have : j = k := by omega
        subst this
        rw [hmk] at hm
        cases hm
        exact h4
  · have hkn : ¬ k < ms.length := by simpa using h3
    repeat (first | (refine M0 ?_; first | refine SL ?_ | refine SB fun _ _ => ?_) | (refine M1 ?_; first | refine SC ?_ | refine SD ?_) | (refine M2 ?_; refine SE ?_) | (refine M3 ?_; first | refine SG ?_ | refine SF ?_) | (refine M4 ?_; refine SR ?_) | (refine M5 ?_; first | exact M7 | refine YM ?_ | refine YN ?_ ?_))
    refine XE.retg tok Tryz.results70 rfl (by simp only [and_self, and_true]) (fun w' S => ?_)
    have : ms.findIdx? (fun m => decide (y = m)) = none := by
      rw [List.findIdx?_eq_none_iff]
      intro m hm
      obtain ⟨j, hj, e⟩ := List.mem_iff_getElem.1 hm
      exact h0 j m (by omega) (by rw [List.getElem?_eq_getElem hj, e])
    unfold idxL
    rw [this]
    exact ⟨rfl, S.toBelow⟩
theorem containsI_any {r : SV} {ms : List Int} {y : Int} {w : World} (hr : IntsAt w (Lt w.heap.size) r ms) (hn : ms.length ≤ 9223372036854775806) :
    Calls Tryz.prog 53 #[svV r, .int .i64 y] w fun e w' => e = .returned (.bool (ms.contains y)) ∧ Below w.heap.size w w' := by
  obtain ⟨A, n, c⟩ := r
  simp only [svV]
  refine enter Tryz.func53 rfl Tryz.ntmps53 rfl ?_; simp only [frame, Nat.zero_add, Nat.reduceAdd]
  repeat (first | (refine M0 ?_; first | refine SL ?_ | refine SB fun _ _ => ?_ | refine Y4 (Ev.call (f := 70) (ck rfl) rfl (fun w S => (indexI_any (r := ⟨A, n, c⟩) (hr.arg S) hn :))) ?_) | (refine M1 ?_; refine SC ?_) | (refine M2 ?_; refine SE ?_))
  refine XE.retg tok Tryz.results53 rfl (by simp only [and_self, and_true]) (fun w' S => ?_)
  refine ⟨?_, S.toBelow⟩
  have hE : (ms.any fun m => decide (y = m)) = ms.contains y := by
    rw [Bool.eq_iff_iff, List.any_eq_true, List.contains_iff_mem]
    exact ⟨fun ⟨m, h1, h2⟩ => by rw [of_decide_eq_true h2]; exact h1, fun h => ⟨y, h, by simp⟩⟩
  rw [idxL_any, hE]
  rfl
set_option maxHeartbeats 16000000 in
theorem slots_any {g : Nat} {v : ATV} {t : ATk} {q r rT : SV} {ls : List Nat} {now : Int} {w : World} (hb : BrdAt w (Lt w.heap.size) g v t q r) (ht : AtAt w w.heap.size v t) (hO : AlOk t) (hl : ∀ x, x ∈ t.twn → x.chs.length ≤ 5000000)
    (hnow : 0 ≤ now ∧ now ≤ 200000) (hT : IntsAt w (Lt w.heap.size) rT (ls.map fun i => ((i : Nat) : Int))) (hls : ∀ i, i ∈ ls → i < t.twn.length) (h8 : ls.length ≤ 1000) :
    Calls Tryz.prog 31 #[.pointer (some ⟨g, 0, none⟩), .int .i64 now, svV rT] w fun e w' => e = .returned (.int .i64 (t.slots now ls)) ∧ Below w.heap.size w w' := by
  have hok : g < w.heap.size := hb.ok_
  have hnc := ht.nc
  have hnw := ht.nw
  have hc1 : w.cell? (((⟨g, 0, none⟩ : Addr).add 0).add 1) = some (.slice v.c.A v.c.n v.c.c) := by rw [add_off, add_off]; exact hb.cell (j := 1) rfl
  have hc2 : w.cell? (((⟨g, 0, none⟩ : Addr).add 0).add 2) = some (.slice v.w.A v.w.n v.w.c) := by rw [add_off, add_off]; exact hb.cell (j := 2) rfl
  have hn4 := hO.n4
  obtain ⟨AT, nT, cT⟩ := rT
  have hnT := hT.len
  rw [List.length_map] at hnT
  simp only at hnT
  subst hnT
  rw [hnc] at hc1
  rw [hnw] at hc2
  simp only [svV]
  refine enter Tryz.func31 rfl Tryz.ntmps31 rfl ?_; simp only [frame, Nat.zero_add, Nat.reduceAdd]
  repeat (first | (refine M0 ?_; first | refine SL ?_ | refine SB fun _ _ => ?_ | refine Y4 (Ev.load_old tok rfl rfl (add_lt2 hok) hc1) ?_) | (refine M1 ?_; refine SC ?_) | (refine M2 ?_; refine SE ?_))
  refine XC.loopk [0, 1, 2, 17, 18] rfl (fun c : Nat => [(7, .int .i64 (t.slotsK now ls c)), (19, .int .i64 (c : Nat))]) (fun _ => []) (fun _ => w) (fun c => c ≤ t.cha.length) (fun c => t.cha.length - c) 0 (Nat.zero_le _) ZZSUB (fun _ h => h) ?_
  rintro c hc
  have hsk := ATk.slotsK_in hO hnow.1 ls c hc
  dsimp only [List.cons_append, List.nil_append]
  repeat (first | (refine M0 ?_; first | refine SL ?_ | refine SB fun _ _ => ?_) | (refine M1 ?_; refine SC ?_) | (refine M2 ?_; refine SE ?_))
  refine XC.cond _ rfl (fun h2 => ?_) (fun h2 => ?_)
  rotate_left
  · have hcn : c = t.cha.length := by have := of_decide_eq_false h2; omega
    subst hcn
    repeat (first | (refine M0 ?_; first | refine SL ?_ | refine SB fun _ _ => ?_) | (refine M1 ?_; refine SC ?_) | (refine M2 ?_; refine SE ?_))
    refine XE.retg tok Tryz.results31 rfl (by simp only [and_self, and_true]) (fun w' S => ?_)
    exact ⟨rfl, S.toBelow⟩
  have hcn : c < t.cha.length := by have := of_decide_eq_true h2; omega
  clear h2
  obtain ⟨ad, e1, hlt, hcell⟩ := ht.chaAt hcn
  rw [e1]
  have hroom := (hO.cha c hcn).2
  obtain ⟨x, hx⟩ : ∃ x, x = t.ch (c : Int) := ⟨_, rfl⟩
  rw [← hx] at hcell hroom
  simp only [chaC] at hcell
  repeat (first | (refine M0 ?_; first | refine SL ?_ | refine SB fun _ _ => ?_ | refine Y4 (Ev.load_old_agg tok (chaC x) rfl rfl rfl (add_lt hlt) hcell) ?_) | (refine M1 ?_; refine SC ?_) | (refine M2 ?_; refine SE ?_))
  rename_i g9 hg9
  refine XC.loopk [0, 1, 2, 7, 8, 9, 17, 18, 19, 24, 25] rfl (fun k : Nat => [(10, .int .i64 (t.most now (ls.take k) c)), (26, .int .i64 (k : Nat))]) (fun _ => [(g9, cel 73 [.string x.name, .int .i64 x.delay, .int .i64 x.room])]) (fun _ => w) (fun k => k ≤ ls.length) (fun k => ls.length - k) 0 (Nat.zero_le _) ZZSUB (fun _ h => h) ?_
  rintro k hk
  have hmo := ATk.most_in (t := t) hnow.1 (ls.take k) c
  dsimp only [List.cons_append, List.nil_append]
  repeat (first | (refine M0 ?_; first | refine SL ?_ | refine SB fun _ _ => ?_) | (refine M1 ?_; refine SC ?_) | (refine M2 ?_; refine SE ?_))
  refine XC.cond _ rfl (fun h2 => ?_) (fun h2 => ?_)
  rotate_left
  · have hkn : k = ls.length := by have := of_decide_eq_false h2; omega
    rw [hkn, List.take_length] at hmo ⊢
    have h4 : 0 ≤ t.most now ls c * x.room := Int.mul_nonneg hmo.1 hroom.1
    have h5 : t.most now ls c * x.room ≤ 200001 * 20 := Int.mul_le_mul hmo.2 hroom.2 hroom.1 (by decide)
    have h6 : i64in (t.most now ls c * x.room) := by unfold i64in; omega
    have e5 : t.slotsK now ls (c + 1) = t.slotsK now ls c + t.most now ls c * x.room := by rw [ATk.slotsK_add, hx]
    repeat (first | (refine M0 ?_; first | refine SL ?_ | refine SB fun _ _ => ?_) | (refine M1 ?_; refine SC ?_) | (refine M2 ?_; refine SE ?_))
    refine XE.round (c + 1) hcn (by omega) (by rw [e5]; exact ZZSUB) (fun _ h => h.pop hg9)
  have hkn : k < ls.length := by have := of_decide_eq_true h2; omega
  clear h2
  obtain ⟨adT, e2, hltT, hcellT⟩ := hT.at_ (by rw [List.length_map]; omega)
  have e2' : AT = some adT := e2
  subst e2'
  have hcT := hcellT k (by rw [List.length_map]; exact hkn)
  obtain ⟨i, hi⟩ : ∃ i, i = ls[k] := ⟨_, rfl⟩
  have hil : i < t.twn.length := hls i (by rw [hi]; exact List.getElem_mem hkn)
  rw [show at0 (ls.map fun i => ((i : Nat) : Int)) k = ((i : Nat) : Int) by simp [at0, hkn, hi]] at hcT
  obtain ⟨adw, qw, e3, hltw, hcw, hqw⟩ := ht.twnAt hil
  have hcw4 := hcw 4 (.slice qw.A qw.n qw.c) rfl
  rw [e3] at hc2
  have htw : t.tw i ∈ t.twn := by unfold ATk.tw; rw [List.getElem?_eq_getElem hil]; exact List.getElem_mem hil
  have hcl := hl _ htw
  have e6 : t.most now (ls.take (k + 1)) c = if (t.tw i).chs.contains (c : Int) then max (t.most now (ls.take k) c) (t.latest i (c : Int) - now + 1) else t.most now (ls.take k) c := by
    rw [List.take_add_one, List.getElem?_eq_getElem hkn, ← hi]
    exact ATk.most_snoc (ls.take k) i c
  have hle := ATk.latest_le (t := t) i (c : Int)
  have hac := ATk.act_in hO hil
  have hlg : -1000 ≤ t.latest i (c : Int) := by
    have := (hO.cha c hcn).1
    unfold ATk.latest
    omega
  repeat (first | (refine M0 ?_; first | refine SL ?_ | refine SB fun _ _ => ?_ | refine Y4 (Ev.load_old tok rfl rfl (add_lt hltT) hcT) ?_ | refine Y4 (Ev.load_old tok rfl rfl (add_lt2 hok) hc2) ?_ | refine Y4 (Ev.load_old tok rfl rfl (add_lt2 hltw) hcw4) ?_) | (refine M1 ?_; refine SC ?_) | (refine M2 ?_; refine SE ?_))
  refine Y4 (Ev.call (f := 53) (ck rfl) rfl (fun w S => (containsI_any (r := qw) (hqw.arg S) (by omega) :))) ?_
  repeat (first | (refine M0 ?_; first | refine SL ?_ | refine SB fun _ _ => ?_) | (refine M1 ?_; refine SC ?_) | (refine M2 ?_; refine SE ?_))
  refine XC.cond _ rfl (fun h2 => ?_) (fun h2 => ?_)
  · rw [if_pos h2] at e6
    repeat (first | (refine M0 ?_; first | refine SL ?_ | refine SB fun _ _ => ?_) | (refine M1 ?_; refine SC ?_) | (refine M2 ?_; refine SE ?_))
    refine Y4 (Ev.call (f := 50) (ck rfl) rfl (fun w S => (latest_any (hb.arg S) (ht.sys S) hO hil hcn :))) ?_
    repeat (first | (refine M0 ?_; first | refine SL ?_ | refine SB fun _ _ => ?_) | (refine M1 ?_; refine SC ?_) | (refine M2 ?_; refine SE ?_))
    refine XE.round (k + 1) hkn (by omega) (by rw [e6]; exact ZZSUB) (fun _ h => h)
  · rw [if_neg (by rw [h2]; decide)] at e6
    repeat (first | (refine M0 ?_; first | refine SL ?_ | refine SB fun _ _ => ?_) | (refine M1 ?_; refine SC ?_) | (refine M2 ?_; refine SE ?_))
    refine XE.round (k + 1) hkn (by omega) (by rw [e6]; exact ZZSUB) (fun _ h => h)
end X
namespace X
open Go Go.RowKit Bs
set_option maxHeartbeats 8000000 in
theorem compareI_any {q r : SV} {l m : List Int} {w : World} (hq : IntsAt w (Lt w.heap.size) q l) (hr : IntsAt w (Lt w.heap.size) r m) (hn : l.length ≤ 9223372036854775806) :
    Calls Tryz.prog 30 #[svV q, svV r] w fun e w' => ∃ z : Int, e = .returned (.int .i64 z) ∧ Below w.heap.size w w' := by
  obtain ⟨A, n, c⟩ := q
  obtain ⟨A2, n2, c2⟩ := r
  have hql := hq.len
  have hrl := hr.len
  simp only at hql hrl
  subst hql hrl
  simp only [svV]
  refine enter Tryz.func30 rfl Tryz.ntmps30 rfl ?_; simp only [frame, Nat.zero_add, Nat.reduceAdd]
  repeat (first | (refine M0 ?_; first | refine SL ?_ | refine SB fun _ _ => ?_) | (refine M1 ?_; refine SC ?_) | (refine M2 ?_; refine SE ?_))
  refine XC.loopk [0, 1, 9, 10] rfl (fun k : Nat => [(11, .int .i64 (k : Nat))]) (fun _ => []) (fun _ => w) (fun k => k ≤ l.length) (fun k => l.length - k) 0 (Nat.zero_le _) ZZSUB (fun _ h => h) ?_
  rintro k hk
  dsimp only [List.cons_append, List.nil_append]
  repeat (first | (refine M0 ?_; first | refine SL ?_ | refine SB fun _ _ => ?_) | (refine M1 ?_; refine SC ?_) | (refine M2 ?_; refine SE ?_))
  refine XC.cond _ rfl (fun h2 => ?_) (fun h2 => ?_)
  rotate_left
  · repeat (first | (refine M0 ?_; first | refine SL ?_ | refine SB fun _ _ => ?_) | (refine M1 ?_; refine SC ?_) | (refine M2 ?_; refine SE ?_))
    refine XC.cond _ rfl (fun h3 => ?_) (fun h3 => ?_)
    · repeat (first | (refine M0 ?_; first | refine SL ?_ | refine SB fun _ _ => ?_) | (refine M1 ?_; refine SC ?_) | (refine M2 ?_; refine SE ?_))
      refine XE.retg tok Tryz.results30 rfl (by simp only [and_self, and_true]) (fun w' S => ?_)
      exact ⟨_, rfl, S.toBelow⟩
    · repeat (first | (refine M0 ?_; first | refine SL ?_ | refine SB fun _ _ => ?_) | (refine M1 ?_; refine SC ?_) | (refine M2 ?_; refine SE ?_))
      refine XE.retg tok Tryz.results30 rfl (by simp only [and_self, and_true]) (fun w' S => ?_)
      exact ⟨_, rfl, S.toBelow⟩
  have hkn : k < l.length := by have := of_decide_eq_true h2; omega
  clear h2
  obtain ⟨ad, e1, hlt, hcells⟩ := hq.at_ (by omega)
  have e1' : A = some ad := e1
  subst e1'
  have hc := hcells k hkn
  repeat (first | (refine M0 ?_; first | refine SL ?_ | refine SB fun _ _ => ?_ | refine Y4 (Ev.load_old tok rfl rfl (add_lt hlt) hc) ?_) | (refine M1 ?_; refine SC ?_) | (refine M2 ?_; refine SE ?_))
  refine XC.cond _ rfl (fun h2 => ?_) (fun h2 => ?_)
  · repeat (first | (refine M0 ?_; first | refine SL ?_ | refine SB fun _ _ => ?_) | (refine M1 ?_; refine SC ?_) | (refine M2 ?_; refine SE ?_))
    refine XE.retg tok Tryz.results30 rfl (by simp only [and_self, and_true]) (fun w' S => ?_)
    exact ⟨_, rfl, S.toBelow⟩
  have hkm : k < m.length := by have := of_decide_eq_false h2; omega
  clear h2
  obtain ⟨ad2, e2, hlt2, hcells2⟩ := hr.at_ (by omega)
  have e2' : A2 = some ad2 := e2
  subst e2'
  have hc2 := hcells2 k hkm
  repeat (first | (refine M0 ?_; first | refine SL ?_ | refine SB fun _ _ => ?_ | refine Y4 (Ev.load_old tok rfl rfl (add_lt hlt2) hc2) ?_ | refine Y4 (Ev.call (f := 52) (ck rfl) rfl (fun w _ => compare_any _ _ w)) ?_) | (refine M1 ?_; refine SC ?_) | (refine M2 ?_; refine SE ?_))
  refine XC.cond _ rfl (fun h2 => ?_) (fun h2 => ?_)
  · repeat (first | (refine M0 ?_; first | refine SL ?_ | refine SB fun _ _ => ?_) | (refine M1 ?_; refine SC ?_) | (refine M2 ?_; refine SE ?_))
    refine XE.retg tok Tryz.results30 rfl (by simp only [and_self, and_true]) (fun w' S => ?_)
    exact ⟨_, rfl, S.toBelow⟩
  · repeat (first | (refine M0 ?_; first | refine SL ?_ | refine SB fun _ _ => ?_) | (refine M1 ?_; refine SC ?_) | (refine M2 ?_; refine SE ?_))
    exact XE.round (k + 1) hkn (by omega) ZZSUB (fun _ h => h)
end X
namespace X
open Go Go.RowKit
section
variable {P : Program} {N : Nat} {B : Nat} {w0 : World} {ds : List Deferred} {Q : Exit → Act → World → Prop} {F : Fr} {L : Lo} {Fe : Fence} {n : Nat}
theorem ready_mkY {l : List Oper} {D : Array Bool} {i : Nat} {o : Oper} (hsz : D.size = l.length) (ho : l[i]? = some o) (hn : on D i = false) (hb : ∀ j ∈ binds o, on D j = true) : i ∈ Region.ready .any l.toArray D := by
  have hi : i < D.size := by rw [hsz]; exact (List.getElem?_eq_some_iff.1 ho).1
  refine mem_ready.2 ⟨?_, o, by simpa using ho, fun e he hbe => ?_⟩
  · unfold on at hn
    rw [Array.getD_eq_getD_getElem?, Array.getElem?_eq_getElem hi] at hn ⊢
    exact hn
  · exact hb e.on (by unfold binds; exact List.mem_map.2 ⟨e, List.mem_filter.2 ⟨by simpa using he, hbe⟩, rfl⟩)
def guardLowY (n : Nat) (o : Oper) : Bool := match o.guard with
  | none => true
  | some (j, _) => Nat.blt j n
theorem wpOpIn_swapY {l l1 : List Oper} {z : Oper} (hl : l = l1 ++ [z]) {i : Nat} {o : Oper} {a : Act} {w : World} {K C C' : Act → World → Prop} (hi : l1[i]? = some o) (hg : guardLowY l1.length o = true) (hC : ∀ a w, C a w → C' a w)
    (h : wpOpIn Fe n P l1.toArray (only K) i C a w) : wpOpIn Fe n P l.toArray Q i C' a w := by
  have hlt := (List.getElem?_eq_some_iff.1 hi).1
  have h1 : l1.toArray[i]? = some o := by simpa using hi
  have h2 : l.toArray[i]? = some o := by rw [hl]; simp [List.getElem?_append_left hlt, hi]
  have hw : Region.wanted o (yielded l.toArray a.tmps) = Region.wanted o (yielded l1.toArray a.tmps) := by
    unfold Region.wanted
    unfold guardLowY at hg
    split
    · rfl
    · rename_i j want hgd
      rw [hgd] at hg
      have hj : j < l1.length := Nat.le_of_ble_eq_true hg
      unfold yielded
      rw [show l.toArray[j]? = l1.toArray[j]? by rw [hl]; simp [List.getElem?_append_left hj]]
  unfold wpOpIn at h ⊢
  rw [h1] at h
  rw [h2]
  simp only at h ⊢
  rw [hw]
  split
  · rename_i hw2
    rw [if_pos hw2] at h
    unfold Oper.wpIn at h ⊢
    refine ⟨h.1, ?_⟩
    have h := h.2
    generalize (o.semAt Fe.round a.eval).run P w = r at h ⊢
    cases r with
    | ok n w' =>
      cases n <;> simp only [Oper.uponIn] at h ⊢ <;> first
        | exact hC _ _ h
        | exact ⟨h.1, CallsIn.mono h.2 (fun e w'' he => by
            cases e with
            | returned v => exact hC _ _ he
            | panicked c => exact he.elim
            | outgrown => exact he.elim fun _ h => h.elim fun _ h => h.elim)⟩
        | exact ⟨h.1, RowsIn.mono h.2 (fun _ _ he => hC _ _ he)⟩
        | exact ⟨h.1, RoundIn.mono h.2 (fun e w'' he => by
            cases e with
            | returned v => exact hC _ _ he
            | panicked c => exact he.elim
            | outgrown => exact he.elim fun _ h => h.elim fun _ h => h.elim)⟩
    | halt x w' => cases x <;> simp only [Oper.uponIn] at h ⊢ <;> exact h.elim
  · rename_i hw2
    rw [if_neg hw2] at h
    exact ⟨h.1, hC _ _ h.2⟩
theorem wpAnyIn_snocY {l l1 : List Oper} {z : Oper} (hl : l = l1 ++ [z]) (hc : (edgesOk l && tailB l) = true) (hg : l1.all (guardLowY l1.length) = true) {K : Act → World → Prop} (hK : ∀ a w, K a w → wpListIn Fe n P l.toArray Q [z] a w) :
    ∀ (fuel fuel1 : Nat) (D D1 : Array Bool) (a : Act) (w : World), D.size = l.length → D1.size = l1.length → (∀ i, i < l1.length → on D i = on D1 i) → on D l1.length = false → Closed l D → D.toList.count false ≤ fuel →
      wpAnyIn Fe n P .any l1.toArray (only K) fuel1 D1 a w → wpAnyIn Fe n P .any l.toArray Q fuel D a w := by
  simp only [Bool.and_eq_true] at hc
  obtain ⟨hc, htl⟩ := hc
  have hll : l.length = l1.length + 1 := by rw [hl]; simp
  have hzi : l[l1.length]? = some z := by rw [hl]; simp
  have hlow : ∀ (i : Nat) (o : Oper), i < l1.length → l[i]? = some o → l1[i]? = some o := fun i o hi ho => by rw [hl, List.getElem?_append_left hi] at ho; exact ho
  have hbl : ∀ (i : Nat) (o : Oper), l[i]? = some o → ∀ j ∈ binds o, j < i := fun i o ho j hj => by have := (low_at l 0 i o (edgesOk_low hc) ho).1 j hj; omega
  intro fuel
  induction fuel with
  | zero =>
    intro fuel1 D D1 a w hsz hsz1 hsame hno hcl hcnt h
    have := count_set (D := D) (i := l1.length) (by omega) hno
    omega
  | succ fuel ih =>
    intro fuel1 D D1 a w hsz hsz1 hsame hno hcl hcnt h
    refine ⟨fun hr => (by have := all_done hsz (edgesOk_low hc) hr l1.length (by omega); rw [hno] at this; cases this), fun i hi => ?_⟩
    obtain ⟨o, ho, hn, hb⟩ := ready_spec hsz hi
    have hilt : i < l.length := (List.getElem?_eq_some_iff.1 ho).1
    by_cases hil : i = l1.length
    · subst hil
      rw [hzi] at ho
      obtain rfl := Option.some.inj ho
      have hall : ∀ i, i < l1.length → on D i = true := fun i hi => ahead_closed (edgesOk_low hc) hcl l1.length z hzi hb i (tailB_spec htl hll i hi)
      have hr1 : Region.ready .any l1.toArray D1 = [] := by
        apply List.eq_nil_iff_forall_not_mem.2
        intro j hj
        obtain ⟨o2, ho2, hn2, _⟩ := ready_spec hsz1 hj
        have hj2 := (List.getElem?_eq_some_iff.1 ho2).1
        rw [← hsame j hj2, hall j hj2] at hn2
        cases hn2
      have hKK : K a w := by
        cases fuel1 with
        | zero => exact h.2
        | succ m => exact h.1 hr1
      have hx := hK a w hKK
      have hoi : l.toArray[l1.length]? = some z := by simpa using hzi
      refine wpOpIn_mono (K := fun a w => Q .normal a w) (fun a'' w'' q => ?_) ?_
      · have hr : Region.ready .any l.toArray (D.setIfInBounds l1.length true) = [] := by
          apply List.eq_nil_iff_forall_not_mem.2
          intro j hj
          obtain ⟨o2, ho2, hn2, _⟩ := ready_spec (by simpa using hsz) hj
          have hj2 := (List.getElem?_eq_some_iff.1 ho2).1
          rw [on_set (by omega)] at hn2
          simp only [Bool.or_eq_false_iff, beq_eq_false_iff_ne] at hn2
          rw [hall j (by omega)] at hn2
          cases hn2.1
        exact wpAnyIn_done hr q fuel
      · unfold wpOpIn
        rw [hoi]
        unfold wpListIn at hx
        simp only
        split
        · rename_i hw; rw [if_pos hw] at hx; exact hx
        · rename_i hw; rw [if_neg hw] at hx; exact hx
    · have hil2 : i < l1.length := by omega
      have ho1 := hlow i o hil2 ho
      have hr1 : i ∈ Region.ready .any l1.toArray D1 := ready_mkY hsz1 ho1 (by rw [← hsame i hil2]; exact hn) fun j hj => by
        have := hbl i o ho j hj
        rw [← hsame j (by omega)]; exact hb j hj
      cases fuel1 with
      | zero => rw [h.1] at hr1; cases hr1
      | succ m =>
        refine wpOpIn_swapY hl ho1 (List.all_eq_true.1 hg o (List.mem_of_getElem? ho1)) (fun a' w' h' => ?_) (h.2 i hr1)
        refine ih m _ _ a' w' (by simpa using hsz) (by simpa using hsz1) (fun j hj => ?_) ?_ ?_ ?_ h'
        · rw [on_set (by omega), on_set (by omega), hsame j hj]
        · rw [on_set (by omega), hno]
          simp only [Bool.false_or, beq_eq_false_iff_ne]
          omega
        · intro j hj o2 ho2 k hk
          rw [on_set (by omega)] at hj ⊢
          simp only [Bool.or_eq_true, beq_iff_eq] at hj ⊢
          rcases hj with hj | hj
          · exact .inl (hcl j hj o2 ho2 k hk)
          · subst hj
            rw [ho] at ho2
            obtain rfl := Option.some.inj ho2
            exact .inl (hb k hk)
        · have := count_set (D := D) (i := i) (by omega) hn
          omega
theorem XC.drawY3 {id : Nat} {l l1 l2 l3 : List Oper} {x y z : Oper} {rem : List (Nat × Oper)} (n : Nat) (wS : World) (Ls : Lo) (p q : List Nat) (hm : P.follows .mixedOrders = true) (hL : ∀ w, Sys B w0 L w → Sys B wS Ls w) (hcut : cutLast l = some (l1, z)) (hcut2 : cutLast l1 = some (l2, y)) (hcut3 : cutLast l2 = some (l3, x))
    (hnd : l3.all notDefer = true) (hc : (edgesOk l && tailB l) = true) (hc2 : (edgesOk l1 && tailB l1) = true) (hc3 : (edgesOk l2 && tailB l2) = true) (hg : (l1.all (guardLowY l1.length) && l2.all (guardLowY l2.length) && l3.all (guardLowY l3.length)) = true) (hr : pickR l3 q = some rem)
    (hp : (pureOk l3.toArray (Array.replicate l3.length false) p && partB l3.length p q) = true)
    (h : Fw P N B wS ds False (fun F' => XR P N B wS w0 ds (only (wpListIn (fen none) n P l2.toArray (only (wpListIn (fen none) n P l1.toArray (only (wpListIn (fen none) n P l.toArray Q [z])) [y])) [x])) Ls l3.toArray rem F' L) l3.toArray Ls (pickO l3.toArray p) F) : XC P N B w0 ds Q (.region id l.toArray true) F L := by
  have hl := cutLast_eq hcut
  have hl2 := cutLast_eq hcut2
  have hl3 := cutLast_eq hcut3
  simp only [Bool.and_eq_true] at hg
  obtain ⟨⟨hg1, hg2⟩, hg3⟩ := hg
  refine ⟨fun a w hf hs => (wpIn_wide (n := n)).1 ?_⟩
  have h1 := (XH.ofRS (Q := only (wpListIn (fen none) n P l2.toArray (only (wpListIn (fen none) n P l1.toArray (only (wpListIn (fen none) n P l.toArray Q [z])) [y])) [x])) wS Ls p q hr hp h).run l3.toArray.size a { w with drawn := w.drawn + 1 } (by simp) hf hs.drew (hL _ hs.drew)
  have hcl : ∀ (l : List Oper) (n : Nat), Closed l (Array.replicate n false) := fun l n i hi => by
    unfold on at hi
    simp only [Array.getD_eq_getD_getElem?, Array.getElem?_replicate] at hi
    split at hi <;> simp at hi
  have hof : ∀ (n i : Nat), on (Array.replicate n false) i = false := fun n i => by
    unfold on
    simp only [Array.getD_eq_getD_getElem?, Array.getElem?_replicate]
    split <;> simp
  have h1' := wpAnyIn_of (r := none) (n := n) (Q' := only (wpListIn (fen none) n P l2.toArray (only (wpListIn (fen none) n P l1.toArray (only (wpListIn (fen none) n P l.toArray Q [z])) [y])) [x])) (fun i o ho => List.all_eq_true.1 hnd o (List.mem_of_getElem? (by simpa using ho))) (fun _ _ h => h) _ _ _ _ (wpAny_of_held _ _ _ _ h1)
  have h2 := wpAnyIn_snocY hl3 hc3 hg3 (K := wpListIn (fen none) n P l2.toArray (only (wpListIn (fen none) n P l1.toArray (only (wpListIn (fen none) n P l.toArray Q [z])) [y])) [x]) (fun _ _ h => h) l2.length _ (Array.replicate l2.length false) (Array.replicate l3.toArray.size false) a _ (by simp) (by simp) (fun i hi => by rw [hof, hof]) (hof _ _) (hcl _ _) (by simp) h1'
  have h3 := wpAnyIn_snocY hl2 hc2 hg2 (K := wpListIn (fen none) n P l1.toArray (only (wpListIn (fen none) n P l.toArray Q [z])) [y]) (fun _ _ h => h) l1.length _ (Array.replicate l1.length false) (Array.replicate l2.length false) a _ (by simp) (by simp) (fun i hi => by rw [hof, hof]) (hof _ _) (hcl _ _) (by simp) h2
  refine wpIn_region_any hm (wpAnyIn_snocY hl hc hg1 (K := wpListIn (fen none) n P l.toArray Q [z]) (fun _ _ h => h) _ l1.length _ (Array.replicate l1.length false) a _ (by simp) (by simp) (fun i hi => by rw [hof, hof]) (hof _ _) (hcl _ _) (by simp) h3)
end
end X
namespace X
open Go Go.RowKit Bs
def tripT (P : Program) (t : TypeId) : Bool := match P.underlying t with
  | some (.struct ⟨[a, b, c]⟩) => intT5 P a.type && (intT5 P b.type && (intT5 P c.type && (a.offset == 0 && (b.offset == 1 && (c.offset == 2 && (a.name != "_" && (b.name != "_" && (c.name != "_" && (P.cellsOf t == 3 && P.keyType t)))))))))
  | _ => false
theorem keyOf_trip {P : Program} {t : TypeId} (ht : tripT P t = true) {D : Nat} (hD : P.types.size + 1 = D + 3) {x y z : Int} (hx : i64in x) (hy : i64in y) (hz : i64in z) : ∃ l, keyOf P t (.agg ⟨[.int .i64 x, .int .i64 y, .int .i64 z]⟩) = some l := by
  unfold tripT at ht
  split at ht
  · rename_i f1 f2 f3 hu
    simp only [Bool.and_eq_true, beq_iff_eq, bne_iff_ne, ne_eq] at ht
    obtain ⟨t1, t2, t3, o1, o2, o3, n1, n2, n3, c2, hk⟩ := ht
    have h1 : P.keyLits (P.types.size + 1) t [.int .i64 x, .int .i64 y, .int .i64 z] = some [.int .i64 x, .int .i64 y, .int .i64 z] := by
      rw [hD]
      rw [keyLits_str5 hu]
      simp [c2, n1, n2, n3, o1, o2, o3, intT5_1 t1, intT5_1 t2, intT5_1 t3, keyLits_int5 t1 (D + 1) hx, keyLits_int5 t2 (D + 1) hy, keyLits_int5 t3 (D + 1) hz]
    refine ⟨.string (keyBytes [.int .i64 x, .int .i64 y, .int .i64 z]), ?_⟩
    unfold keyOf
    simp only [hu]
    rw [if_pos (by simp [hk, Value.formed, hu, c2])]
    simp only [Value.cells]
    rw [h1]
    rfl
  · cases ht
theorem sea_t : tripT Tryz.prog 109 = true := by kernel_rfl
def seaV (s : Sea) : Value := .agg ⟨[.int .i64 s.c, .int .i64 s.s, .int .i64 s.n]⟩
theorem seaV_inj {s s' : Sea} (h : seaV s = seaV s') : s = s' := by
  obtain ⟨a, b, c⟩ := s
  obtain ⟨a', b', c'⟩ := s'
  simp only [seaV, Value.agg.injEq, Array.mk.injEq, List.cons.injEq, Value.int.injEq, true_and, and_true] at h
  obtain ⟨rfl, rfl, rfl⟩ := h
  rfl
theorem sea_law : WideMaps.KeyLaw Tryz.prog 109 := deep_law (m := 4) (by decide) (by kernel_rfl) (by kernel_rfl) (by kernel_rfl)
theorem seaF : KeyF Tryz.prog 109 fun v => ∃ l, keyOf Tryz.prog 109 v = some l := KeyF.of sea_law
def Sea.in_ (s : Sea) : Prop := i64in s.c ∧ i64in s.s ∧ i64in s.n
theorem sea_key {s : Sea} (h : Sea.in_ s) : ∃ l, keyOf Tryz.prog 109 (seaV s) = some l := by
  obtain ⟨d, hd⟩ := run_fuel
  exact keyOf_trip sea_t hd h.1 h.2.1 h.2.2
end X
namespace X
open Go Go.RowKit Bs
def tkF (m : Mps) : Value → Option Value
  | .agg ⟨[.int .i64 a, .int .i64 b, .int .i64 c]⟩ => (m.tk ⟨a, b, c⟩).map fun i => .int .i64 ((i : Nat) : Int)
  | _ => none
def trF (l : List Sea) : Value → Option Value
  | .agg ⟨[.int .i64 a, .int .i64 b, .int .i64 c]⟩ => if l.contains ⟨a, b, c⟩ then some (.bool true) else none
  | _ => none
def stF (m : Mps) : Value → Option Value
  | .int .i64 n => if 0 ≤ n then (m.st n.toNat).map seaV else none
  | _ => none
def fxF (fx : Nat → Bool) : Value → Option Value
  | .int .i64 n => if 0 ≤ n ∧ fx n.toNat = true then some (.bool true) else none
  | _ => none
theorem tkF_at (m : Mps) (s : Sea) : tkF m (seaV s) = (m.tk s).map fun i => .int .i64 ((i : Nat) : Int) := rfl
theorem trF_at (l : List Sea) (s : Sea) : trF l (seaV s) = if l.contains s then some (.bool true) else none := rfl
theorem stF_at (m : Mps) (i : Nat) : stF m (.int .i64 (i : Nat)) = (m.st i).map seaV := by
  show (if (0 : Int) ≤ (i : Nat) then (m.st ((i : Nat) : Int).toNat).map seaV else none) = _
  rw [if_pos (by omega)]; rfl
theorem fxF_at (fx : Nat → Bool) (i : Nat) : fxF fx (.int .i64 (i : Nat)) = if fx i then some (.bool true) else none := by
  show (if (0 : Int) ≤ (i : Nat) ∧ fx ((i : Nat) : Int).toNat = true then some (Value.bool true) else none) = _
  simp
theorem tkF_no (m : Mps) {v : Value} (h : ∀ s, v ≠ seaV s) : tkF m v = none := by
  unfold tkF
  split
  · rename_i a b c
    exact absurd rfl (h ⟨a, b, c⟩)
  · rfl
theorem trF_no (l : List Sea) {v : Value} (h : ∀ s, v ≠ seaV s) : trF l v = none := by
  unfold trF
  split
  · rename_i a b c
    exact absurd rfl (h ⟨a, b, c⟩)
  · rfl
theorem stF_no (m : Mps) {v : Value} (h : ∀ i : Nat, v ≠ .int .i64 (i : Nat)) : stF m v = none := by
  unfold stF
  split
  · rename_i n
    split
    · rename_i hn
      exact absurd (by rw [Int.toNat_of_nonneg hn]) (h n.toNat)
    · rfl
  · rfl
theorem fxF_no (fx : Nat → Bool) {v : Value} (h : ∀ i : Nat, v ≠ .int .i64 (i : Nat)) : fxF fx v = none := by
  unfold fxF
  split
  · rename_i n
    split
    · rename_i hn
      exact absurd (by rw [Int.toNat_of_nonneg hn.1]) (h n.toNat)
    · rfl
  · rfl
theorem ext_sea {f g : Value → Option Value} (h1 : ∀ s, f (seaV s) = g (seaV s)) (h2 : ∀ v, (∀ s, v ≠ seaV s) → f v = g v) : f = g := by
  funext v
  by_cases h : ∃ s, v = seaV s
  · obtain ⟨s, rfl⟩ := h; exact h1 s
  · exact h2 v fun s e => h ⟨s, e⟩
theorem ext_twn {f g : Value → Option Value} (h1 : ∀ i : Nat, f (.int .i64 (i : Nat)) = g (.int .i64 (i : Nat))) (h2 : ∀ v, (∀ i : Nat, v ≠ .int .i64 (i : Nat)) → f v = g v) : f = g := by
  funext v
  by_cases h : ∃ i : Nat, v = .int .i64 (i : Nat)
  · obtain ⟨i, rfl⟩ := h; exact h1 i
  · exact h2 v fun s e => h ⟨s, e⟩
theorem sea_ne {s s' : Sea} (h : s' ≠ s) : seaV s' ≠ seaV s := fun e => h (seaV_inj e)
theorem twn_ne {i j : Nat} (h : j ≠ i) : (Value.int .i64 ((j : Nat) : Int)) ≠ .int .i64 (i : Nat) := fun e => by injection e with _ e; omega
theorem tkF_put (m : Mps) (s : Sea) (i : Nat) : upd (tkF m) (seaV s) (some (.int .i64 (i : Nat))) = tkF (m.put s i) := by
  refine ext_sea (fun s' => ?_) fun v hv => ?_
  · unfold upd
    rw [tkF_at, tkF_at]
    by_cases e : s' = s
    · subst e; simp [Mps.put]
    · rw [if_neg (sea_ne e)]; simp [Mps.put, e]
  · unfold upd; rw [if_neg (hv s), tkF_no m hv, tkF_no _ hv]
theorem stF_put (m : Mps) (s : Sea) (i : Nat) : upd (stF m) (.int .i64 (i : Nat)) (some (seaV s)) = stF (m.put s i) := by
  refine ext_twn (fun j => ?_) fun v hv => ?_
  · unfold upd
    rw [stF_at, stF_at]
    by_cases e : j = i
    · subst e; simp [Mps.put]
    · rw [if_neg (twn_ne e)]; simp [Mps.put, e]
  · unfold upd; rw [if_neg (hv i), stF_no m hv, stF_no _ hv]
theorem tkF_free (m : Mps) (i : Nat) : upd (tkF m) (seaV ((m.st i).getD s00)) none = tkF (m.free i) := by
  refine ext_sea (fun s' => ?_) fun v hv => ?_
  · unfold upd
    rw [tkF_at, tkF_at]
    by_cases e : s' = (m.st i).getD s00
    · subst e; simp [Mps.free]
    · rw [if_neg (sea_ne e)]; simp [Mps.free, e]
  · unfold upd; rw [if_neg (hv _), tkF_no m hv, tkF_no _ hv]
theorem stF_free (m : Mps) (i : Nat) : upd (stF m) (.int .i64 (i : Nat)) none = stF (m.free i) := by
  refine ext_twn (fun j => ?_) fun v hv => ?_
  · unfold upd
    rw [stF_at, stF_at]
    by_cases e : j = i
    · subst e; simp [Mps.free]
    · rw [if_neg (twn_ne e)]; simp [Mps.free, e]
  · unfold upd; rw [if_neg (hv i), stF_no m hv, stF_no _ hv]
theorem fxF_put (fx : Nat → Bool) (i : Nat) : upd (fxF fx) (.int .i64 (i : Nat)) (some (.bool true)) = fxF fun j => decide (j = i) || fx j := by
  refine ext_twn (fun j => ?_) fun v hv => ?_
  · unfold upd
    rw [fxF_at, fxF_at]
    by_cases e : j = i
    · subst e; simp
    · rw [if_neg (twn_ne e)]; simp [e]
  · unfold upd; rw [if_neg (hv i), fxF_no fx hv, fxF_no _ hv]
theorem fxF_del (fx : Nat → Bool) (i : Nat) : upd (fxF fx) (.int .i64 (i : Nat)) none = fxF fun j => !decide (j = i) && fx j := by
  refine ext_twn (fun j => ?_) fun v hv => ?_
  · unfold upd
    rw [fxF_at, fxF_at]
    by_cases e : j = i
    · subst e; simp
    · rw [if_neg (twn_ne e)]; simp [e]
  · unfold upd; rw [if_neg (hv i), fxF_no fx hv, fxF_no _ hv]
theorem trF_put (l : List Sea) (s : Sea) : upd (trF l) (seaV s) (some (.bool true)) = trF (s :: l) := by
  refine ext_sea (fun s' => ?_) fun v hv => ?_
  · unfold upd
    rw [trF_at, trF_at]
    by_cases e : s' = s
    · subst e; simp
    · rw [if_neg (sea_ne e)]; simp [e]
  · unfold upd; rw [if_neg (hv s), trF_no l hv, trF_no _ hv]
theorem tkF_nil : (fun _ => none) = tkF Mps.no := ext_sea (fun _ => rfl) fun v hv => (tkF_no _ hv).symm
theorem stF_nil : (fun _ => none) = stF Mps.no := ext_twn (fun i => by rw [stF_at]; rfl) fun v hv => (stF_no _ hv).symm
theorem trF_nil : (fun _ => none) = trF [] := ext_sea (fun _ => rfl) fun v hv => (trF_no _ hv).symm
theorem fxF_nil : (fun _ => none) = fxF fun _ => false := ext_twn (fun i => by rw [fxF_at]; rfl) fun v hv => (fxF_no _ hv).symm
end X
namespace X
open Go Go.RowKit Bs
abbrev keyS (v : Value) : Prop := ∃ l, keyOf Tryz.prog 109 v = some l
def plnC (gb : Nat) (now : Int) (q : SV) (mt ms : Nat) : List Value := [.pointer (some ⟨gb, 0, none⟩), .int .i64 now, .slice q.A q.n q.c, .map (some mt), .map (some ms)]
theorem twnF : KeyF Tryz.prog 3 intV := KeyF.int Tryz.underlying3
set_option maxHeartbeats 8000000 in
theorem free_any {B gp gb mt ms i n n2 : Nat} {now : Int} {q : SV} {m : Mps} {es es2 : List MapEntry} {w : World} (hp : w.heap[gp]? = some (cel 102 (plnC gb now q mt ms))) (h1 : w.heap[mt]? = some (mapE es n)) (h2 : w.heap[ms]? = some (mapE es2 n2))
    (hne : mt ≠ ms) (hB : B ≤ mt ∧ B ≤ ms) (hg : gp ≠ mt ∧ gp ≠ ms) (hm1 : MapIs keyS es n (tkF m)) (hm2 : MapIs intV es2 n2 (stF m)) (hin : Sea.in_ ((m.st i).getD s00)) :
    Calls Tryz.prog 51 #[.pointer (some ⟨gp, 0, none⟩), .int .i64 (i : Nat)] w fun e w' => e = .returned (.tuple #[]) ∧ ∃ es' n' es2' n2', MapIs keyS es' n' (tkF (m.free i)) ∧ MapIs intV es2' n2' (stF (m.free i)) ∧ Sys B w [(mt, mapE es' n'), (ms, mapE es2' n2')] w' := by
  have hlt := (Array.getElem?_eq_some_iff.1 hp).1
  have hc3 : w.cell? ((⟨gp, 0, none⟩ : Addr).add 3) = some (.map (some mt)) := by rw [add_off]; simp [World.cell?, hp, plnC]
  have hc4 : w.cell? ((⟨gp, 0, none⟩ : Addr).add 4) = some (.map (some ms)) := by rw [add_off]; simp [World.cell?, hp, plnC]
  have hn : ∀ (o o' : Obj) (e : Nat × Obj), e ∈ [(mt, o), (ms, o')] → e.1 ≠ gp := fun o o' e he => by
    rcases List.mem_cons.1 he with rfl | he
    · exact fun h => hg.1 h.symm
    · rw [List.mem_singleton.1 he]; exact fun h => hg.2 h.symm
  have hz : ((stF m (.int .i64 (i : Nat))).getD (.agg #[.int .i64 0, .int .i64 0, .int .i64 0])) = seaV ((m.st i).getD s00) := by rw [stF_at]; cases m.st i <;> rfl
  have hk := sea_key hin
  refine enterL Tryz.func51 rfl Tryz.ntmps51 rfl (Sys.start2 hB.1 hB.2 h1 h2 hne) ?_; simp only [frame, Nat.zero_add, Nat.reduceAdd]
  refine XC.seq ?_
  refine XC.drawT mixed rfl rfl (by kernel_rfl) ?_
  repeat (first | (refine M0 ?_; first | refine SL ?_ | refine SB fun _ _ => ?_ | refine Y4 (Ev.load_far tok rfl rfl hlt (fun e he => hn _ _ e he) hc3) ?_ | refine Y4 (Ev.load_far tok rfl rfl hlt (fun e he => hn _ _ e he) hc4) ?_ | refine Y4 (Ev.look1 tok 1 twnF rfl rfl rfl Tryz.underlying100 rfl hm2 ⟨_, rfl⟩ hz) ?_) | (refine M2 ?_; refine SE ?_) | (refine M3 ?_; first | refine SG ?_ | refine SF ?_ | refine YF (Ev.load_far tok rfl rfl hlt (fun e he => hn _ _ e he) hc3) ?_ | refine YF (Ev.load_far tok rfl rfl hlt (fun e he => hn _ _ e he) hc4) ?_ | refine YF (Ev.look1 tok 1 twnF rfl rfl rfl Tryz.underlying100 rfl hm2 ⟨_, rfl⟩ hz) ?_) | (refine M4 ?_; refine SR ?_) | (refine M5 ?_; first | exact M7 | refine YM ?_ | refine YN ?_ ?_))
  refine XL.delM 0 seaF rfl rfl rfl Tryz.underlying99 hm1 hk (fun _ _ => rfl) (fun es' n' hm3 => ?_)
  rw [tkF_free] at hm3
  repeat (first | (refine M0 ?_; first | refine SL ?_ | refine SB fun _ _ => ?_ | refine Y4 (Ev.load_far tok rfl rfl hlt (fun e he => hn _ _ e he) hc4) ?_) | (refine M2 ?_; refine SE ?_) | (refine M3 ?_; first | refine SG ?_ | refine SF ?_ | refine YF (Ev.load_far tok rfl rfl hlt (fun e he => hn _ _ e he) hc4) ?_) | (refine M4 ?_; refine SR ?_) | (refine M5 ?_; first | exact M7 | refine YM ?_ | refine YN ?_ ?_))
  repeat (first | (refine M0 ?_; first | refine SL ?_ | refine SB fun _ _ => ?_ | refine Y4 (Ev.load_far tok rfl rfl hlt (fun e he => hn _ _ e he) hc4) ?_) | (refine M1 ?_; refine SC ?_) | (refine M2 ?_; refine SE ?_))
  refine XL.delM 1 twnF rfl rfl rfl Tryz.underlying100 hm2 ⟨_, rfl⟩ (fun _ _ => rfl) (fun es2' n2' hm4 => ?_)
  rw [stF_free] at hm4
  repeat (first | (refine M0 ?_; first | refine SL ?_ | refine SB fun _ _ => ?_) | (refine M1 ?_; refine SC ?_) | (refine M2 ?_; refine SE ?_))
  refine XE.end0 Tryz.results51 (fun w' S => ?_)
  exact ⟨rfl, es', n', es2', n2', hm3, hm4, S⟩
end X
namespace X
open Go Go.RowKit Bs
theorem places0_any {gp i : Nat} {w : World} :
    Calls Tryz.prog 28 #[.pointer (some ⟨gp, 0, none⟩), .int .i64 (i : Nat)] w fun e w' => ∃ v, e = .returned v ∧ ∃ g2 g3 : Nat, v = .func (.func 49) #[] #[.pointer (some ⟨g2, 0, none⟩), .pointer (some ⟨g3, 0, none⟩)] ∧ Sys w.heap.size w [(g3, cel 3 [.int .i64 (i : Nat)]), (g2, cel 97 [.pointer (some ⟨gp, 0, none⟩)])] w' := by
  refine enter Tryz.func28 rfl Tryz.ntmps28 rfl ?_; simp only [frame, Nat.zero_add, Nat.reduceAdd]
  repeat (first | (refine M0 ?_; first | refine SL ?_ | refine SB fun _ _ => ?_ | refine Y4 (Ev.makeFunc rfl rfl) ?_) | (refine M1 ?_; first | refine SC ?_ | refine SD ?_) | (refine M2 ?_; refine SE ?_) | (refine M3 ?_; first | refine SG ?_ | refine SF ?_ | refine YF (Ev.makeFunc rfl rfl) ?_) | (refine M4 ?_; refine SR ?_) | (refine M5 ?_; first | exact M7 | refine YM ?_ | refine YN ?_ ?_))
  refine XE.retg tok Tryz.results28 rfl (by simp only [and_self, and_true]) (fun w' S => ?_)
  exact ⟨_, rfl, _, _, rfl, S⟩
end X
namespace X
open Go Go.RowKit Bs
structure PlnAt (w : World) (B gp gb mt ms : Nat) (now : Int) (v : ATV) (t : ATk) (q r rT : SV) : Prop where
  blk : w.heap[gp]? = some (cel 102 (plnC gb now rT mt ms))
  brd : BrdAt w (Lt B) gb v t q r
  tsk : AtAt w B v t
  wet : IntsAt w (Lt B) rT (t.wet.map fun i => ((i : Nat) : Int))
  ok : AlOk t
  now_ : 0 ≤ now ∧ now ≤ 200000
  chs : ∀ x, x ∈ t.twn → x.chs.length ≤ 5000000
section
variable {w w0 : World} {B gp gb mt ms : Nat} {now : Int} {v : ATV} {t : ATk} {q r rT : SV} {L : Lo}
theorem PlnAt.lt (h : PlnAt w B gp gb mt ms now v t q r rT) : gp < w.heap.size := (Array.getElem?_eq_some_iff.1 h.blk).1
theorem PlnAt.sys (h : PlnAt w0 B gp gb mt ms now v t q r rT) (S : Sys B w0 L w) (hn : ∀ e, e ∈ L → e.1 ≠ gp) : PlnAt w B gp gb mt ms now v t q r rT :=
  ⟨(S.old gp h.lt hn).trans h.blk, h.brd.keep fun k hk => S.toBelow.block k hk, h.tsk.below S.toBelow, h.wet.below S.toBelow, h.ok, h.now_, h.chs⟩
theorem PlnAt.cell (h : PlnAt w B gp gb mt ms now v t q r rT) {j : Nat} {u : Value} (hj : (plnC gb now rT mt ms)[j]? = some u) : w.cell? ((⟨gp, 0, none⟩ : Addr).add j) = some u := by
  rw [add_off, Nat.zero_add]
  unfold World.cell?
  rw [h.blk]
  simpa using hj
end
end X
namespace Bs
open X
namespace ATk
variable (t : ATk) (now : Int) (i : Nat)
def plF (W k : Nat) : List (Int × Int) := (List.range (W - k)).flatMap fun j => t.tickL i (now + (k : Nat) + (j : Nat))
def tkD (s : Int) (j : Nat) : List (Int × Int) := (((t.tw i).chs.drop j).filter fun c => decide (s ≤ t.latest i c)).map fun c => (c, s)
variable {t now i}
theorem plF_0 (W : Nat) : t.plF now i W 0 = t.places now W i := by
  unfold plF places
  simp
theorem plF_succ {W k : Nat} (hk : k < W) : t.plF now i W k = t.tickL i (now + (k : Nat)) ++ t.plF now i W (k + 1) := by
  unfold plF
  rw [show W - k = (W - (k + 1)) + 1 by omega, List.range_succ_eq_map, List.flatMap_cons, List.flatMap_map]
  congr 1
  · congr 1; omega
  · have e : (fun j : Nat => t.tickL i (now + (k : Nat) + ((Nat.succ j : Nat) : Int))) = fun j : Nat => t.tickL i (now + ((k + 1 : Nat) : Int) + (j : Nat)) := by
      funext j
      congr 1
      omega
    exact congrArg (fun f => (List.range (W - (k + 1))).flatMap f) e
theorem plF_done (W : Nat) : t.plF now i W W = [] := by unfold plF; simp
theorem tkD_0 (s : Int) : t.tkD i s 0 = t.tickL i s := by unfold tkD tickL; rw [List.drop_zero]
theorem tkD_succ {s : Int} {j : Nat} (hj : j < (t.tw i).chs.length) : t.tkD i s j = if s ≤ t.latest i ((t.tw i).chs[j]) then ((t.tw i).chs[j], s) :: t.tkD i s (j + 1) else t.tkD i s (j + 1) := by
  unfold tkD
  rw [List.drop_eq_getElem_cons hj, List.filter_cons]
  by_cases h : s ≤ t.latest i ((t.tw i).chs[j])
  · rw [if_pos (by simpa using h), if_pos h]; rfl
  · rw [if_neg (by simpa using h), if_neg h]
theorem tkD_done (s : Int) : t.tkD i s (t.tw i).chs.length = [] := by unfold tkD; rw [List.drop_length]; rfl
end ATk
end Bs
namespace X
open Go Go.RowKit Bs
def twnQ (v : ATV) (k : Nat) : SV := (v.es[k]?.getD (⟨none, 0, 0⟩, w0n)).1
theorem AtAt.twnE {w : World} {B : Nat} {v : ATV} {t : ATk} (h : AtAt w B v t) {k : Nat} (hk : k < t.twn.length) : ∃ ad : Addr, v.w.A = some ad ∧ ad.block < B ∧ (∀ j u, (twnC (twnQ v k) (t.tw k))[j]? = some u → w.cell? ((ad.add (k * 5)).add j) = some u) ∧ IntsAt w (Lt B) (twnQ v k) (t.tw k).chs := by
  have hl : k < v.es.length := by have := h.tes; rw [← this] at hk; simpa using hk
  obtain ⟨ad, e1, e2⟩ := ListAt.addr (A := v.w.A) (n := v.w.n) (c := v.w.c) h.twn (by decide) (by omega)
  have hek : v.es[k]? = some v.es[k] := List.getElem?_eq_getElem hl
  have eh : t.tw k = v.es[k].2 := by unfold ATk.tw; rw [← h.tes, List.getElem?_map, hek]; rfl
  have eq : twnQ v k = v.es[k].1 := by unfold twnQ; rw [hek]; rfl
  have h1 : ListAt twnK w (Lt B) ⟨some ad, v.w.n, v.w.c⟩ v.es := by rw [← e1]; exact h.twn
  refine ⟨ad, e1, e2, fun j u hj => ?_, ?_⟩
  · rw [eh, eq] at hj; exact h1.elem hek j u hj
  · rw [eh, eq]; exact h.twn.ins v.es[k] (List.getElem_mem hl) (hInts v.es[k].1 v.es[k].2.chs) (List.mem_singleton.2 rfl)
end X
namespace X
open Go Go.RowKit Bs
set_option maxHeartbeats 16000000 in
theorem places_any {σ : Type} (Lf : σ → Lo) (Wf : σ → World) (J : List (Int × Int) → σ → Prop) (Je : σ → Prop) {B l gp g2 g3 gb i : Nat} {now : Int} {v : ATV} {t : ATk} {q r rT : SV} {W1 : World} (s0 : σ) (S0 : Sys B (Wf s0) (Lf s0) W1) (h0 : J (t.places now t.wet.length i) s0) (hi : i < t.twn.length)
    (hr : ∀ x s, J x s → (∃ mt ms, PlnAt (Wf s) B gp gb mt ms now v t q r rT) ∧ (Wf s).heap[g2]? = some (cel 97 [.pointer (some ⟨gp, 0, none⟩)]) ∧ (Wf s).heap[g3]? = some (cel 3 [.int .i64 (i : Nat)]))
    (hn : ∀ x s, J x s → ∀ e, e ∈ Lf s → e.1 ≠ gp ∧ e.1 ≠ g2 ∧ e.1 ≠ g3)
    (hy : ∀ p x s, J (p :: x) s → ∀ w1, Sys B (Wf s) (Lf s) w1 → ∃ fn tmps assign body, (Instr.yield l (#[seaV ⟨p.1, p.2, 0⟩] : Array Value)).run Tryz.prog w1 = .ok (.round l fn tmps assign body) w1 ∧
        RoundIn Fence.wide 0 Tryz.prog l fn tmps assign body w1 fun e w' => ∃ v, e = .returned v ∧ ∃ b : Bool, v = .bool b ∧ ∃ s', (if b then J x s' else Je s') ∧ Sys B (Wf s') (Lf s') w') :
    Calls Tryz.prog 49 #[.func (.yield l) #[] #[], .pointer (some ⟨g2, 0, none⟩), .pointer (some ⟨g3, 0, none⟩)] W1 fun e w' => ∃ v, e = .returned v ∧ ∃ s, (J [] s ∨ Je s) ∧ Sys B (Wf s) (Lf s) w' := by
  obtain ⟨⟨mt0, ms0, hP0⟩, hg20, hg30⟩ := hr _ s0 h0
  have hO := hP0.ok
  have hnow := hP0.now_
  have hc0 : (Wf s0).cell? ⟨g2, 0, none⟩ = some (.pointer (some ⟨gp, 0, none⟩)) := by simp [World.cell?, hg20]
  have hl0 : g2 < (Wf s0).heap.size := (Array.getElem?_eq_some_iff.1 hg20).1
  have hcW : W1.cell? ⟨g2, 0, none⟩ = some (.pointer (some ⟨gp, 0, none⟩)) := (S0.farCell (a := ⟨g2, 0, none⟩) hl0 (fun e he => (hn _ s0 h0 e he).2.1)).trans hc0
  have hlW : g2 < W1.heap.size := Nat.lt_of_lt_of_le hl0 S0.size
  have hP1 := hP0.sys S0 (fun e he => (hn _ s0 h0 e he).1)
  have hcn := hP1.cell (j := 1) rfl
  refine enterL Tryz.func49 rfl Tryz.ntmps49 rfl (S0.rebase (List.Sublist.refl _)) ?_; simp only [frame, Nat.zero_add, Nat.reduceAdd]
  repeat (first | (refine M0 ?_; first | refine SL ?_ | refine SB fun _ _ => ?_ | refine Y4 (Ev.load_far tok rfl rfl hlW (fun e he => (hn _ s0 h0 e he).2.1) hcW) ?_ | refine Y4 (Ev.load_far tok rfl rfl hP1.lt (fun e he => (hn _ s0 h0 e he).1) hcn) ?_) | (refine M1 ?_; refine SC ?_) | (refine M2 ?_; refine SE ?_))
  have hO8 := hO.n8
  have hW8 : t.wet.length ≤ t.twn.length := by
    unfold ATk.wet
    exact Nat.le_trans (List.length_filter_le _ _) (by simp)
  refine XC.loopk [0, 1, 2] rfl (fun z : Nat × Int × σ => [(4, .int .i64 z.2.1)]) (fun z => Lf z.2.2) (fun z => Wf z.2.2) (fun z => z.1 ≤ t.wet.length ∧ z.2.1 = now + (z.1 : Nat) ∧ J (t.plF now i t.wet.length z.1) z.2.2) (fun z => t.wet.length - z.1) (0, now, s0) ⟨Nat.zero_le _, by simp, by rw [ATk.plF_0]; exact h0⟩ ZZSUB (fun _ h => S0.trans h (fun _ h => h)) ?_
  rintro ⟨k, sent, s⟩ ⟨hk, hs, hJ⟩
  simp only at hk hs hJ
  clear hP1 hcn hcW hlW hc0 hl0
  obtain ⟨⟨mt1, ms1, hP⟩, hg2, hg3⟩ := hr _ s hJ
  have hc2 : (Wf s).cell? ⟨g2, 0, none⟩ = some (.pointer (some ⟨gp, 0, none⟩)) := by simp [World.cell?, hg2]
  have hl2 : g2 < (Wf s).heap.size := (Array.getElem?_eq_some_iff.1 hg2).1
  have hc3 : (Wf s).cell? ⟨g3, 0, none⟩ = some (.int .i64 (i : Nat)) := by simp [World.cell?, hg3]
  have hl3 : g3 < (Wf s).heap.size := (Array.getElem?_eq_some_iff.1 hg3).1
  have hp1 := hP.cell (j := 1) rfl
  have hp2 := hP.cell (j := 2) rfl
  have hwn : rT.n = t.wet.length := by have := hP.wet.len; rw [List.length_map] at this; exact this
  rw [hwn] at hp2
  have hn2 := fun (e : Nat × Obj) (he : e ∈ Lf s) => (hn _ s hJ e he).2.1
  have hnp := fun (e : Nat × Obj) (he : e ∈ Lf s) => (hn _ s hJ e he).1
  have hn3 := fun (e : Nat × Obj) (he : e ∈ Lf s) => (hn _ s hJ e he).2.2
  dsimp only [List.cons_append, List.nil_append]
  repeat (first | (refine M0 ?_; first | refine SL ?_ | refine SB fun _ _ => ?_) | (refine M1 ?_; refine SC ?_) | (refine M2 ?_; refine SE ?_))
  refine XC.drawR _ [0, 1, 2, 3, 4, 5, 6, 7, 8, 9, 10] [11] mixed (fun _ h => h) rfl (by kernel_rfl) ?_
  repeat (any_goals (first | (refine M0 ?_; first | refine SL ?_ | refine SB fun _ _ => ?_ | refine Y4 (Ev.load_far tok rfl rfl hl2 hn2 hc2) ?_ | refine Y4 (Ev.load_far tok rfl rfl hP.lt hnp hp1) ?_ | refine Y4 (Ev.load_far tok rfl rfl hP.lt hnp hp2) ?_) | (refine M1 ?_; refine SC ?_) | (refine M2 ?_; first | refine SE ?_ | ((with_reducible refine atHeld ?_); refine z7 ?_)) | (refine M3 ?_; first | refine SG ?_ | refine SF ?_ | refine YF (Ev.load_far tok rfl rfl hl2 hn2 hc2) ?_ | refine YF (Ev.load_far tok rfl rfl hP.lt hnp hp1) ?_ | refine YF (Ev.load_far tok rfl rfl hP.lt hnp hp2) ?_) | (refine M4 ?_; refine SRV ?_) | (refine M5 ?_; first | exact M7 | refine YM ?_ | refine YN ?_ ?_)))
  refine XC.cond _ rfl (fun h2 => ?_) (fun h2 => ?_)
  rotate_left
  · have hkW : k = t.wet.length := by have := of_decide_eq_false h2; omega
    subst hkW
    rw [ATk.plF_done] at hJ
    repeat (first | (refine M0 ?_; first | refine SL ?_ | refine SB fun _ _ => ?_) | (refine M1 ?_; refine SC ?_) | (refine M2 ?_; refine SE ?_))
    refine XE.end0 Tryz.results49 (fun w' S => ?_)
    exact ⟨_, rfl, s, .inl hJ, S⟩
  have hkW : k < t.wet.length := by have := of_decide_eq_true h2; omega
  clear h2
  have hp0 := hP.cell (j := 0) rfl
  have hok : gb < B := hP.brd.ok_
  have hb2 : (Wf s).cell? (((⟨gb, 0, none⟩ : Addr).add 0).add 2) = some (.slice v.w.A v.w.n v.w.c) := by rw [add_off, add_off]; exact hP.brd.cell (j := 2) rfl
  obtain ⟨adw, e3, hltw, hcw, hqw⟩ := hP.tsk.twnE hi
  obtain ⟨qw, hQ⟩ : ∃ x, x = twnQ v i := ⟨_, rfl⟩
  rw [← hQ] at hcw hqw
  have hnw := hP.tsk.nw
  rw [e3, hnw] at hb2
  have hcw4 := hcw 4 (.slice qw.A qw.n qw.c) rfl
  have hqn := hqw.len
  obtain ⟨Aq, nq, cq⟩ := qw
  simp only at hqn
  subst hqn
  simp only at hcw4
  repeat (first | (refine M0 ?_; first | refine SL ?_ | refine SB fun _ _ => ?_) | (refine M1 ?_; refine SC ?_) | (refine M2 ?_; refine SE ?_))
  refine XC.drawR _ [0, 1, 2, 3, 4, 5, 6, 7, 8, 9, 10, 11, 12] [13] mixed (fun _ h => h) rfl (by kernel_rfl) ?_
  repeat (any_goals (first | (refine M0 ?_; first | refine SL ?_ | refine SB fun _ _ => ?_ | refine Y4 (Ev.load_far tok rfl rfl hl2 hn2 hc2) ?_ | refine Y4 (Ev.load_far tok rfl rfl hP.lt hnp hp0) ?_ | refine Y4 (Ev.load_old tok rfl rfl (add_lt2 hok) hb2) ?_ | refine Y4 (Ev.load_far tok rfl rfl hl3 hn3 hc3) ?_ | refine Y4 (Ev.load_old tok rfl rfl (add_lt2 hltw) hcw4) ?_) | (refine M1 ?_; refine SC ?_) | (refine M2 ?_; first | refine SE ?_ | ((with_reducible refine atHeld ?_); refine z7 ?_)) | (refine M3 ?_; first | refine SG ?_ | refine SF ?_ | refine YF (Ev.load_far tok rfl rfl hl2 hn2 hc2) ?_ | refine YF (Ev.load_far tok rfl rfl hP.lt hnp hp0) ?_ | refine YF (Ev.load_old tok rfl rfl (add_lt2 hok) hb2) ?_ | refine YF (Ev.load_far tok rfl rfl hl3 hn3 hc3) ?_ | refine YF (Ev.load_old tok rfl rfl (add_lt2 hltw) hcw4) ?_) | (refine M4 ?_; refine SRV ?_) | (refine M5 ?_; first | exact M7 | refine YM ?_ | refine YN ?_ ?_)))
  have hJ2 : J (t.tkD i sent 0 ++ t.plF now i t.wet.length (k + 1)) s := by rw [ATk.tkD_0, hs, ← ATk.plF_succ hkW]; exact hJ
  refine XC.loopk [0, 1, 2, 4, 36, 37] rfl (fun z : Nat × σ => [(38, .int .i64 (z.1 : Nat))]) (fun z => Lf z.2) (fun z => Wf z.2) (fun z => z.1 ≤ (t.tw i).chs.length ∧ J (t.tkD i sent z.1 ++ t.plF now i t.wet.length (k + 1)) z.2) (fun z => (t.tw i).chs.length - z.1) (0, s) ⟨Nat.zero_le _, hJ2⟩ ZZSUB (fun _ h => h) ?_
  clear hJ2 hc2 hl2 hc3 hl3 hp1 hp2 hp0 hn2 hnp hn3 hb2 hcw4 hcw
  rintro ⟨j, s2⟩ ⟨hj, hJ2⟩
  simp only at hj hJ2
  obtain ⟨⟨mt2, ms2, hP2⟩, hg22, hg32⟩ := hr _ s2 hJ2
  have hc2 : (Wf s2).cell? ⟨g2, 0, none⟩ = some (.pointer (some ⟨gp, 0, none⟩)) := by simp [World.cell?, hg22]
  have hl2 : g2 < (Wf s2).heap.size := (Array.getElem?_eq_some_iff.1 hg22).1
  have hc3 : (Wf s2).cell? ⟨g3, 0, none⟩ = some (.int .i64 (i : Nat)) := by simp [World.cell?, hg32]
  have hl3 : g3 < (Wf s2).heap.size := (Array.getElem?_eq_some_iff.1 hg32).1
  have hp0 := hP2.cell (j := 0) rfl
  have hn2 := fun (e : Nat × Obj) (he : e ∈ Lf s2) => (hn _ s2 hJ2 e he).2.1
  have hnp := fun (e : Nat × Obj) (he : e ∈ Lf s2) => (hn _ s2 hJ2 e he).1
  have hn3 := fun (e : Nat × Obj) (he : e ∈ Lf s2) => (hn _ s2 hJ2 e he).2.2
  obtain ⟨_, _, _, _, hqw2⟩ := hP2.tsk.twnE hi
  rw [← hQ] at hqw2
  have hcl := hP.chs (t.tw i) (by unfold ATk.tw; rw [List.getElem?_eq_getElem hi]; exact List.getElem_mem hi)
  dsimp only [List.cons_append, List.nil_append]
  repeat (first | (refine M0 ?_; first | refine SL ?_ | refine SB fun _ _ => ?_) | (refine M1 ?_; refine SC ?_) | (refine M2 ?_; refine SE ?_))
  refine XC.cond _ rfl (fun h2 => ?_) (fun h2 => ?_)
  rotate_left
  · have hjn : j = (t.tw i).chs.length := by have := of_decide_eq_false h2; omega
    subst hjn
    rw [ATk.tkD_done, List.nil_append] at hJ2
    repeat (first | (refine M0 ?_; first | refine SL ?_ | refine SB fun _ _ => ?_) | (refine M1 ?_; refine SC ?_) | (refine M2 ?_; refine SE ?_))
    exact XE.round (s := (k, sent, s)) (k + 1, sent + 1, s2) ⟨hkW, by simp only; omega, hJ2⟩ (by simp only; omega) ZZSUB (fun _ h => h)
  have hjn : j < (t.tw i).chs.length := by have := of_decide_eq_true h2; omega
  clear h2
  obtain ⟨adq, e4, hltq, hcq⟩ := hqw2.at_ (by omega)
  have e4' : Aq = some adq := e4
  subst e4'
  have hcj := hcq j hjn
  repeat (first | (refine M0 ?_; first | refine SL ?_ | refine SB fun _ _ => ?_ | refine Y4 (Ev.load_old tok rfl rfl (add_lt hltq) hcj) ?_) | (refine M1 ?_; refine SC ?_) | (refine M2 ?_; refine SE ?_))
  have hcI : at0 (t.tw i).chs j = (t.tw i).chs[j] := by simp [at0, hjn]
  obtain ⟨hc0, hc1⟩ := hO.tchs i hi _ (List.getElem_mem hjn)
  obtain ⟨cn, hcn⟩ : ∃ cn : Nat, (t.tw i).chs[j] = (cn : Int) := ⟨((t.tw i).chs[j]).toNat, (Int.toNat_of_nonneg hc0).symm⟩
  have hcl4 : cn < t.cha.length := by omega
  have hsc : t.tkD i sent j = if sent ≤ t.latest i (cn : Nat) then ((cn : Int), sent) :: t.tkD i sent (j + 1) else t.tkD i sent (j + 1) := by rw [ATk.tkD_succ hjn, hcn]
  rw [hcI, hcn]
  rw [hsc] at hJ2
  have hlat := fun (w5 : World) (S5 : Sys B (Wf s2) (Lf s2) w5) => latest_any (i := i) (c := cn) (hP2.brd.arg S5) ((hP2.tsk.below S5.toBelow).more (Nat.le_trans S5.base S5.size)) hO hi hcl4
  refine XC.drawY3 1 _ (Lf s2) [0, 1, 2, 3, 4, 5, 6] [7, 8, 9, 10, 11, 12, 13] mixed (fun _ h => h) rfl rfl rfl rfl (by kernel_rfl) (by kernel_rfl) (by kernel_rfl) rfl rfl (by kernel_rfl) ?_
  repeat (any_goals (first | (refine M0 ?_; first | refine SL ?_ | refine SB fun _ _ => ?_ | refine Y4 (Ev.load_far tok rfl rfl hl2 hn2 hc2) ?_ | refine Y4 (Ev.load_far tok rfl rfl hP2.lt hnp hp0) ?_ | refine Y4 (Ev.load_far tok rfl rfl hl3 hn3 hc3) ?_ | refine Y4 (Ev.call (f := 50) (ck rfl) rfl (fun w5 S5 => hlat w5 S5)) ?_) | (refine M1 ?_; refine SC ?_) | (refine M2 ?_; refine SE ?_) | (refine M3 ?_; first | refine SG ?_ | refine SF ?_ | refine YF (Ev.load_far tok rfl rfl hl2 hn2 hc2) ?_ | refine YF (Ev.load_far tok rfl rfl hP2.lt hnp hp0) ?_ | refine YF (Ev.load_far tok rfl rfl hl3 hn3 hc3) ?_ | refine YF (Ev.call (f := 50) (ck rfl) rfl (fun w5 S5 => hlat w5 S5)) ?_) | (refine M4 ?_; refine SRV ?_) | (refine M5 ?_; first | exact M7 | refine YM ?_ | refine YN ?_ ?_)))
  by_cases hle : sent ≤ t.latest i (cn : Nat)
  · rw [if_pos hle] at hJ2
    rw [show decide (sent ≤ t.latest i (cn : Nat)) = true from decide_eq_true hle]
    repeat (first | (refine M0 ?_; first | refine SL ?_ | refine SB fun _ _ => ?_) | (refine M2 ?_; refine SE ?_) | (refine M3 ?_; first | refine SG ?_ | refine SF ?_) | (refine M4 ?_; refine SRV ?_) | (refine M5 ?_; first | exact M7 | refine YM ?_ | refine YN ?_ ?_))
    refine XE.nextI ?_
    refine XI.guard_y rfl ?_
    refine XI.yield (vs := [seaV ⟨(cn : Int), sent, 0⟩]) rfl rfl rfl (fun _ v w' => ∃ b : Bool, v = .bool b ∧ ∃ s', (if b then J (t.tkD i sent (j + 1) ++ t.plF now i t.wet.length (k + 1)) s' else Je s') ∧ Sys B (Wf s') (Lf s') w') (fun w4 S4 => hy ⟨(cn : Int), sent⟩ _ s2 hJ2 w4 S4) (fun w4 v5 w5 S4 hR => ?_)
    obtain ⟨b, rfl, s', hJ', S5⟩ := hR
    refine ⟨_, _, S5, ?_⟩
    cases b with
    | false =>
      simp only [Bool.false_eq_true, if_false] at hJ'
      repeat (first | (refine M0 ?_; first | refine SL ?_ | refine SB fun _ _ => ?_) | (refine XI.id ?_; first | refine XI.done ?_ | refine XI.one1 rfl ?_) | (refine XR'.id ?_; first | refine XR'.seq ?_ | refine XR'.region ?_ | refine XR'.block ?_ | refine XR'.skip ?_ | refine XR'.ret ?_ | refine XR'.cond_t rfl ?_ | refine XR'.cond_f rfl ?_ | refine XR'.exit ?_) | (refine M1 ?_; first | refine SC ?_ | refine SD ?_) | (refine M2 ?_; first | refine XE.nextI ?_ | refine XE.nextR ?_ | refine SE ?_))
      refine XE.retg tok Tryz.results49 rfl trivial (fun w' S => ?_)
      exact ⟨_, rfl, s', .inr hJ', S⟩
    | true =>
      simp only [if_true] at hJ'
      repeat (first | (refine M0 ?_; first | refine SL ?_ | refine SB fun _ _ => ?_) | (refine XI.id ?_; first | refine XI.done ?_ | refine XI.one1 rfl ?_) | (refine XR'.id ?_; first | refine XR'.seq ?_ | refine XR'.region ?_ | refine XR'.block ?_ | refine XR'.skip ?_ | refine XR'.ret ?_ | refine XR'.cond_t rfl ?_ | refine XR'.cond_f rfl ?_ | refine XR'.exit ?_) | (refine M1 ?_; first | refine SC ?_ | refine SD ?_) | (refine M2 ?_; first | refine XE.nextI ?_ | refine XE.nextR ?_ | refine SE ?_))
      exact XE.round (s := (j, s2)) (j + 1, s') ⟨hjn, hJ'⟩ (by simp only; omega) ZZSUB (fun _ h => h)
  · rw [if_neg hle] at hJ2
    rw [show decide (sent ≤ t.latest i (cn : Nat)) = false from decide_eq_false hle]
    repeat (first | (refine M0 ?_; first | refine SL ?_ | refine SB fun _ _ => ?_) | (refine M2 ?_; refine SE ?_) | (refine M3 ?_; first | refine SG ?_ | refine SF ?_) | (refine M4 ?_; refine SRV ?_) | (refine M5 ?_; first | exact M7 | refine YM ?_ | refine YN ?_ ?_))
    refine XE.nextI ?_
    refine XI.guard_n rfl ?_ rfl
    repeat (first | (refine M0 ?_; first | refine SL ?_ | refine SB fun _ _ => ?_) | (refine XI.id ?_; first | refine XI.done ?_ | refine XI.one1 rfl ?_) | (refine XR'.id ?_; first | refine XR'.seq ?_ | refine XR'.region ?_ | refine XR'.block ?_ | refine XR'.skip ?_ | refine XR'.ret ?_ | refine XR'.cond_t rfl ?_ | refine XR'.cond_f rfl ?_ | refine XR'.exit ?_) | (refine M1 ?_; first | refine SC ?_ | refine SD ?_) | (refine M2 ?_; first | refine XE.nextI ?_ | refine XE.nextR ?_ | refine SE ?_))
    exact XE.round (s := (j, s2)) (j + 1, s2) ⟨hjn, hJ2⟩ (by simp only; omega) ZZSUB (fun _ h => h)
end X
namespace X
open Go Go.RowKit Bs
structure InM (l : List Nat) (m : Mps) : Prop where
  tk : ∀ s o, m.tk s = some o → o ∈ l
  st : ∀ i s, m.st i = some s → Sea.in_ s
section
variable {l : List Nat} {m : Mps} {fx : Nat → Bool} {S : Nat → List Sea}
theorem InM.no : InM l Mps.no := ⟨fun _ _ h => (by cases h), fun _ _ h => (by cases h)⟩
theorem InM.put {s : Sea} {i : Nat} (h : InM l m) (hi : i ∈ l) (hs : Sea.in_ s) : InM l (m.put s i) :=
  ⟨fun x o e => by
    simp only [Mps.put] at e
    split at e
    · cases e; exact hi
    · exact h.tk x o e, fun j x e => by
    simp only [Mps.put] at e
    split at e
    · cases e; exact hs
    · exact h.st j x e⟩
theorem InM.free {i : Nat} (h : InM l m) : InM l (m.free i) :=
  ⟨fun x o e => by
    simp only [Mps.free] at e
    split at e
    · cases e
    · exact h.tk x o e, fun j x e => by
    simp only [Mps.free] at e
    split at e
    · cases e
    · exact h.st j x e⟩
theorem s00_in : Sea.in_ s00 := by refine ⟨?_, ?_, ?_⟩ <;> unfold i64in <;> decide
theorem InM.get {i : Nat} (h : InM l m) : Sea.in_ ((m.st i).getD s00) := by
  cases e : m.st i with
  | none => exact s00_in
  | some s => exact h.st i s e
theorem goS_in {mv : Nat → List Sea × Mps → Bool × List Sea × Mps} {i : Nat} (hi : i ∈ l) (hmv : ∀ o z, o ∈ l → InM l z.2 → InM l (mv o z).2.2 ∧ ∀ s, s ∈ z.1 → s ∈ (mv o z).2.1) :
    ∀ (q : List Sea) (z : List Sea × Mps), (∀ s, s ∈ q → Sea.in_ s) → InM l z.2 → InM l (goS fx mv i q z).2.2 ∧ ∀ s, s ∈ z.1 → s ∈ (goS fx mv i q z).2.1 := by
  intro q
  induction q with
  | nil => exact fun z _ h => ⟨h, fun _ hs => hs⟩
  | cons s r ih =>
    intro z hq hz
    have hr := fun x hx => hq x (.tail _ hx)
    have hs := hq s (.head _)
    unfold goS
    split
    · exact ih z hr hz
    · split
      · exact ⟨hz.put hi hs, fun x hx => .tail _ hx⟩
      · rename_i o ho
        split
        · obtain ⟨h1, h2⟩ := ih (s :: z.1, z.2) hr hz
          exact ⟨h1, fun x hx => h2 x (.tail _ hx)⟩
        · obtain ⟨h1, h2⟩ := hmv o (s :: z.1, z.2) (hz.tk s o ho) hz
          split
          · exact ⟨h1.put hi hs, fun x hx => h2 x (.tail _ hx)⟩
          · obtain ⟨h3, h4⟩ := ih (mv o (s :: z.1, z.2)).2 hr h1
            exact ⟨h3, fun x hx => h4 x (h2 x (.tail _ hx))⟩
theorem move_in (hS : ∀ i, i ∈ l → ∀ s, s ∈ S i → Sea.in_ s) : ∀ (f i : Nat) (z : List Sea × Mps), i ∈ l → InM l z.2 → InM l (Bs.move fx S f i z).2.2 ∧ ∀ s, s ∈ z.1 → s ∈ (Bs.move fx S f i z).2.1 := by
  intro f
  induction f with
  | zero => exact fun i z _ h => ⟨h, fun _ hs => hs⟩
  | succ f ih => exact fun i z hi hz => goS_in hi (fun o z ho hz => ih o z ho hz) (S i) z (hS i hi) hz
end
section
variable {fx : Nat → Bool} {mv : Nat → List Sea × Mps → Bool × List Sea × Mps} {i o : Nat} {s : Sea} {q : List Sea} {z : List Sea × Mps}
theorem goS_1 (h : z.1.contains s = true) : goS fx mv i (s :: q) z = goS fx mv i q z := by rw [goS]; simp only [h, if_true]
theorem goS_2 (h : z.1.contains s = false) (h2 : z.2.tk s = none) : goS fx mv i (s :: q) z = (true, s :: z.1, z.2.put s i) := by rw [goS]; simp only [h, Bool.false_eq_true, if_false, h2]
theorem goS_3 (h : z.1.contains s = false) (h2 : z.2.tk s = some o) (h3 : fx o = true) : goS fx mv i (s :: q) z = goS fx mv i q (s :: z.1, z.2) := by rw [goS]; simp only [h, Bool.false_eq_true, if_false, h2, h3, if_true]
theorem goS_4 (h : z.1.contains s = false) (h2 : z.2.tk s = some o) (h3 : fx o = false) (h4 : (mv o (s :: z.1, z.2)).1 = true) : goS fx mv i (s :: q) z = (true, (mv o (s :: z.1, z.2)).2.1, (mv o (s :: z.1, z.2)).2.2.put s i) := by rw [goS]; simp only [h, Bool.false_eq_true, if_false, h2, h3, h4, if_true]
theorem goS_5 (h : z.1.contains s = false) (h2 : z.2.tk s = some o) (h3 : fx o = false) (h4 : (mv o (s :: z.1, z.2)).1 = false) : goS fx mv i (s :: q) z = goS fx mv i q (mv o (s :: z.1, z.2)).2 := by rw [goS]; simp only [h, Bool.false_eq_true, if_false, h2, h3, h4]
end
theorem upd_upd {f : Value → Option Value} {k : Value} {a b : Option Value} : upd (upd f k a) k b = upd f k b := by
  funext x
  unfold upd
  split <;> rfl
structure Kp3 (ks : List Nat) (w W : World) : Prop where
  os : W.os = w.os
  tape : W.tape = w.tape
  output : W.output = w.output
  size : w.heap.size ≤ W.heap.size
  old : ∀ j, j < w.heap.size → j ∉ ks → W.heap[j]? = w.heap[j]?
section
variable {ks ks' : List Nat} {w W W' w' : World} {B : Nat} {L : Lo}
theorem Kp3.refl : Kp3 ks w w := ⟨rfl, rfl, rfl, Nat.le_refl _, fun _ _ _ => rfl⟩
theorem Kp3.sys (h : Kp3 ks w W) (S : Sys B W L w') (hL : ∀ e, e ∈ L → e.1 ∈ ks ∨ w.heap.size ≤ e.1) : Kp3 ks w w' :=
  ⟨S.os.trans h.os, S.tape.trans h.tape, S.output.trans h.output, Nat.le_trans h.size S.size, fun j hj hn => by
    rw [S.old j (Nat.lt_of_lt_of_le hj h.size) fun e he e1 => by
      rcases hL e he with h1 | h1
      · exact hn (e1 ▸ h1)
      · omega]
    exact h.old j hj hn⟩
theorem Kp3.sysC (h : Kp3 ks w W) (S : Sys B W L w') (hL : ∀ e, e ∈ L → e.1 ∈ ks ∨ w.heap.size ≤ e.1 ∨ w.heap[e.1]? = some e.2) : Kp3 ks w w' :=
  ⟨S.os.trans h.os, S.tape.trans h.tape, S.output.trans h.output, Nat.le_trans h.size S.size, fun j hj hn => by
    by_cases hm : j ∈ L.map (·.1)
    · obtain ⟨e, he, rfl⟩ := List.mem_map.1 hm
      rcases hL e he with h1 | h1 | h1
      · exact absurd h1 hn
      · omega
      · rw [h1]; exact (S.own e he).2
    · rw [S.old j (Nat.lt_of_lt_of_le hj h.size) fun e he e1 => hm (List.mem_map.2 ⟨e, he, e1⟩)]
      exact h.old j hj hn⟩
theorem Kp3.trans2 (h : Kp3 ks w W) (h2 : Kp3 ks' W W') (hs : ∀ k, k ∈ ks' → k ∈ ks ∨ w.heap.size ≤ k) : Kp3 ks w W' :=
  ⟨h2.os.trans h.os, h2.tape.trans h.tape, h2.output.trans h.output, Nat.le_trans h.size h2.size, fun j hj hn => (h2.old j (Nat.lt_of_lt_of_le hj h.size) fun hk => by
    rcases hs j hk with h3 | h3
    · exact hn h3
    · omega).trans (h.old j hj hn)⟩
theorem Kp3.trans (h : Kp3 ks w W) (h2 : Kp3 ks W W') : Kp3 ks w W' :=
  ⟨h2.os.trans h.os, h2.tape.trans h.tape, h2.output.trans h.output, Nat.le_trans h.size h2.size, fun j hj hn => (h2.old j (Nat.lt_of_lt_of_le hj h.size) hn).trans (h.old j hj hn)⟩
theorem Kp3.more (h : Kp3 ks w W) (hs : ∀ k, k ∈ ks → k ∈ ks') : Kp3 ks' w W := ⟨h.os, h.tape, h.output, h.size, fun j hj hn => h.old j hj fun hk => hn (hs j hk)⟩
theorem Kp3.below (h : Kp3 ks w W) (hB : B ≤ w.heap.size) (hk : ∀ k, k ∈ ks → B ≤ k) : Below B w W :=
  ⟨h.os, h.tape, h.output, h.size, fun k hk2 => h.old k (Nat.lt_of_lt_of_le hk2 hB) fun h2 => by have := hk k h2; omega⟩
theorem Kp3.end_ (h : Kp3 ks w W) (hB : B ≤ w.heap.size) (ho : ∀ e, e ∈ L → B ≤ e.1 ∧ W.heap[e.1]? = some e.2) (hn : (L.map (·.1)).Nodup) (hk : ∀ k, k < w.heap.size → k ∈ ks → k ∈ L.map (·.1)) : Sys B w L W :=
  ⟨h.os, h.tape, h.output, h.size, hB, fun k hk2 hn2 => h.old k hk2 fun h3 => by
    obtain ⟨e, he, e1⟩ := List.mem_map.1 (hk k hk2 h3)
    exact hn2 e he e1, ho, hn⟩
theorem key_inj : ∀ {L : Lo}, (L.map (·.1)).Nodup → ∀ {e e' : Nat × Obj}, e ∈ L → e' ∈ L → e.1 = e'.1 → e = e' := by
  intro L
  induction L with
  | nil => intro _ e e' h; cases h
  | cons x r ih =>
    intro hn e e' h h' he
    simp only [List.map_cons, List.nodup_cons] at hn
    rcases List.mem_cons.1 h with h1 | h1
    · rcases List.mem_cons.1 h' with h2 | h2
      · rw [h1, h2]
      · exact absurd (show x.1 ∈ r.map (·.1) from List.mem_map.2 ⟨e', h2, by rw [← he, h1]⟩) hn.1
    · rcases List.mem_cons.1 h' with h2 | h2
      · exact absurd (show x.1 ∈ r.map (·.1) from List.mem_map.2 ⟨e, h1, by rw [he, h2]⟩) hn.1
      · exact ih hn.2 h1 h2 he
theorem Sys.chg3 {L3 L4 L5 : Lo} {w0 : World} (S : Sys B w0 L w) (i j k : Nat) {a b c : Nat} {o1 o2 o3 p1 p2 p3 : Obj} (h1 : L[i]? = some (a, o1)) (h2 : L[j]? = some (b, o2)) (h3 : L[k]? = some (c, o3)) (e1 : setN L i (a, p1) = some L3) (e2 : setN L3 j (b, p2) = some L4) (e3 : setN L4 k (c, p3) = some L5)
    (S' : Sys B w [(a, p1), (b, p2), (c, p3)] w') : Sys B w' L5 w' := by
  obtain ⟨rfl, hl1⟩ := setN_spec _ _ _ _ e1
  obtain ⟨rfl, hl2⟩ := setN_spec _ _ _ _ e2
  obtain ⟨rfl, hl3⟩ := setN_spec _ _ _ _ e3
  have hab := S'.nd
  simp only [List.map_cons, List.map_nil, List.nodup_cons, List.mem_cons, List.not_mem_nil, or_false, not_or] at hab
  have hij : i ≠ j := fun e => by subst e; rw [h1] at h2; injection h2 with h2; exact hab.1.1 (congrArg Prod.fst h2)
  have hik : i ≠ k := fun e => by subst e; rw [h1] at h3; injection h3 with h3; exact hab.1.2 (congrArg Prod.fst h3)
  have hjk : j ≠ k := fun e => by subst e; rw [h2] at h3; injection h3 with h3; exact hab.2.1 (congrArg Prod.fst h3)
  have hmap : (((L.set i (a, p1)).set j (b, p2)).set k (c, p3)).map (·.1) = L.map (·.1) := by
    apply List.ext_getElem?
    intro n
    simp only [List.getElem?_map, List.getElem?_set, List.length_set]
    by_cases n1 : k = n
    · subst n1; rw [h3]; simp [(List.getElem?_eq_some_iff.1 h3).1]
    · by_cases n2 : j = n
      · subst n2; rw [h2]; simp [n1, (List.getElem?_eq_some_iff.1 h2).1]
      · by_cases n3 : i = n
        · subst n3; rw [h1]; simp [n1, n2, (List.getElem?_eq_some_iff.1 h1).1]
        · simp [n1, n2, n3]
  refine Sys.start (Nat.le_trans S'.base S'.size) (fun e he => ?_) (by rw [hmap]; exact S.nd)
  have hn : ((((L.set i (a, p1)).set j (b, p2)).set k (c, p3)).map (·.1)).Nodup := by rw [hmap]; exact S.nd
  have m3 : (c, p3) ∈ (((L.set i (a, p1)).set j (b, p2)).set k (c, p3)) := List.mem_of_getElem? (i := k) (by rw [List.getElem?_set_self (by simpa using (List.getElem?_eq_some_iff.1 h3).1)])
  have m2 : (b, p2) ∈ (((L.set i (a, p1)).set j (b, p2)).set k (c, p3)) := List.mem_of_getElem? (i := j) (by rw [List.getElem?_set_ne (Ne.symm hjk), List.getElem?_set_self (by simpa using (List.getElem?_eq_some_iff.1 h2).1)])
  have m1 : (a, p1) ∈ (((L.set i (a, p1)).set j (b, p2)).set k (c, p3)) := List.mem_of_getElem? (i := i) (by rw [List.getElem?_set_ne (Ne.symm hik), List.getElem?_set_ne (Ne.symm hij), List.getElem?_set_self (List.getElem?_eq_some_iff.1 h1).1])
  by_cases ka : e.1 = a
  · obtain rfl := key_inj hn he m1 ka; exact S'.own _ (.head _)
  by_cases kb : e.1 = b
  · obtain rfl := key_inj hn he m2 kb; exact S'.own _ (.tail _ (.head _))
  by_cases kc : e.1 = c
  · obtain rfl := key_inj hn he m3 kc; exact S'.own _ (.tail _ (.tail _ (.head _)))
  have hel : e ∈ L := by
    rcases List.mem_or_eq_of_mem_set he with he | rfl
    · rcases List.mem_or_eq_of_mem_set he with he | rfl
      · rcases List.mem_or_eq_of_mem_set he with he | rfl
        · exact he
        · exact absurd rfl ka
      · exact absurd rfl kb
    · exact absurd rfl kc
  refine ⟨(S.own e hel).1, (S'.old e.1 (S.lt hel) fun x hx e1 => ?_).trans (S.own e hel).2⟩
  simp only [List.mem_cons, List.not_mem_nil, or_false] at hx
  rcases hx with rfl | rfl | rfl
  · exact ka e1.symm
  · exact kb e1.symm
  · exact kc e1.symm
end
structure PBas (w : World) (B gb : Nat) (now : Int) (v : ATV) (t : ATk) (q r rT : SV) : Prop where
  brd : BrdAt w (Lt B) gb v t q r
  tsk : AtAt w B v t
  wet : IntsAt w (Lt B) rT (t.wet.map fun i => ((i : Nat) : Int))
  ok : AlOk t
  now_ : 0 ≤ now ∧ now ≤ 200000
  chs : ∀ x, x ∈ t.twn → x.chs.length ≤ 5000000
section
variable {w w' : World} {B gp gb mt ms : Nat} {now : Int} {v : ATV} {t : ATk} {q r rT : SV}
theorem PBas.pln (h : PBas w B gb now v t q r rT) (hb : w.heap[gp]? = some (cel 102 (plnC gb now rT mt ms))) : PlnAt w B gp gb mt ms now v t q r rT := ⟨hb, h.brd, h.tsk, h.wet, h.ok, h.now_, h.chs⟩
theorem PBas.below (h : PBas w B gb now v t q r rT) (hb : Below B w w') : PBas w' B gb now v t q r rT :=
  ⟨h.brd.keep fun k hk => hb.block k hk, h.tsk.below hb, h.wet.below hb, h.ok, h.now_, h.chs⟩
end
theorem seas_in {t : ATk} {now : Int} {i : Nat} (hO : AlOk t) (hn : 0 ≤ now ∧ now ≤ 200000) (hi : i < t.twn.length) : ∀ s, s ∈ t.seas now t.wet.length i → Sea.in_ s := by
  intro s hs
  obtain ⟨p, hp, hs⟩ := List.mem_flatMap.1 hs
  obtain ⟨k, hk, hp⟩ := List.mem_flatMap.1 hp
  obtain ⟨c, hc, rfl⟩ := List.mem_map.1 hp
  obtain ⟨n, hn2, rfl⟩ := List.mem_map.1 hs
  have hc1 := hO.tchs i hi c (List.mem_filter.1 hc).1
  have h8 := hO.n8
  have h4 := hO.n4
  have hW : t.wet.length ≤ t.twn.length := by
    unfold ATk.wet
    exact Nat.le_trans (List.length_filter_le _ _) (by simp)
  have hk2 := List.mem_range.1 hk
  have hn3 := List.mem_range.1 hn2
  have hcc := hO.cha c.toNat (by omega)
  rw [Int.toNat_of_nonneg hc1.1] at hcc
  simp only at hn3
  refine ⟨?_, ?_, ?_⟩ <;> unfold i64in <;> simp only <;> omega
end X
namespace X
open Go Go.RowKit Bs
section
variable {P : Program} {N : Nat} {B : Nat} {w0 : World} {ds : List Deferred} {Q : Exit → Act → World → Prop} {F : Fr} {L : Lo} {r : Option Nat} {n : Nat}
theorem XR'.hint {c : Code} (t pos : Nat) (h : XR' P N B w0 ds Q r n c ((1000000 + t, .slice none pos 0) :: F) L) : XR' P N B w0 ds Q r n c F L := ⟨fun a w hf hs => h.run a w (hf.hint t _) hs⟩
theorem XI.guard_u {ops : Array Oper} {rest : List Oper} {d j : Nat} {wb : Bool} {op : Op} {ty : TypeId} {p : String} {af : Array Edge} (hj : askedU ops F j = true)
    (h : XI P N B w0 ds Q r n ops rest ((d, undef) :: F) L) (hd : Nat.blt d N = true) :
    XI P N B w0 ds Q r n ops ({ dst := some d, op := op, type := ty, pos := p, after := af, guard := some (j, wb) } :: rest) F L := by
  refine ⟨fun a w hf hs => ?_⟩
  have hw : Region.wanted { dst := some d, op := op, type := ty, pos := p, after := af, guard := some (j, wb) } (yielded ops a.tmps) = false := by
    simp [Region.wanted, askedU_spec hj hf]
  unfold wpListIn
  rw [hw, if_neg (by simp)]
  exact ⟨fun f _ => fen_fn r f, h.run _ w (hf.put hd) hs⟩
theorem mem4S {α : Type} (a b c d e f g h i j k l m n : α) : ∀ x, x ∈ [a, e, i, j] → x ∈ [a, b, c, d, e, f, g, h, i, j, k, l, m, n] := fun x hx => by
  simp only [List.mem_cons, List.not_mem_nil, or_false] at hx ⊢
  rcases hx with h | h | h | h <;> simp [h]
theorem Fits.oneS {a : Act} {t : Nat} {v : Value} (h : Fits N ds F a) (ht : Nat.blt t N = true) :
    Fits N [] ((t, v) :: F) { tmps := ((#[t] : Array Tmp).zip #[v]).foldl (fun s (p, y) => s.setIfInBounds p y) a.tmps, defers := [] } := by
  have h1 := h.put (v := v) ht
  have e : ((#[t] : Array Tmp).zip #[v]).foldl (fun s (p, y) => s.setIfInBounds p y) a.tmps = (a.put (some t) v).tmps := by
    simp [Act.put]
  rw [e]
  exact ⟨h1.size, rfl, h1.get⟩
end
abbrev sixL (gp gb : Nat) (now : Int) (rT : SV) (mt ms mtr mf g3 g7 g5 g8 : Nat) (esf : List MapEntry) (nf : Nat) : Lo :=
  [(gp, cel 102 [.pointer (some ⟨gb, 0, none⟩), .int .i64 now, .slice rT.A rT.n rT.c, .map (some mt), .map (some ms)]), (g3, cel 97 [.pointer (some ⟨gp, 0, none⟩)]), (g7, cel 141 [.map (some mtr)]), (g5, cel 103 [.map (some mf)]),
   (g8, cel 132 [.func (.func 48) #[] #[.pointer (some ⟨g3, 0, none⟩), .pointer (some ⟨g7, 0, none⟩), .pointer (some ⟨g5, 0, none⟩), .pointer (some ⟨g8, 0, none⟩)]]), (mf, mapE esf nf)]
structure MzIs (l : List Nat) (etr : List MapEntry) (ntr : Nat) (etk : List MapEntry) (ntk : Nat) (est : List MapEntry) (nst : Nat) (z : List Sea × Mps) : Prop where
  tr : MapIs keyS etr ntr (trF z.1)
  tk : MapIs keyS etk ntk (tkF z.2)
  st : MapIs intV est nst (stF z.2)
  inm : InM l z.2
structure Mz where
  W : World
  etr : List MapEntry
  ntr : Nat
  etk : List MapEntry
  ntk : Nat
  est : List MapEntry
  nst : Nat
  z : List Sea × Mps
  b : Bool
  st : LoopState
  pe : Option Code
def MvC (B gp gb mt ms mtr mf g3 g7 g5 g8 : Nat) (now : Int) (v : ATV) (t : ATk) (q r rT : SV) (fx : Nat → Bool) (esf : List MapEntry) (nf f : Nat) : Prop :=
  ∀ {w : World} {i : Nat} {z : List Sea × Mps} {etr etk est : List MapEntry} {ntr ntk nst : Nat}, PBas w B gb now v t q r rT →
    Sys B w ((mtr, mapE etr ntr) :: (mt, mapE etk ntk) :: (ms, mapE est nst) :: sixL gp gb now rT mt ms mtr mf g3 g7 g5 g8 esf nf) w → MzIs t.wet etr ntr etk ntk est nst z → i ∈ t.wet → left (t.wet.flatMap (t.seas now t.wet.length)) z.1 < f →
    Calls Tryz.prog 48 #[.int .i64 (i : Nat), .pointer (some ⟨g3, 0, none⟩), .pointer (some ⟨g7, 0, none⟩), .pointer (some ⟨g5, 0, none⟩), .pointer (some ⟨g8, 0, none⟩)] w fun e w' =>
      ∃ vv, e = .returned vv ∧ vv = .bool (Bs.move fx (t.seas now t.wet.length) f i z).1 ∧ ∃ etr' ntr' etk' ntk' est' nst', MzIs t.wet etr' ntr' etk' ntk' est' nst' (Bs.move fx (t.seas now t.wet.length) f i z).2 ∧ Sys B w [(mtr, mapE etr' ntr'), (mt, mapE etk' ntk'), (ms, mapE est' nst')] w'
set_option maxHeartbeats 32000000 in
set_option maxRecDepth 10000 in
theorem settle1_step {B gp gb mt ms mtr mf g3 g7 g5 g8 : Nat} {now : Int} {v : ATV} {t : ATk} {q r rT : SV} {fx : Nat → Bool} {esf : List MapEntry} {nf f : Nat} (hF : MapIs intV esf nf (fxF fx)) (IH : MvC B gp gb mt ms mtr mf g3 g7 g5 g8 now v t q r rT fx esf nf f) : MvC B gp gb mt ms mtr mf g3 g7 g5 g8 now v t q r rT fx esf nf (f + 1) := by
  intro w i z etr etk est ntr ntk nst hb S hz hi hl
  have hO := hb.ok
  have hnow := hb.now_
  have hil : i < t.twn.length := List.mem_range.1 (List.mem_filter.1 hi).1
  simp only [sixL] at S
  refine enterML Tryz.func48 rfl Tryz.ntmps48 rfl S ?_; simp only [frame, Nat.zero_add, Nat.reduceAdd]
  refine XC.hint 1 4 ?_
  refine XC.hint 2 3 ?_
  refine XC.hint 3 2 ?_
  refine XC.hint 4 1 ?_
  repeat (first | (refine M0 ?_; first | refine SL ?_ | refine SB fun _ _ => ?_) | (refine M1 ?_; refine SC ?_) | (refine M2 ?_; refine SE ?_))
  rename_i ga hga gr hgr
  refine XL.callr (fst := []) (cap := []) (fun w1 x w2 => ∃ g21 g31 : Nat, x = .func (.func 49) #[] #[.pointer (some ⟨g21, 0, none⟩), .pointer (some ⟨g31, 0, none⟩)] ∧ Sys w1.heap.size w1 [(g31, cel 3 [.int .i64 (i : Nat)]), (g21, cel 97 [.pointer (some ⟨gp, 0, none⟩)])] w2) (ck rfl) rfl rfl rfl (fun w1 S1 => places0_any) (fun wX x w2 S1 hR => ?_)
  obtain ⟨g21, g31, rfl, S2⟩ := hR
  refine ⟨_, w2, (S1.join S2 (List.Sublist.refl _)).rebase (List.Sublist.cons _ (List.sublist_cons_self _ _)), ?_⟩
  have hlt1 : ∀ x, x ∈ [gr, ga, mtr, mt, ms] → x < wX.heap.size := fun x hx => S1.keyLt x (by
    simp only [List.mem_cons, List.not_mem_nil, or_false] at hx
    simp only [List.map_cons, List.map_nil, List.mem_cons, List.not_mem_nil, or_false]
    rcases hx with h | h | h | h | h <;> simp [h])
  have h21 := S2.own _ (.tail _ (.head _))
  have h31 := S2.own _ (.head _)
  have h21l := S2.lt (e := (g21, _)) (.tail _ (.head _))
  have h31l := S2.lt (e := (g31, _)) (.head _)
  have hwX : w.heap.size ≤ wX.heap.size := S1.size
  have hK0 : Kp3 [mtr, mt, ms] w w2 := (Kp3.refl.sysC S1 fun e he => by
    rcases List.mem_cons.1 he with rfl | he
    · exact .inr (.inl hgr)
    rcases List.mem_cons.1 he with rfl | he
    · exact .inr (.inl hga)
    rcases List.mem_cons.1 he with rfl | he
    · exact .inl (.head _)
    rcases List.mem_cons.1 he with rfl | he
    · exact .inl (.tail _ (.head _))
    rcases List.mem_cons.1 he with rfl | he
    · exact .inl (.tail _ (.tail _ (.head _)))
    · exact .inr (.inr (S.own e (.tail _ (.tail _ (.tail _ he)))).2)).sys S2 fun e he => .inr (Nat.le_trans hwX (S2.own e he).1)
  simp only at h21 h31 h21l h31l
  have hgaw := hga
  have hgrw := hgr
  clear S1 S2 hga hgr
  dsimp only [List.append, List.nil_append, List.cons_append]
  repeat (first | (refine M0 ?_; first | refine SL ?_ | refine SB fun _ _ => ?_) | (refine M1 ?_; refine SC ?_) | (refine M2 ?_; refine SE ?_))
  refine XC.rangeFuncD (cap := [.pointer (some ⟨g21, 0, none⟩), .pointer (some ⟨g31, 0, none⟩)]) rfl (ck rfl) (fun fn a D w3 hD hf S3 => ?_)
  have hfS : Fits 75 [] [(1000000 + 6, .slice none 10 0), (6, .pointer (some ⟨gr, 0, none⟩)), (1000000 + 5, .slice none 9 0), (5, .pointer (some ⟨ga, 0, none⟩)), (1000000 + 1, .slice none 4 0), (1, .pointer (some ⟨g3, 0, none⟩)), (1000000 + 2, .slice none 3 0), (2, .pointer (some ⟨g7, 0, none⟩)), (1000000 + 3, .slice none 2 0), (3, .pointer (some ⟨g5, 0, none⟩)), (1000000 + 4, .slice none 1 0), (4, .pointer (some ⟨g8, 0, none⟩))] { tmps := a.tmps, defers := [] } := by
    have h4 := Sub.fits (G := [(1000000 + 6, .slice none 10 0), (6, .pointer (some ⟨gr, 0, none⟩)), (1000000 + 5, .slice none 9 0), (5, .pointer (some ⟨ga, 0, none⟩)), (1000000 + 1, .slice none 4 0), (1, .pointer (some ⟨g3, 0, none⟩)), (1000000 + 2, .slice none 3 0), (2, .pointer (some ⟨g7, 0, none⟩)), (1000000 + 3, .slice none 2 0), (3, .pointer (some ⟨g5, 0, none⟩)), (1000000 + 4, .slice none 1 0), (4, .pointer (some ⟨g8, 0, none⟩))]) ZZSUB hf
    exact ⟨h4.size, rfl, h4.get⟩
  have hw23 := S3.size
  have hnd := S3.nd
  have hsix : ∀ e, e ∈ sixL gp gb now rT mt ms mtr mf g3 g7 g5 g8 esf nf → w3.heap[e.1]? = some e.2 := fun e he => (S3.own e (.tail _ (.tail _ (.tail _ (.tail _ (.tail _ (.tail _ (.tail _ he)))))))).2
  have hsixB : ∀ e, e ∈ sixL gp gb now rT mt ms mtr mf g3 g7 g5 g8 esf nf → B ≤ e.1 := fun e he => (S3.own e (.tail _ (.tail _ (.tail _ (.tail _ (.tail _ (.tail _ (.tail _ he)))))))).1
  have hdis : ∀ a, a ∈ [D + 1, D, gr, ga, mtr, mt, ms] → ∀ b, b ∈ [gp, g3, g7, g5, g8, mf] → a ≠ b := (List.nodup_append.1 (show ([D + 1, D, gr, ga, mtr, mt, ms] ++ [gp, g3, g7, g5, g8, mf]).Nodup from hnd)).2.2
  have hnd7 : [D + 1, D, gr, ga, mtr, mt, ms].Nodup := (List.nodup_append.1 (show ([D + 1, D, gr, ga, mtr, mt, ms] ++ [gp, g3, g7, g5, g8, mf]).Nodup from hnd)).1
  have hk7 : ∀ k, k ∈ [D + 1, D, gr, ga, mtr, mt, ms] → k < w3.heap.size := fun k hk => S3.keyLt k (List.mem_append_left [gp, g3, g7, g5, g8, mf] hk)
  have h213 : g21 ∉ [D + 1, D, gr, ga, mtr, mt, ms] ∧ g31 ∉ [D + 1, D, gr, ga, mtr, mt, ms] := by
    have key : ∀ g, wX.heap.size ≤ g → g < w2.heap.size → g ∉ [D + 1, D, gr, ga, mtr, mt, ms] := fun g h1 h2 h => by
      rcases List.mem_cons.1 h with h | h
      · omega
      rcases List.mem_cons.1 h with h | h
      · omega
      · have := hlt1 g h; omega
    exact ⟨key g21 h21.1 h21l, key g31 h31.1 h31l⟩
  have hs6 : ∀ k, k ∈ [gp, g3, g7, g5, g8, mf] → k < w.heap.size := fun k hk => S.keyLt k (List.mem_append_right [mtr, mt, ms] hk)
  have hold3 : ∀ g, wX.heap.size ≤ g → g < w2.heap.size → w3.heap[g]? = w2.heap[g]? := fun g h1 h2 => S3.old g h2 fun e he e1 => by
    have h5 : e.1 ∈ [D + 1, D, gr, ga, mtr, mt, ms] ++ [gp, g3, g7, g5, g8, mf] := List.mem_map.2 ⟨e, he, rfl⟩
    rw [e1] at h5
    rcases List.mem_append.1 h5 with h6 | h6
    · rcases List.mem_cons.1 h6 with h | h
      · omega
      rcases List.mem_cons.1 h with h | h
      · omega
      · have := hlt1 g h; omega
    · have := hs6 g h6; omega
  have h21w : w3.heap[g21]? = some (cel 97 [.pointer (some ⟨gp, 0, none⟩)]) := (hold3 g21 h21.1 h21l).trans h21.2
  have h31w : w3.heap[g31]? = some (cel 3 [.int .i64 (i : Nat)]) := (hold3 g31 h31.1 h31l).trans h31.2
  have hKw : Kp3 [mtr, mt, ms] w w3 := hK0.trans2 (ks' := [D + 1, D, gr, ga, mtr, mt, ms]) (Kp3.refl.sysC S3 fun e he => by
    rcases List.mem_append.1 (show e ∈ [_, _, _, _, _, _, _] ++ sixL gp gb now rT mt ms mtr mf g3 g7 g5 g8 esf nf from he) with h | h
    · exact .inl (List.mem_map.2 ⟨e, h, rfl⟩)
    · have h6 : e.1 ∈ [gp, g3, g7, g5, g8, mf] := List.mem_map.2 ⟨e, h, rfl⟩
      refine .inr (.inr ((hK0.old e.1 (hs6 _ h6) fun h7 => ?_).trans (S.own e (.tail _ (.tail _ (.tail _ h)))).2))
      exact hdis e.1 (List.mem_append_right [D + 1, D, gr, ga] h7) e.1 h6 rfl) (fun k hk => by
    have hw2 := hK0.size
    rcases List.mem_cons.1 hk with h | hk
    · right; omega
    rcases List.mem_cons.1 hk with h | hk
    · right; omega
    rcases List.mem_cons.1 hk with h | hk
    · right; omega
    rcases List.mem_cons.1 hk with h | hk
    · right; omega
    · exact .inl hk)
  have hbel : ∀ {W}, Kp3 [D + 1, D, gr, ga, mtr, mt, ms] w3 W → Kp3 [mtr, mt, ms] w W := fun h => hKw.trans2 h (fun k hk => by
    have hw2 := hK0.size
    rcases List.mem_cons.1 hk with h | hk
    · right; omega
    rcases List.mem_cons.1 hk with h | hk
    · right; omega
    rcases List.mem_cons.1 hk with h | hk
    · right; omega
    rcases List.mem_cons.1 hk with h | hk
    · right; omega
    · exact .inl hk)
  have hkB : ∀ k, k ∈ [mtr, mt, ms] → B ≤ k := fun k hk => by
    rcases List.mem_cons.1 hk with rfl | hk
    · exact (S.own _ (.head _)).1
    rcases List.mem_cons.1 hk with rfl | hk
    · exact (S.own _ (.tail _ (.head _))).1
    · rw [List.mem_singleton.1 hk]; exact (S.own _ (.tail _ (.tail _ (.head _)))).1
  have hbas : ∀ {W}, Kp3 [D + 1, D, gr, ga, mtr, mt, ms] w3 W → PBas W B gb now v t q r rT := fun h => hb.below ((hbel h).below S.base hkB)
  have hSB := S.base
  obtain ⟨U, hU⟩ : ∃ U, U = t.wet.flatMap (t.seas now t.wet.length) := ⟨_, rfl⟩
  obtain ⟨mv, hmv⟩ : ∃ mv, mv = Bs.move fx (t.seas now t.wet.length) f := ⟨_, rfl⟩
  have hsU : ∀ s, s ∈ t.seas now t.wet.length i → s ∈ U := fun s hs => by rw [hU]; exact List.mem_flatMap.2 ⟨i, hi, hs⟩
  have hmvE : Bs.move fx (t.seas now t.wet.length) (f + 1) i z = goS fx mv i (t.seas now t.wet.length i) z := by rw [hmv]; rfl
  rw [hmvE]
  rw [← hU] at hl
  clear S hK0 hwX hlt1 hold3 h21 h31
  refine (places_any (B := B) (l := D + 1) (gp := gp) (g2 := g21) (g3 := g31) (gb := gb) (i := i) (now := now) (v := v) (t := t) (q := q) (r := r) (rT := rT)
    (fun s : Mz => [(D + 1, .loop (recO fn a.tmps #[13] _ _ D s.st s.pe)), (D, .deferred (some [])), (gr, cel 4 [.bool s.b]), (ga, cel 3 [.int .i64 (i : Nat)]), (mtr, mapE s.etr s.ntr), (mt, mapE s.etk s.ntk), (ms, mapE s.est s.nst)])
    (fun s => s.W)
    (fun x s => (s.st = .ready ∧ s.pe = none ∧ s.b = false) ∧ Kp3 [D + 1, D, gr, ga, mtr, mt, ms] w3 s.W ∧ MzIs t.wet s.etr s.ntr s.etk s.ntk s.est s.nst s.z ∧ left U s.z.1 < f + 1 ∧ (∃ pre, t.places now t.wet.length i = pre ++ x) ∧ goS fx mv i (x.flatMap t.numbs) s.z = goS fx mv i (t.seas now t.wet.length i) z)
    (fun s => (s.st = .done ∧ s.pe = some .ret ∧ s.b = true) ∧ Kp3 [D + 1, D, gr, ga, mtr, mt, ms] w3 s.W ∧ MzIs t.wet s.etr s.ntr s.etk s.ntk s.est s.nst s.z ∧ goS fx mv i (t.seas now t.wet.length i) z = (true, s.z))
    ⟨w3, etr, ntr, etk, ntk, est, nst, z, false, .ready, none⟩ (S3.rebase (List.sublist_append_left [_, _, _, _, _, _, _] _)) ⟨⟨rfl, rfl, rfl⟩, Kp3.refl, hz, hl, ⟨[], rfl⟩, rfl⟩ hil ?_ ?_ ?_).mono fun e w4 hR => ?_
  · rintro x s ⟨_, hK, _⟩
    have hq : ∀ g, g ∈ [gp, g3, g7, g5, g8, mf] → g ∉ [D + 1, D, gr, ga, mtr, mt, ms] := fun g hg h => hdis g h g hg rfl
    refine ⟨⟨mt, ms, (hbas hK).pln ?_⟩, ?_, ?_⟩
    · exact (hK.old gp (Nat.lt_of_lt_of_le (hs6 gp (.head _)) hKw.size) (hq gp (.head _))).trans (hsix _ (.head _))
    · exact (hK.old g21 (Array.getElem?_eq_some_iff.1 h21w).1 h213.1).trans h21w
    · exact (hK.old g31 (Array.getElem?_eq_some_iff.1 h31w).1 h213.2).trans h31w
  · intro x s hJ e he
    have h5 : e.1 ∈ [D + 1, D, gr, ga, mtr, mt, ms] := List.mem_map.2 ⟨e, he, rfl⟩
    exact ⟨fun h => hdis e.1 h5 gp (.head _) h, fun h => h213.1 (h ▸ h5), fun h => h213.2 (h ▸ h5)⟩
  rotate_left
  · obtain ⟨u, rfl, ⟨W, etr2, ntr2, etk2, ntk2, est2, nst2, z2, b2, st2, pe2⟩, hJ, S4⟩ := hR
    refine ⟨_, rfl, st2, pe2, _, W, ?_, S4, ?_⟩
    · rcases hJ with ⟨⟨e1, _⟩, _⟩ | ⟨⟨e1, _⟩, _⟩ <;> (simp only at e1; rw [e1]; decide)
    rcases hJ with ⟨⟨e1, e2, e3⟩, hK, hzz, _, _, hgo⟩ | ⟨⟨e1, e2, e3⟩, hK, hzz, hgo⟩
    · simp only at e1 e2 e3 hK hzz hgo
      subst e1 e2 e3
      refine XE.hint 6 4 ?_
      repeat (first | (refine M0 ?_; first | refine SL ?_ | refine SB fun _ _ => ?_) | (refine M1 ?_; refine SC ?_) | (refine M2 ?_; refine SE ?_))
      refine XE.retM tok (D := D) (i := 1) Tryz.results48 rfl rfl rfl (by simp only [and_self, and_true]) (fun w' S => ?_)
      rw [← hgo]
      have hK5 := hbel (hK.sys S fun e he => .inl (List.mem_map.2 ⟨e, he, rfl⟩))
      refine ⟨_, rfl, rfl, etr2, ntr2, etk2, ntk2, est2, nst2, hzz, hK5.end_ hSB (fun e he => S.own e (.tail _ (.tail _ (.tail _ (.tail _ he))))) (hnd7.sublist (.cons _ (.cons _ (.cons _ (.cons _ (List.Sublist.refl _)))))) fun k _ hk => hk⟩
    · simp only at e1 e2 e3 hK hzz hgo
      subst e1 e2 e3
      refine XE.hint 6 4 ?_
      repeat (first | (refine M0 ?_; first | refine SL ?_ | refine SB fun _ _ => ?_) | (refine M1 ?_; refine SC ?_) | (refine M2 ?_; refine SE ?_))
      refine XE.retM tok (D := D) (i := 1) Tryz.results48 rfl rfl rfl (by simp only [and_self, and_true]) (fun w' S => ?_)
      rw [hgo]
      have hK5 := hbel (hK.sys S fun e he => .inl (List.mem_map.2 ⟨e, he, rfl⟩))
      refine ⟨_, rfl, rfl, etr2, ntr2, etk2, ntk2, est2, nst2, hzz, hK5.end_ hSB (fun e he => S.own e (.tail _ (.tail _ (.tail _ (.tail _ he))))) (hnd7.sublist (.cons _ (.cons _ (.cons _ (.cons _ (List.Sublist.refl _)))))) fun k _ hk => hk⟩
  rintro p x ⟨W, etr2, ntr2, etk2, ntk2, est2, nst2, z2, b2, st2, pe2⟩ ⟨⟨e1, e2, e3⟩, hKW, hz2, hl2, ⟨pre, hpre⟩, hgo⟩ w1 S1
  simp only at e1 e2 e3 hKW hz2 hl2 hpre hgo S1
  subst e1 e2 e3
  have hloop := (S1.own _ (.head _)).2
  refine ⟨_, _, _, _, run_yield (args := #[seaV ⟨p.1, p.2, 0⟩]) hloop rfl, ?_⟩
  clear hloop
  have hK1 : Kp3 [D + 1, D, gr, ga, mtr, mt, ms] w3 w1 := hKW.sys S1 fun e he => .inl (List.mem_map.2 ⟨e, he, rfl⟩)
  have hsix1 : ∀ e, e ∈ sixL gp gb now rT mt ms mtr mf g3 g7 g5 g8 esf nf → w1.heap[e.1]? = some e.2 := fun e he => by
    have h6 : e.1 ∈ [gp, g3, g7, g5, g8, mf] := List.mem_map.2 ⟨e, he, rfl⟩
    exact (hK1.old e.1 (Nat.lt_of_lt_of_le (hs6 _ h6) hKw.size) fun h => hdis e.1 h e.1 h6 rfl).trans (hsix e he)
  have S6 := Sys.start (B := B) (w := w1) (L := [(D + 1, .loop (recO fn a.tmps #[13] _ _ D .ready none)), (D, .deferred (some [])), (gr, cel 4 [.bool false]), (ga, cel 3 [.int .i64 (i : Nat)]), (mtr, mapE etr2 ntr2), (mt, mapE etk2 ntk2), (ms, mapE est2 nst2)] ++ sixL gp gb now rT mt ms mtr mf g3 g7 g5 g8 esf nf)
    (Nat.le_trans S1.base S1.size) (fun e he => (List.mem_append.1 he).elim (fun h => S1.own e h) fun h => ⟨hsixB e h, hsix1 e h⟩) hnd
  refine round_of (hfS.oneS rfl) S6 ?_
  dsimp only [List.cons_append, List.nil_append]
  have hw31 := hK1.size
  simp only [seaV]
  repeat (first | (refine M0 ?_; first | refine SL ?_ | refine SB fun _ _ => ?_) | (refine XI.id ?_; first | refine XI.done ?_ | refine XI.one1 rfl ?_) | (refine XR'.id ?_; first | refine XR'.seq ?_ | refine XR'.region ?_ | refine XR'.block ?_ | refine XR'.skip ?_ | refine XR'.ret ?_ | refine XR'.cond_t rfl ?_ | refine XR'.cond_f rfl ?_ | refine XR'.exit ?_) | (refine M1 ?_; first | refine SC ?_ | refine SD ?_) | (refine M2 ?_; first | refine XE.nextI ?_ | refine XE.nextR ?_ | refine SE ?_))
  rename_i gs hgs
  refine XE.begin (i := 1) rfl rfl rfl ?_
  have hpm : p ∈ t.places now t.wet.length i := by rw [hpre]; exact List.mem_append_right _ (.head _)
  have hpre2 : ∃ pre, t.places now t.wet.length i = pre ++ x := ⟨pre ++ [p], by rw [hpre]; simp⟩
  have hnin : ∀ s, s ∈ t.numbs p → Sea.in_ s ∧ s ∈ U := fun s hs => by
    have h1 : s ∈ t.seas now t.wet.length i := List.mem_flatMap.2 ⟨p, hpm, hs⟩
    exact ⟨seas_in hO hnow hil s h1, hsU s h1⟩
  obtain ⟨pc, ps⟩ := p
  obtain ⟨hpc, hps1, hps2⟩ := ATk.places_of hpm
  obtain ⟨hpc0, hpc1⟩ := hO.tchs i hil _ hpc
  obtain ⟨cn, rfl⟩ : ∃ cn : Nat, pc = (cn : Int) := ⟨pc.toNat, (Int.toNat_of_nonneg hpc0).symm⟩
  have hcn : cn < t.cha.length := by omega
  have hB1 := hbas hK1
  have hok : gb < B := hB1.brd.ok_
  have hc2 : w1.cell? (((⟨gb, 0, none⟩ : Addr).add 0).add 1) = some (.slice v.c.A v.c.n v.c.c) := by rw [add_off, add_off]; exact hB1.brd.cell (j := 1) rfl
  obtain ⟨adc, e2, hlt2, hc4⟩ := hB1.tsk.chaAt hcn
  have hc5 := hc4 2 (.int .i64 (t.ch (cn : Nat)).room) rfl
  rw [e2, hB1.tsk.nc] at hc2
  have hroom := (hO.cha cn hcn).2
  have h4 := hO.n4
  simp only
  repeat (first | (refine M0 ?_; first | refine SL ?_ | refine SB fun _ _ => ?_) | (refine XI.id ?_; first | refine XI.done ?_ | refine XI.one1 rfl ?_) | (refine XR'.id ?_; first | refine XR'.seq ?_ | refine XR'.region ?_ | refine XR'.block ?_ | refine XR'.skip ?_ | refine XR'.ret ?_ | refine XR'.cond_t rfl ?_ | refine XR'.cond_f rfl ?_ | refine XR'.exit ?_) | (refine M1 ?_; first | refine SC ?_ | refine SD ?_) | (refine M2 ?_; first | refine XE.nextI ?_ | refine XE.nextR ?_ | refine SE ?_))
  refine XR'.drawRS w1 _ [0, 1, 2, 3, 4, 5, 6, 7, 8, 9, 10, 11, 12] [13] mixed (fun _ h => h) rfl rfl (by kernel_rfl) ?_
  repeat (first | (refine M0 ?_; first | refine SL ?_ | refine SB fun _ _ => ?_ | refine Y4 (Ev.load_at tok 8 (g := gp) (o := 0) (j := 0) rfl rfl rfl rfl) ?_ | refine Y4 (Ev.load_old tok rfl rfl (add_lt2 hok) hc2) ?_ | refine Y4 (Ev.load_old tok rfl rfl (add_lt2 hlt2) hc5) ?_) | (refine M2 ?_; refine SE ?_) | (refine M3 ?_; first | refine SG ?_ | refine SF ?_ | refine YF (Ev.load_at tok 8 (g := gp) (o := 0) (j := 0) rfl rfl rfl rfl) ?_ | refine YF (Ev.load_old tok rfl rfl (add_lt2 hok) hc2) ?_ | refine YF (Ev.load_old tok rfl rfl (add_lt2 hlt2) hc5) ?_) | (refine M4 ?_; refine SR ?_) | (refine M5 ?_; first | exact M7 | refine YM ?_ | refine YN ?_ ?_))
  refine XE.onlyN ?_
  repeat (first | (refine M0 ?_; first | refine SL ?_ | refine SB fun _ _ => ?_) | (refine XI.id ?_; first | refine XI.done ?_ | refine XI.one1 rfl ?_) | (refine XR'.id ?_; first | refine XR'.seq ?_ | refine XR'.region ?_ | refine XR'.block ?_ | refine XR'.skip ?_ | refine XR'.ret ?_ | refine XR'.cond_t rfl ?_ | refine XR'.cond_f rfl ?_ | refine XR'.exit ?_) | (refine M1 ?_; first | refine SC ?_ | refine SD ?_) | (refine M2 ?_; first | refine XE.nextI ?_ | refine XE.nextR ?_ | refine SE ?_))
  obtain ⟨rn, hrn⟩ : ∃ rn : Nat, (t.ch (cn : Nat)).room = (rn : Int) := ⟨(t.ch (cn : Nat)).room.toNat, (Int.toNat_of_nonneg hroom.1).symm⟩
  have hnb : t.numbs ((cn : Int), ps) = (List.range rn).map fun n => (⟨(cn : Int), ps, (n : Nat)⟩ : Sea) := by unfold ATk.numbs; rw [hrn]; rfl
  have hnl : (t.numbs ((cn : Int), ps)).length = rn := by rw [hnb]; simp
  rw [hrn]
  have hgs3 : w3.heap.size ≤ gs := Nat.le_trans hw31 hgs
  have hM8 : ∀ (og o1 o2 o3 o4 o5 o6 o7 : Obj) (e : Nat × Obj), e ∈ (gs, og) :: (D + 1, o1) :: (D, o2) :: (gr, o3) :: (ga, o4) :: (mtr, o5) :: (mt, o6) :: (ms, o7) :: sixL gp gb now rT mt ms mtr mf g3 g7 g5 g8 esf nf → e.1 ∈ [D + 1, D, gr, ga, mtr, mt, ms] ∨ w3.heap.size ≤ e.1 ∨ w3.heap[e.1]? = some e.2 := fun og o1 o2 o3 o4 o5 o6 o7 e he => by
    rcases List.mem_cons.1 he with rfl | he
    · exact .inr (.inl hgs3)
    rcases List.mem_append.1 (show e ∈ [(D + 1, o1), (D, o2), (gr, o3), (ga, o4), (mtr, o5), (mt, o6), (ms, o7)] ++ sixL gp gb now rT mt ms mtr mf g3 g7 g5 g8 esf nf from he) with h | h
    · exact .inl (List.mem_map.2 ⟨e, h, rfl⟩)
    · exact .inr (.inr (hsix e h))
  have hgs7 : ∀ k, k ∈ [D + 1, D, gr, ga, mtr, mt, ms] → gs ≠ k := fun k hk e => by have := hk7 k hk; omega
  refine XR'.loopk [1, 2, 3, 4, 5, 6, 7, 26] rfl (fun y : Nat × Int × Mz => [(27, .int .i64 (y.1 : Nat))])
    (fun y => (gs, cel 109 [.int .i64 (cn : Int), .int .i64 ps, .int .i64 y.2.1]) :: (D + 1, .loop (recO fn a.tmps #[13] _ _ D .busy none)) :: (D, .deferred (some [])) :: (gr, cel 4 [.bool false]) :: (ga, cel 3 [.int .i64 (i : Nat)]) :: (mtr, mapE y.2.2.etr y.2.2.ntr) :: (mt, mapE y.2.2.etk y.2.2.ntk) :: (ms, mapE y.2.2.est y.2.2.nst) :: sixL gp gb now rT mt ms mtr mf g3 g7 g5 g8 esf nf)
    (fun y => y.2.2.W)
    (fun y => y.1 ≤ rn ∧ Kp3 [D + 1, D, gr, ga, mtr, mt, ms] w3 y.2.2.W ∧ MzIs t.wet y.2.2.etr y.2.2.ntr y.2.2.etk y.2.2.ntk y.2.2.est y.2.2.nst y.2.2.z ∧ left U y.2.2.z.1 < f + 1 ∧ goS fx mv i ((t.numbs ((cn : Int), ps)).drop y.1 ++ x.flatMap t.numbs) y.2.2.z = goS fx mv i (t.seas now t.wet.length i) z)
    (fun y => rn - y.1) (0, 0, ⟨w1, etr2, ntr2, etk2, ntk2, est2, nst2, z2, false, .ready, none⟩) ⟨Nat.zero_le _, hK1, hz2, hl2, by rw [List.flatMap_cons] at hgo; exact hgo⟩ ZZSUB (fun _ h => h) ?_
  rintro ⟨k, xx, ⟨W4, etr4, ntr4, etk4, ntk4, est4, nst4, z4, b4, st4, pe4⟩⟩ ⟨hk, hK4, hz4, hl4, hg4⟩
  simp only at hk hK4 hz4 hl4 hg4
  dsimp only [List.cons_append, List.nil_append]
  refine XR'.hint 7 13 ?_
  refine XR'.hint 6 10 ?_
  refine XR'.hint 5 9 ?_
  refine XR'.hint 1 4 ?_
  refine XR'.hint 2 3 ?_
  refine XR'.hint 3 2 ?_
  refine XR'.hint 4 1 ?_
  repeat (first | (refine M0 ?_; first | refine SL ?_ | refine SB fun _ _ => ?_) | (refine XI.id ?_; first | refine XI.done ?_ | refine XI.one1 rfl ?_) | (refine XR'.id ?_; first | refine XR'.seq ?_ | refine XR'.region ?_ | refine XR'.block ?_ | refine XR'.skip ?_ | refine XR'.ret ?_ | refine XR'.cond_t rfl ?_ | refine XR'.cond_f rfl ?_ | refine XR'.exit ?_) | (refine M1 ?_; first | refine SC ?_ | refine SD ?_) | (refine M2 ?_; first | refine XE.nextI ?_ | refine XE.nextR ?_ | refine SE ?_))
  refine XR'.cond _ rfl (fun h2 => ?_) (fun h2 => ?_)
  rotate_left
  · have hkr : k = rn := by have := of_decide_eq_false h2; omega
    subst hkr
    repeat (first | (refine M0 ?_; first | refine SL ?_ | refine SB fun _ _ => ?_) | (refine XI.id ?_; first | refine XI.done ?_ | refine XI.one1 rfl ?_) | (refine XR'.id ?_; first | refine XR'.seq ?_ | refine XR'.region ?_ | refine XR'.block ?_ | refine XR'.skip ?_ | refine XR'.ret ?_ | refine XR'.cond_t rfl ?_ | refine XR'.cond_f rfl ?_ | refine XR'.exit ?_) | (refine M1 ?_; first | refine SC ?_ | refine SD ?_) | (refine M2 ?_; first | refine XE.nextI ?_ | refine XE.nextR ?_ | refine SE ?_))
    refine XE.endR (i := 1) rfl rfl (fun w' S => ?_)
    refine ⟨_, rfl, true, rfl, ⟨w', etr4, ntr4, etk4, ntk4, est4, nst4, z4, false, .ready, none⟩, ?_, S.rebase (.cons _ (List.sublist_append_left [_, _, _, _, _, _, _] _))⟩
    rw [if_pos rfl]
    refine ⟨⟨rfl, rfl, rfl⟩, hK4.sysC S (hM8 _ _ _ _ _ _ _ _), hz4, hl4, hpre2, ?_⟩
    rw [List.drop_eq_nil_of_le (Nat.le_of_eq hnl), List.nil_append] at hg4
    exact hg4
  have hkr : k < rn := by have := of_decide_eq_true h2; omega
  clear h2
  obtain ⟨s, hs⟩ : ∃ s : Sea, s = ⟨(cn : Int), ps, (k : Nat)⟩ := ⟨_, rfl⟩
  have hsm : s ∈ t.numbs ((cn : Int), ps) := by rw [hnb, hs]; exact List.mem_map.2 ⟨k, List.mem_range.2 hkr, rfl⟩
  obtain ⟨hsin, hsU2⟩ := hnin s hsm
  have hkey := sea_key hsin
  have hsd : (t.numbs ((cn : Int), ps)).drop k = s :: (t.numbs ((cn : Int), ps)).drop (k + 1) := by
    rw [List.drop_eq_getElem_cons (by rw [hnl]; exact hkr)]
    congr 1
    simp only [hnb, List.getElem_map, List.getElem_range, hs]
  rw [hsd, List.cons_append] at hg4
  have hzt : ((trF z4.1) (seaV s)).getD (.bool false) = .bool (z4.1.contains s) := by
    rw [trF_at]
    cases z4.1.contains s <;> rfl
  rw [hs] at hkey hzt
  have hnd4 : [gs, ga, gp, g3].Nodup := by
    have h1 := hgs7 ga (by simp)
    have h2 := hdis ga (by simp) gp (by simp)
    have h3 := hdis ga (by simp) g3 (by simp)
    have h4 : gp ≠ g3 := by
      have := (List.nodup_append.1 (show ([D + 1, D, gr, ga, mtr, mt, ms] ++ [gp, g3, g7, g5, g8, mf]).Nodup from hnd)).2.1
      simp only [List.nodup_cons, List.mem_cons, not_or] at this
      exact this.1.1
    have h5 : gs ≠ gp := by have := hs6 gp (by simp); have := hKw.size; omega
    have h6 : gs ≠ g3 := by have := hs6 g3 (by simp); have := hKw.size; omega
    simp only [List.nodup_cons, List.mem_cons, List.not_mem_nil, or_false, not_or, not_false_eq_true, and_true, List.nodup_nil]
    exact ⟨⟨h1, h5, h6⟩, ⟨h2, h3⟩, h4⟩
  have hBW : Below B W4 W4 := Below.refl _ _
  have hleW : B ≤ W4.heap.size := Nat.le_trans hSB (Nat.le_trans hKw.size hK4.size)
  have hleW0 : B ≤ w3.heap.size := Nat.le_trans hSB hKw.size
  repeat (first | (refine M0 ?_; first | refine SL ?_ | refine SB fun _ _ => ?_ | refine Y4 (Ev.look1 tok 5 seaF rfl rfl rfl Tryz.underlying141 rfl hz4.tr hkey hzt) ?_) | (refine XI.id ?_; first | refine XI.done ?_ | refine XI.one1 rfl ?_) | (refine XR'.id ?_; first | refine XR'.seq ?_ | refine XR'.region ?_ | refine XR'.block ?_ | refine XR'.skip ?_ | refine XR'.ret ?_ | refine XR'.cond_t rfl ?_ | refine XR'.cond_f rfl ?_ | refine XR'.exit ?_) | (refine M1 ?_; first | refine SC ?_ | refine SD ?_) | (refine M2 ?_; first | refine XE.nextI ?_ | refine XE.nextR ?_ | refine SE ?_))
  rw [← hs]
  cases hct : z4.1.contains s with
  | true =>
    repeat (first | (refine M0 ?_; first | refine SL ?_ | refine SB fun _ _ => ?_) | (refine XI.id ?_; first | refine XI.done ?_ | refine XI.one1 rfl ?_) | (refine XR'.id ?_; first | refine XR'.seq ?_ | refine XR'.region ?_ | refine XR'.block ?_ | refine XR'.skip ?_ | refine XR'.ret ?_ | refine XR'.cond_t rfl ?_ | refine XR'.cond_f rfl ?_ | refine XR'.exit ?_) | (refine M1 ?_; first | refine SC ?_ | refine SD ?_) | (refine M2 ?_; first | refine XE.nextI ?_ | refine XE.nextR ?_ | refine SE ?_))
    rw [goS_1 hct] at hg4
    exact XE.round (s := (k, xx, (⟨W4, etr4, ntr4, etk4, ntk4, est4, nst4, z4, b4, st4, pe4⟩ : Mz))) (k + 1, (k : Int), ⟨W4, etr4, ntr4, etk4, ntk4, est4, nst4, z4, b4, st4, pe4⟩) ⟨hkr, hK4, hz4, hl4, hg4⟩ (by simp only; omega) ZZSUB (fun _ h => h)
  | false =>
    repeat (first | (refine M0 ?_; first | refine SL ?_ | refine SB fun _ _ => ?_) | (refine XI.id ?_; first | refine XI.done ?_ | refine XI.one1 rfl ?_) | (refine XR'.id ?_; first | refine XR'.seq ?_ | refine XR'.region ?_ | refine XR'.block ?_ | refine XR'.skip ?_ | refine XR'.ret ?_ | refine XR'.cond_t rfl ?_ | refine XR'.cond_f rfl ?_ | refine XR'.exit ?_) | (refine M1 ?_; first | refine SC ?_ | refine SD ?_) | (refine M2 ?_; first | refine XE.nextI ?_ | refine XE.nextR ?_ | refine SE ?_))
    refine XL.updM 5 seaF rfl rfl rfl rfl Tryz.underlying141 hz4.tr hkey (fun _ _ => rfl) (fun etr5 ntr5 hm5 => ?_)
    have hsv : (Value.agg ⟨[.int .i64 (cn : Int), .int .i64 ps, .int .i64 (k : Nat)]⟩) = seaV s := by rw [hs]; rfl
    have hm5 : MapIs keyS etr5 ntr5 (trF (s :: z4.1)) := by rw [← trF_put, ← hsv]; exact hm5
    have hsnt : s ∉ z4.1 := fun h => by rw [List.contains_eq_mem, decide_eq_true h] at hct; cases hct
    have hl5 : left U (s :: z4.1) < left U z4.1 := left_lt hsU2 hsnt
    repeat (first | (refine M0 ?_; first | refine SL ?_ | refine SB fun _ _ => ?_) | (refine XI.id ?_; first | refine XI.done ?_ | refine XI.one1 rfl ?_) | (refine XR'.id ?_; first | refine XR'.seq ?_ | refine XR'.region ?_ | refine XR'.block ?_ | refine XR'.skip ?_ | refine XR'.ret ?_ | refine XR'.cond_t rfl ?_ | refine XR'.cond_f rfl ?_ | refine XR'.exit ?_) | (refine M1 ?_; first | refine SC ?_ | refine SD ?_) | (refine M2 ?_; first | refine XE.nextI ?_ | refine XE.nextR ?_ | refine SE ?_))
    cases htk : z4.2.tk s with
    | none =>
      have hf5 : tkF z4.2 (.agg ⟨[.int .i64 (cn : Int), .int .i64 ps, .int .i64 (k : Nat)]⟩) = none := by rw [hsv, tkF_at, htk]; rfl
      refine XR'.drawRS W4 _ [0, 1, 2, 3, 4, 5, 6, 7, 8] [9, 10] mixed (fun _ h => h) rfl rfl (by kernel_rfl) ?_
      repeat (first | (refine M0 ?_; first | refine SL ?_ | refine SB fun _ _ => ?_ | refine Y4 (Ev.load_at tok 8 (g := gp) (o := 0) (j := 3) rfl rfl rfl rfl) ?_ | refine Y4 (Ev.lookN2 tok 6 seaF rfl rfl rfl Tryz.underlying99 rfl hz4.tk hkey hf5) ?_) | (refine M2 ?_; refine SE ?_) | (refine M3 ?_; first | refine SG ?_ | refine SF ?_ | refine YF (Ev.load_at tok 8 (g := gp) (o := 0) (j := 3) rfl rfl rfl rfl) ?_ | refine YF (Ev.lookN2 tok 6 seaF rfl rfl rfl Tryz.underlying99 rfl hz4.tk hkey hf5) ?_) | (refine M4 ?_; refine SR ?_) | (refine M5 ?_; first | exact M7 | refine YM ?_ | refine YN ?_ ?_))
      refine XE.onlyN ?_
      repeat (first | (refine M0 ?_; first | refine SL ?_ | refine SB fun _ _ => ?_) | (refine XI.id ?_; first | refine XI.done ?_ | refine XI.one1 rfl ?_) | (refine XR'.id ?_; first | refine XR'.seq ?_ | refine XR'.region ?_ | refine XR'.block ?_ | refine XR'.skip ?_ | refine XR'.ret ?_ | refine XR'.cond_t rfl ?_ | refine XR'.cond_f rfl ?_ | refine XR'.exit ?_) | (refine M1 ?_; first | refine SC ?_ | refine SD ?_) | (refine M2 ?_; first | refine XE.nextI ?_ | refine XE.nextR ?_ | refine SE ?_))
      refine XI.guard_u rfl ?_ rfl
      rw [goS_2 hct htk] at hg4
      repeat (first | (refine M0 ?_; first | refine SL ?_ | refine SB fun _ _ => ?_) | (refine XI.id ?_; first | refine XI.done ?_ | refine XI.one1 rfl ?_) | (refine XR'.id ?_; first | refine XR'.seq ?_ | refine XR'.region ?_ | refine XR'.block ?_ | refine XR'.skip ?_ | refine XR'.ret ?_ | refine XR'.cond_t rfl ?_ | refine XR'.cond_f rfl ?_ | refine XR'.exit ?_) | (refine M1 ?_; first | refine SC ?_ | refine SD ?_) | (refine M2 ?_; first | refine XE.nextI ?_ | refine XE.nextR ?_ | refine SE ?_))
      refine XR'.drawRS (trunc W4 B) [(gs, cel 109 [.int .i64 (cn : Int), .int .i64 ps, .int .i64 (k : Nat)]), (ga, cel 3 [.int .i64 (i : Nat)]), (gp, cel 102 [.pointer (some ⟨gb, 0, none⟩), .int .i64 now, .slice rT.A rT.n rT.c, .map (some mt), .map (some ms)]), (g3, cel 97 [.pointer (some ⟨gp, 0, none⟩)])] [0, 1, 2, 3, 4, 5, 6, 7, 8, 9, 10, 11] [12, 13, 14, 15, 16, 17] mixed (fun _ h => Sys.anchorT hBW h (mem4S _ _ _ _ _ _ _ _ _ _ _ _ _ _) hnd4 hleW) rfl rfl (by kernel_rfl) ?_
      repeat (any_goals (first | (refine M0 ?_; first | refine SL ?_ | refine SB fun _ _ => ?_ | refine Y4 (Ev.load_loc tok 3 (g := g3) (o := 0) rfl rfl rfl rfl) ?_ | refine Y4 (Ev.load_at tok 2 (g := gp) (o := 0) (j := 3) rfl rfl rfl rfl) ?_ | refine Y4 (Ev.load_at tok 2 (g := gp) (o := 0) (j := 4) rfl rfl rfl rfl) ?_ | refine Y4 (Ev.load_loc tok 1 (g := ga) (o := 0) rfl rfl rfl rfl) ?_ | refine Y4 (Ev.load_loc_agg tok 0 (g := gs) (o := 0) (n := 3) rfl rfl rfl rfl) ?_) | (refine M1 ?_; refine SC ?_) | (refine M2 ?_; refine SE ?_) | (refine M3 ?_; first | refine SG ?_ | refine SF ?_ | refine YF (Ev.load_loc tok 3 (g := g3) (o := 0) rfl rfl rfl rfl) ?_ | refine YF (Ev.load_at tok 2 (g := gp) (o := 0) (j := 3) rfl rfl rfl rfl) ?_ | refine YF (Ev.load_at tok 2 (g := gp) (o := 0) (j := 4) rfl rfl rfl rfl) ?_ | refine YF (Ev.load_loc tok 1 (g := ga) (o := 0) rfl rfl rfl rfl) ?_ | refine YF (Ev.load_loc_agg tok 0 (g := gs) (o := 0) (n := 3) rfl rfl rfl rfl) ?_) | (refine M4 ?_; refine SR ?_) | (refine M5 ?_; first | exact M7 | refine YM ?_ | refine YN ?_ ?_)))
      refine XL.entM tok 6 seaF rfl rfl rfl Tryz.underlying99 rfl hz4.tk hkey rfl (fun _ _ => rfl) (fun etk7 ntk7 b7 hm7 hb7 => ?_)
      repeat (first | (refine M0 ?_; first | refine SL ?_ | refine SB fun _ _ => ?_) | (refine M2 ?_; refine SE ?_) | (refine M3 ?_; first | refine SG ?_ | refine SF ?_) | (refine M4 ?_; refine SR ?_) | (refine M5 ?_; first | exact M7 | refine YM ?_ | refine YN ?_ ?_))
      refine z7 (hn := hnd4) ?_
      repeat (any_goals (first | (refine M0 ?_; first | refine SL ?_ | refine SB fun _ _ => ?_) | (refine M1 ?_; refine SC ?_) | (refine M2 ?_; refine SE ?_) | (refine M3 ?_; first | refine SG ?_ | refine SF ?_) | (refine M4 ?_; refine SR ?_) | (refine M5 ?_; first | exact M7 | refine YM ?_ | refine YN ?_ ?_)))
      refine XL.stoM 6 rfl rfl rfl rfl hm7 hb7 (fun _ _ => rfl) (fun etk8 ntk8 hm8 => ?_)
      rw [upd_upd, hsv, tkF_put] at hm8
      repeat (first | (refine M0 ?_; first | refine SL ?_ | refine SB fun _ _ => ?_) | (refine M2 ?_; refine SE ?_) | (refine M3 ?_; first | refine SG ?_ | refine SF ?_) | (refine M4 ?_; refine SR ?_) | (refine M5 ?_; first | exact M7 | refine YM ?_ | refine YN ?_ ?_))
      refine z7 (hn := hnd4) ?_
      repeat (any_goals (first | (refine M0 ?_; first | refine SL ?_ | refine SB fun _ _ => ?_) | (refine M1 ?_; refine SC ?_) | (refine M2 ?_; refine SE ?_) | (refine M3 ?_; first | refine SG ?_ | refine SF ?_) | (refine M4 ?_; refine SR ?_) | (refine M5 ?_; first | exact M7 | refine YM ?_ | refine YN ?_ ?_)))
      refine XL.entM tok 7 twnF rfl rfl rfl Tryz.underlying100 rfl hz4.st ⟨_, rfl⟩ rfl (fun _ _ => rfl) (fun est7 nst7 b9 hm9 hb9 => ?_)
      repeat (first | (refine M0 ?_; first | refine SL ?_ | refine SB fun _ _ => ?_) | (refine M2 ?_; refine SE ?_) | (refine M3 ?_; first | refine SG ?_ | refine SF ?_) | (refine M4 ?_; refine SR ?_) | (refine M5 ?_; first | exact M7 | refine YM ?_ | refine YN ?_ ?_))
      refine z7 (hn := hnd4) ?_
      repeat (any_goals (first | (refine M0 ?_; first | refine SL ?_ | refine SB fun _ _ => ?_) | (refine M1 ?_; refine SC ?_) | (refine M2 ?_; refine SE ?_) | (refine M3 ?_; first | refine SG ?_ | refine SF ?_) | (refine M4 ?_; refine SR ?_) | (refine M5 ?_; first | exact M7 | refine YM ?_ | refine YN ?_ ?_)))
      refine XL.stoM 7 rfl rfl rfl rfl hm9 hb9 (fun _ _ => rfl) (fun est8 nst8 hm10 => ?_)
      rw [upd_upd, hsv, stF_put] at hm10
      repeat (first | (refine M0 ?_; first | refine SL ?_ | refine SB fun _ _ => ?_) | (refine M2 ?_; refine SE ?_) | (refine M3 ?_; first | refine SG ?_ | refine SF ?_) | (refine M4 ?_; refine SR ?_) | (refine M5 ?_; first | exact M7 | refine YM ?_ | refine YN ?_ ?_))
      refine z7 (hn := hnd4) ?_
      repeat (first | (refine M0 ?_; first | refine SL ?_ | refine SB fun _ _ => ?_) | (refine M2 ?_; refine SE ?_) | (refine M3 ?_; first | refine SG ?_ | refine SF ?_) | (refine M4 ?_; refine SR ?_) | (refine M5 ?_; first | exact M7 | refine YM ?_ | refine YN ?_ ?_))
      refine XE.onlyN ?_
      repeat (first | (refine M0 ?_; first | refine SL ?_ | refine SB fun _ _ => ?_) | (refine XI.id ?_; first | refine XI.done ?_ | refine XI.one1 rfl ?_) | (refine XR'.id ?_; first | refine XR'.seq ?_ | refine XR'.region ?_ | refine XR'.block ?_ | refine XR'.skip ?_ | refine XR'.ret ?_ | refine XR'.cond_t rfl ?_ | refine XR'.cond_f rfl ?_ | refine XR'.exit ?_) | (refine M1 ?_; first | refine SC ?_ | refine SD ?_) | (refine M2 ?_; first | refine XE.nextI ?_ | refine XE.nextR ?_ | refine SE ?_))
      refine XE.endRet (i := 1) rfl rfl (fun w' S => ?_)
      refine ⟨_, rfl, false, rfl, ⟨w', etr5, ntr5, etk8, ntk8, est8, nst8, (s :: z4.1, Mps.put z4.2 s i), true, .done, some .ret⟩, ?_, S.rebase (.cons _ (List.sublist_append_left [_, _, _, _, _, _, _] _))⟩
      rw [if_neg (by simp)]
      exact ⟨⟨rfl, rfl, rfl⟩, Kp3.sysC hK4 S (hM8 _ _ _ _ _ _ _ _), ⟨hm5, hm8, hm10, InM.put hz4.inm hi hsin⟩, hg4.symm⟩
    | some o =>
      have hf5 : tkF z4.2 (.agg ⟨[.int .i64 (cn : Int), .int .i64 ps, .int .i64 (k : Nat)]⟩) = some (.int .i64 (o : Nat)) := by rw [hsv, tkF_at, htk]; rfl
      refine XR'.drawRS W4 _ [0, 1, 2, 3, 4, 5, 6, 7, 8] [9, 10] mixed (fun _ h => h) rfl rfl (by kernel_rfl) ?_
      repeat (first | (refine M0 ?_; first | refine SL ?_ | refine SB fun _ _ => ?_ | refine Y4 (Ev.load_at tok 8 (g := gp) (o := 0) (j := 3) rfl rfl rfl rfl) ?_ | refine Y4 (Ev.lookY2 tok 6 seaF rfl rfl rfl Tryz.underlying99 rfl hz4.tk hkey hf5) ?_) | (refine M2 ?_; refine SE ?_) | (refine M3 ?_; first | refine SG ?_ | refine SF ?_ | refine YF (Ev.load_at tok 8 (g := gp) (o := 0) (j := 3) rfl rfl rfl rfl) ?_ | refine YF (Ev.lookY2 tok 6 seaF rfl rfl rfl Tryz.underlying99 rfl hz4.tk hkey hf5) ?_) | (refine M4 ?_; refine SR ?_) | (refine M5 ?_; first | exact M7 | refine YM ?_ | refine YN ?_ ?_))
      refine XE.onlyN ?_
      cases hfx : fx o with
      | true =>
        have hfxv : ((fxF fx) (.int .i64 (o : Nat))).getD (.bool false) = .bool true := by rw [fxF_at, hfx]; rfl
        repeat (first | (refine M0 ?_; first | refine SL ?_ | refine SB fun _ _ => ?_ | refine Y4 (Ev.look1 tok 13 twnF rfl rfl rfl Tryz.underlying103 rfl hF ⟨_, rfl⟩ hfxv) ?_) | (refine XI.id ?_; first | refine XI.done ?_ | refine XI.one1 rfl ?_) | (refine XR'.id ?_; first | refine XR'.seq ?_ | refine XR'.region ?_ | refine XR'.block ?_ | refine XR'.skip ?_ | refine XR'.ret ?_ | refine XR'.cond_t rfl ?_ | refine XR'.cond_f rfl ?_ | refine XR'.exit ?_) | (refine M1 ?_; first | refine SC ?_ | refine SD ?_) | (refine M2 ?_; first | refine XE.nextI ?_ | refine XE.nextR ?_ | refine SE ?_))
        refine XI.guard_n rfl ?_ rfl
        repeat (first | (refine M0 ?_; first | refine SL ?_ | refine SB fun _ _ => ?_) | (refine XI.id ?_; first | refine XI.done ?_ | refine XI.one1 rfl ?_) | (refine XR'.id ?_; first | refine XR'.seq ?_ | refine XR'.region ?_ | refine XR'.block ?_ | refine XR'.skip ?_ | refine XR'.ret ?_ | refine XR'.cond_t rfl ?_ | refine XR'.cond_f rfl ?_ | refine XR'.exit ?_) | (refine M1 ?_; first | refine SC ?_ | refine SD ?_) | (refine M2 ?_; first | refine XE.nextI ?_ | refine XE.nextR ?_ | refine SE ?_))
        rw [goS_3 hct htk hfx] at hg4
        exact XE.round (s := (k, xx, (⟨W4, etr4, ntr4, etk4, ntk4, est4, nst4, z4, b4, st4, pe4⟩ : Mz))) (k + 1, (k : Int), ⟨W4, etr5, ntr5, etk4, ntk4, est4, nst4, (s :: z4.1, z4.2), b4, st4, pe4⟩) ⟨hkr, hK4, ⟨hm5, hz4.tk, hz4.st, hz4.inm⟩, by simp only; omega, hg4⟩ (by simp only; omega) ZZSUB (fun _ h => h)
      | false =>
        have hfxv : ((fxF fx) (.int .i64 (o : Nat))).getD (.bool false) = .bool false := by rw [fxF_at, hfx]; rfl
        have how := hz4.inm.tk s o htk
        have hmin : InM t.wet (mv o (s :: z4.1, z4.2)).2.2 ∧ ∀ y, y ∈ s :: z4.1 → y ∈ (mv o (s :: z4.1, z4.2)).2.1 := by
          rw [hmv]
          exact move_in (fun j hj => seas_in hO hnow (List.mem_range.1 (List.mem_filter.1 hj).1)) f o (s :: z4.1, z4.2) how hz4.inm
        have hl6 : left U (mv o (s :: z4.1, z4.2)).2.1 ≤ left U (s :: z4.1) := left_le hmin.2
        repeat (first | (refine M0 ?_; first | refine SL ?_ | refine SB fun _ _ => ?_ | refine Y4 (Ev.look1 tok 13 twnF rfl rfl rfl Tryz.underlying103 rfl hF ⟨_, rfl⟩ hfxv) ?_) | (refine XI.id ?_; first | refine XI.done ?_ | refine XI.one1 rfl ?_) | (refine XR'.id ?_; first | refine XR'.seq ?_ | refine XR'.region ?_ | refine XR'.block ?_ | refine XR'.skip ?_ | refine XR'.ret ?_ | refine XR'.cond_t rfl ?_ | refine XR'.cond_f rfl ?_ | refine XR'.exit ?_) | (refine M1 ?_; first | refine SC ?_ | refine SD ?_) | (refine M2 ?_; first | refine XE.nextI ?_ | refine XE.nextR ?_ | refine SE ?_))
        refine XI.guard_y rfl ?_
        refine XI.one rfl ?_
        refine XL.callr (fst := []) (cap := [.pointer (some ⟨g3, 0, none⟩), .pointer (some ⟨g7, 0, none⟩), .pointer (some ⟨g5, 0, none⟩), .pointer (some ⟨g8, 0, none⟩)]) (fun w5 vv w6 => vv = .bool (mv o (s :: z4.1, z4.2)).1 ∧ ∃ etr' ntr' etk' ntk' est' nst', MzIs t.wet etr' ntr' etk' ntk' est' nst' (mv o (s :: z4.1, z4.2)).2 ∧ Sys B w5 [(mtr, mapE etr' ntr'), (mt, mapE etk' ntk'), (ms, mapE est' nst')] w6) (ck rfl) rfl rfl rfl (fun w5 S5 => ?_) (fun w5 vv w6 S5 hR => ?_)
        · have hK5 := hK4.sysC S5 (hM8 _ _ _ _ _ _ _ _)
          have h9 := IH (w := w5) (i := o) (z := (s :: z4.1, z4.2)) (hbas hK5) (S5.rebase (.cons _ (.cons _ (.cons _ (.cons _ (.cons _ (List.Sublist.refl _))))))) ⟨hm5, hz4.tk, hz4.st, hz4.inm⟩ how (by rw [← hU]; simp only; omega)
          rw [← hmv] at h9
          exact h9
        obtain ⟨rfl, etr6, ntr6, etk6, ntk6, est6, nst6, hz6, S6'⟩ := hR
        refine ⟨_, w6, Sys.chg3 S5 5 6 7 rfl rfl rfl rfl rfl rfl S6', ?_⟩
        have hK6 := (hK4.sysC S5 (hM8 _ _ _ _ _ _ _ _)).sys S6' fun e he => .inl (List.mem_append_right [D + 1, D, gr, ga] (show e.1 ∈ [mtr, mt, ms] from List.mem_map.2 ⟨e, he, rfl⟩))
        have hBW : Below B w6 w6 := Below.refl _ _
        have hleW : B ≤ w6.heap.size := Nat.le_trans hSB (Nat.le_trans hKw.size hK6.size)
        cases hbm : (mv o (s :: z4.1, z4.2)).1 with
        | false =>
          repeat (first | (refine M0 ?_; first | refine SL ?_ | refine SB fun _ _ => ?_) | (refine XI.id ?_; first | refine XI.done ?_ | refine XI.one1 rfl ?_) | (refine XR'.id ?_; first | refine XR'.seq ?_ | refine XR'.region ?_ | refine XR'.block ?_ | refine XR'.skip ?_ | refine XR'.ret ?_ | refine XR'.cond_t rfl ?_ | refine XR'.cond_f rfl ?_ | refine XR'.exit ?_) | (refine M1 ?_; first | refine SC ?_ | refine SD ?_) | (refine M2 ?_; first | refine XE.nextI ?_ | refine XE.nextR ?_ | refine SE ?_))
          rw [goS_5 hct htk hfx hbm] at hg4
          exact XE.round (s := (k, xx, (⟨W4, etr4, ntr4, etk4, ntk4, est4, nst4, z4, b4, st4, pe4⟩ : Mz))) (k + 1, (k : Int), ⟨w6, etr6, ntr6, etk6, ntk6, est6, nst6, (mv o (s :: z4.1, z4.2)).2, b4, st4, pe4⟩) ⟨hkr, hK6, hz6, by simp only; omega, hg4⟩ (by simp only; omega) ZZSUB (fun _ h => h)
        | true =>
          rw [goS_4 hct htk hfx hbm] at hg4
          repeat (first | (refine M0 ?_; first | refine SL ?_ | refine SB fun _ _ => ?_) | (refine XI.id ?_; first | refine XI.done ?_ | refine XI.one1 rfl ?_) | (refine XR'.id ?_; first | refine XR'.seq ?_ | refine XR'.region ?_ | refine XR'.block ?_ | refine XR'.skip ?_ | refine XR'.ret ?_ | refine XR'.cond_t rfl ?_ | refine XR'.cond_f rfl ?_ | refine XR'.exit ?_) | (refine M1 ?_; first | refine SC ?_ | refine SD ?_) | (refine M2 ?_; first | refine XE.nextI ?_ | refine XE.nextR ?_ | refine SE ?_))
          refine XR'.drawRS (trunc w6 B) [(gs, cel 109 [.int .i64 (cn : Int), .int .i64 ps, .int .i64 (k : Nat)]), (ga, cel 3 [.int .i64 (i : Nat)]), (gp, cel 102 [.pointer (some ⟨gb, 0, none⟩), .int .i64 now, .slice rT.A rT.n rT.c, .map (some mt), .map (some ms)]), (g3, cel 97 [.pointer (some ⟨gp, 0, none⟩)])] [0, 1, 2, 3, 4, 5, 6, 7, 8, 9, 10, 11] [12, 13, 14, 15, 16, 17] mixed (fun _ h => Sys.anchorT hBW h (mem4S _ _ _ _ _ _ _ _ _ _ _ _ _ _) hnd4 hleW) rfl rfl (by kernel_rfl) ?_
          repeat (any_goals (first | (refine M0 ?_; first | refine SL ?_ | refine SB fun _ _ => ?_ | refine Y4 (Ev.load_loc tok 3 (g := g3) (o := 0) rfl rfl rfl rfl) ?_ | refine Y4 (Ev.load_at tok 2 (g := gp) (o := 0) (j := 3) rfl rfl rfl rfl) ?_ | refine Y4 (Ev.load_at tok 2 (g := gp) (o := 0) (j := 4) rfl rfl rfl rfl) ?_ | refine Y4 (Ev.load_loc tok 1 (g := ga) (o := 0) rfl rfl rfl rfl) ?_ | refine Y4 (Ev.load_loc_agg tok 0 (g := gs) (o := 0) (n := 3) rfl rfl rfl rfl) ?_) | (refine M1 ?_; refine SC ?_) | (refine M2 ?_; refine SE ?_) | (refine M3 ?_; first | refine SG ?_ | refine SF ?_ | refine YF (Ev.load_loc tok 3 (g := g3) (o := 0) rfl rfl rfl rfl) ?_ | refine YF (Ev.load_at tok 2 (g := gp) (o := 0) (j := 3) rfl rfl rfl rfl) ?_ | refine YF (Ev.load_at tok 2 (g := gp) (o := 0) (j := 4) rfl rfl rfl rfl) ?_ | refine YF (Ev.load_loc tok 1 (g := ga) (o := 0) rfl rfl rfl rfl) ?_ | refine YF (Ev.load_loc_agg tok 0 (g := gs) (o := 0) (n := 3) rfl rfl rfl rfl) ?_) | (refine M4 ?_; refine SR ?_) | (refine M5 ?_; first | exact M7 | refine YM ?_ | refine YN ?_ ?_)))
          refine XL.entM tok 6 seaF rfl rfl rfl Tryz.underlying99 rfl hz6.tk hkey rfl (fun _ _ => rfl) (fun etk7 ntk7 b7 hm7 hb7 => ?_)
          repeat (first | (refine M0 ?_; first | refine SL ?_ | refine SB fun _ _ => ?_) | (refine M2 ?_; refine SE ?_) | (refine M3 ?_; first | refine SG ?_ | refine SF ?_) | (refine M4 ?_; refine SR ?_) | (refine M5 ?_; first | exact M7 | refine YM ?_ | refine YN ?_ ?_))
          refine z7 (hn := hnd4) ?_
          repeat (any_goals (first | (refine M0 ?_; first | refine SL ?_ | refine SB fun _ _ => ?_) | (refine M1 ?_; refine SC ?_) | (refine M2 ?_; refine SE ?_) | (refine M3 ?_; first | refine SG ?_ | refine SF ?_) | (refine M4 ?_; refine SR ?_) | (refine M5 ?_; first | exact M7 | refine YM ?_ | refine YN ?_ ?_)))
          refine XL.stoM 6 rfl rfl rfl rfl hm7 hb7 (fun _ _ => rfl) (fun etk8 ntk8 hm8 => ?_)
          rw [upd_upd, hsv, tkF_put] at hm8
          repeat (first | (refine M0 ?_; first | refine SL ?_ | refine SB fun _ _ => ?_) | (refine M2 ?_; refine SE ?_) | (refine M3 ?_; first | refine SG ?_ | refine SF ?_) | (refine M4 ?_; refine SR ?_) | (refine M5 ?_; first | exact M7 | refine YM ?_ | refine YN ?_ ?_))
          refine z7 (hn := hnd4) ?_
          repeat (any_goals (first | (refine M0 ?_; first | refine SL ?_ | refine SB fun _ _ => ?_) | (refine M1 ?_; refine SC ?_) | (refine M2 ?_; refine SE ?_) | (refine M3 ?_; first | refine SG ?_ | refine SF ?_) | (refine M4 ?_; refine SR ?_) | (refine M5 ?_; first | exact M7 | refine YM ?_ | refine YN ?_ ?_)))
          refine XL.entM tok 7 twnF rfl rfl rfl Tryz.underlying100 rfl hz6.st ⟨_, rfl⟩ rfl (fun _ _ => rfl) (fun est7 nst7 b9 hm9 hb9 => ?_)
          repeat (first | (refine M0 ?_; first | refine SL ?_ | refine SB fun _ _ => ?_) | (refine M2 ?_; refine SE ?_) | (refine M3 ?_; first | refine SG ?_ | refine SF ?_) | (refine M4 ?_; refine SR ?_) | (refine M5 ?_; first | exact M7 | refine YM ?_ | refine YN ?_ ?_))
          refine z7 (hn := hnd4) ?_
          repeat (any_goals (first | (refine M0 ?_; first | refine SL ?_ | refine SB fun _ _ => ?_) | (refine M1 ?_; refine SC ?_) | (refine M2 ?_; refine SE ?_) | (refine M3 ?_; first | refine SG ?_ | refine SF ?_) | (refine M4 ?_; refine SR ?_) | (refine M5 ?_; first | exact M7 | refine YM ?_ | refine YN ?_ ?_)))
          refine XL.stoM 7 rfl rfl rfl rfl hm9 hb9 (fun _ _ => rfl) (fun est8 nst8 hm10 => ?_)
          rw [upd_upd, hsv, stF_put] at hm10
          repeat (first | (refine M0 ?_; first | refine SL ?_ | refine SB fun _ _ => ?_) | (refine M2 ?_; refine SE ?_) | (refine M3 ?_; first | refine SG ?_ | refine SF ?_) | (refine M4 ?_; refine SR ?_) | (refine M5 ?_; first | exact M7 | refine YM ?_ | refine YN ?_ ?_))
          refine z7 (hn := hnd4) ?_
          repeat (first | (refine M0 ?_; first | refine SL ?_ | refine SB fun _ _ => ?_) | (refine M2 ?_; refine SE ?_) | (refine M3 ?_; first | refine SG ?_ | refine SF ?_) | (refine M4 ?_; refine SR ?_) | (refine M5 ?_; first | exact M7 | refine YM ?_ | refine YN ?_ ?_))
          refine XE.onlyN ?_
          repeat (first | (refine M0 ?_; first | refine SL ?_ | refine SB fun _ _ => ?_) | (refine XI.id ?_; first | refine XI.done ?_ | refine XI.one1 rfl ?_) | (refine XR'.id ?_; first | refine XR'.seq ?_ | refine XR'.region ?_ | refine XR'.block ?_ | refine XR'.skip ?_ | refine XR'.ret ?_ | refine XR'.cond_t rfl ?_ | refine XR'.cond_f rfl ?_ | refine XR'.exit ?_) | (refine M1 ?_; first | refine SC ?_ | refine SD ?_) | (refine M2 ?_; first | refine XE.nextI ?_ | refine XE.nextR ?_ | refine SE ?_))
          refine XE.endRet (i := 1) rfl rfl (fun w' S => ?_)
          refine ⟨_, rfl, false, rfl, ⟨w', etr6, ntr6, etk8, ntk8, est8, nst8, ((mv o (s :: z4.1, z4.2)).2.1, Mps.put (mv o (s :: z4.1, z4.2)).2.2 s i), true, .done, some .ret⟩, ?_, S.rebase (.cons _ (List.sublist_append_left [_, _, _, _, _, _, _] _))⟩
          rw [if_neg (by simp)]
          exact ⟨⟨rfl, rfl, rfl⟩, Kp3.sysC hK6 S (hM8 _ _ _ _ _ _ _ _), ⟨hz6.tr, hm8, hm10, InM.put hz6.inm hi hsin⟩, hg4.symm⟩
end X
namespace X
open Go Go.RowKit Bs
theorem permAt {α : Type} : ∀ {l r : List α} {a : α} (n : Nat), l[n]? = some a → List.Perm (l.eraseIdx n) r → List.Perm l (a :: r) := by
  intro l
  induction l with
  | nil => intro r a n h; cases h
  | cons x l ih =>
    intro r a n h k
    cases n with
    | zero => simp at h; subst h; exact k.cons x
    | succ n =>
      simp only [List.getElem?_cons_succ] at h
      simp only [List.eraseIdx_cons_succ] at k
      exact ((ih n h (List.Perm.refl _)).cons x).trans ((List.Perm.swap a x _).trans (k.cons a))
theorem settle1_all {B gp gb mt ms mtr mf g3 g7 g5 g8 : Nat} {now : Int} {v : ATV} {t : ATk} {q r rT : SV} {fx : Nat → Bool} {esf : List MapEntry} {nf : Nat} (hF : MapIs intV esf nf (fxF fx)) : ∀ f, MvC B gp gb mt ms mtr mf g3 g7 g5 g8 now v t q r rT fx esf nf f
  | 0 => fun _ _ _ _ h => absurd h (Nat.not_lt_zero _)
  | f + 1 => settle1_step hF (settle1_all hF f)
abbrev plnO (gp gb : Nat) (now : Int) (rT : SV) (mt ms : Nat) : Nat × Obj := (gp, cel 102 [.pointer (some ⟨gb, 0, none⟩), .int .i64 now, .slice rT.A rT.n rT.c, .map (some mt), .map (some ms)])
structure PzIs (l : List Nat) (etk : List MapEntry) (ntk : Nat) (est : List MapEntry) (nst : Nat) (m : Mps) : Prop where
  tk : MapIs keyS etk ntk (tkF m)
  st : MapIs intV est nst (stF m)
  inm : InM l m
set_option maxHeartbeats 16000000 in
set_option maxRecDepth 10000 in
theorem settle_any {B gp gb mt ms mf i : Nat} {now : Int} {v : ATV} {t : ATk} {q r rT : SV} {fx : Nat → Bool} {etk est esf : List MapEntry} {ntk nst nf : Nat} {m : Mps} {w : World} (hb : PBas w B gb now v t q r rT)
    (S : Sys B w [(mt, mapE etk ntk), (ms, mapE est nst), plnO gp gb now rT mt ms, (mf, mapE esf nf)] w) (hF : MapIs intV esf nf (fxF fx)) (hz : PzIs t.wet etk ntk est nst m) (hi : i ∈ t.wet) :
    Calls Tryz.prog 27 #[.pointer (some ⟨gp, 0, none⟩), .int .i64 (i : Nat), .map (some mf)] w fun e w' =>
      ∃ vv, e = .returned vv ∧ vv = .bool (Bs.settle fx (t.seas now t.wet.length) t.wet i m).1 ∧ ∃ etk' ntk' est' nst', PzIs t.wet etk' ntk' est' nst' (Bs.settle fx (t.seas now t.wet.length) t.wet i m).2 ∧ Sys B w [(mt, mapE etk' ntk'), (ms, mapE est' nst')] w' := by
  simp only [plnO] at S
  have hSB := S.base
  have hnd2 : [mt, ms].Nodup := S.nd.sublist (List.sublist_append_left [mt, ms] [gp, mf])
  refine enterL Tryz.func27 rfl Tryz.ntmps27 rfl (S) ?_; simp only [frame, Nat.zero_add, Nat.reduceAdd]
  repeat (first | (refine M0 ?_; first | refine SL ?_ | refine SB fun _ _ => ?_) | (refine M1 ?_; refine SC ?_) | (refine M2 ?_; refine SE ?_))
  rename_i g3 hg3 g5 hg5
  refine XL.makeMap rfl fun mtr hmtr => ?_
  repeat (first | (refine M0 ?_; first | refine SL ?_ | refine SB fun _ _ => ?_) | (refine M1 ?_; refine SC ?_) | (refine M2 ?_; refine SE ?_))
  rename_i g7 hg7 g8 hg8
  repeat (first | (refine M0 ?_; first | refine SL ?_ | refine SB fun _ _ => ?_ | refine Y4 (Ev.makeFunc rfl rfl) ?_) | (refine M1 ?_; refine SC ?_) | (refine M2 ?_; refine SE ?_))
  have hM9 : ∀ (o1 o2 o3 o4 o5 o6 o7 : Obj) (e : Nat × Obj), e ∈ [(g8, o1), (g7, o2), (mtr, o3), (g5, o4), (g3, o5), (mt, o6), (ms, o7), plnO gp gb now rT mt ms, (mf, mapE esf nf)] → e.1 ∈ [mt, ms] ∨ w.heap.size ≤ e.1 ∨ w.heap[e.1]? = some e.2 := fun o1 o2 o3 o4 o5 o6 o7 e he => by
    rcases List.mem_cons.1 he with rfl | he
    · exact .inr (.inl hg8)
    rcases List.mem_cons.1 he with rfl | he
    · exact .inr (.inl hg7)
    rcases List.mem_cons.1 he with rfl | he
    · exact .inr (.inl hmtr)
    rcases List.mem_cons.1 he with rfl | he
    · exact .inr (.inl hg5)
    rcases List.mem_cons.1 he with rfl | he
    · exact .inr (.inl hg3)
    rcases List.mem_cons.1 he with rfl | he
    · exact .inl (.head _)
    rcases List.mem_cons.1 he with rfl | he
    · exact .inl (.tail _ (.head _))
    · exact .inr (.inr (S.own e (.tail _ (.tail _ he))).2)
  have hkB : ∀ k, k ∈ [mt, ms] → B ≤ k := fun k hk => by
    rcases List.mem_cons.1 hk with rfl | hk
    · exact (S.own _ (.head _)).1
    · rw [List.mem_singleton.1 hk]; exact (S.own _ (.tail _ (.head _))).1
  have hfl : left (t.wet.flatMap (t.seas now t.wet.length)) [] < fuel (t.seas now t.wet.length) t.wet := by
    unfold left fuel
    have := List.length_filter_le (fun s => !([] : List Sea).contains s) (t.wet.flatMap (t.seas now t.wet.length))
    omega
  have htr : MapIs keyS [] 0 (trF []) := by rw [← trF_nil]; exact MapIs.nil
  refine XL.callr (fst := []) (cap := [.pointer (some ⟨g3, 0, none⟩), .pointer (some ⟨g7, 0, none⟩), .pointer (some ⟨g5, 0, none⟩), .pointer (some ⟨g8, 0, none⟩)]) (fun w5 vv w6 => vv = .bool (Bs.settle fx (t.seas now t.wet.length) t.wet i m).1 ∧ ∃ etr' ntr' etk' ntk' est' nst', MzIs t.wet etr' ntr' etk' ntk' est' nst' (Bs.move fx (t.seas now t.wet.length) (fuel (t.seas now t.wet.length) t.wet) i ([], m)).2 ∧ Sys B w5 [(mtr, mapE etr' ntr'), (mt, mapE etk' ntk'), (ms, mapE est' nst')] w6) (ck rfl) rfl rfl rfl (fun w5 S5 => ?_) (fun w5 vv w6 S5 hR => ?_)
  · have hK5 := Kp3.refl.sysC S5 (hM9 _ _ _ _ _ _ _)
    exact settle1_all hF _ (w := w5) (i := i) (z := ([], m)) (hb.below (hK5.below S.base hkB)) ((S5.rebase (List.Sublist.refl _)).perm (permAt 2 rfl (permAt 4 rfl (permAt 4 rfl (permAt 4 rfl (permAt 3 rfl (permAt 1 rfl (permAt 1 rfl (List.Perm.refl _))))))))) ⟨htr, hz.tk, hz.st, hz.inm⟩ hi hfl
  obtain ⟨rfl, etr6, ntr6, etk6, ntk6, est6, nst6, hz6, S6'⟩ := hR
  refine ⟨_, w6, Sys.chg3 S5 2 5 6 rfl rfl rfl rfl rfl rfl S6', ?_⟩
  have hK6 := (Kp3.refl.sysC S5 (hM9 _ _ _ _ _ _ _)).sys S6' fun e he => by
    rcases List.mem_cons.1 he with rfl | he
    · exact .inr hmtr
    · exact .inl (show e.1 ∈ [mt, ms] from List.mem_map.2 ⟨e, he, rfl⟩)
  repeat (first | (refine M0 ?_; first | refine SL ?_ | refine SB fun _ _ => ?_) | (refine M1 ?_; refine SC ?_) | (refine M2 ?_; refine SE ?_))
  refine XE.retg tok Tryz.results27 rfl (by simp only [and_self, and_true]) (fun w' S => ?_)
  have hK7 := hK6.sysC S (hM9 _ _ _ _ _ _ _)
  exact ⟨_, rfl, rfl, etk6, ntk6, est6, nst6, ⟨hz6.tk, hz6.st, hz6.inm⟩, hK7.end_ hSB (fun e he => S.own e (.tail _ (.tail _ (.tail _ (.tail _ (.tail _ (List.mem_append_left [_, _] he))))))) hnd2 fun k _ hk => hk⟩
end X
namespace X
open Go Go.RowKit Bs
structure CpI (es : List MapEntry) (f : Value → Option Value) (seen : Array Nat) (fa : Value → Option Value) : Prop where
  yes : ∀ e, e ∈ es → seen.contains e.born = true → fa e.key = f e.key
  no : ∀ k, (∀ e, e ∈ es → e.key = k → seen.contains e.born = false) → fa k = none
section
variable {K : Value → Prop} {es : List MapEntry} {n : Nat} {f fa : Value → Option Value} {seen : Array Nat}
theorem CpI.start : CpI es f #[] fun _ => none := ⟨fun e _ h => by simp at h, fun _ _ => rfl⟩
theorem CpI.done (h : CpI es f seen fa) (hm : MapIs K es n f) (ha : ∀ e, e ∈ es → seen.contains e.born = true) : fa = f := by
  funext k
  by_cases hk : ∃ e, e ∈ es ∧ e.key = k
  · obtain ⟨e, he, rfl⟩ := hk
    exact h.yes e he (ha e he)
  · rw [h.no k fun e he e1 => absurd ⟨e, he, e1⟩ hk, hm.none fun e he e1 => hk ⟨e, he, e1⟩]
theorem CpI.next {e : MapEntry} (h : CpI es f seen fa) (hm : MapIs K es n f) (he : e ∈ es) : CpI es f (seen.push e.born) (upd fa e.key (some e.val)) := by
  refine ⟨fun x hx hs => ?_, fun k hk => ?_⟩
  · unfold upd
    by_cases e1 : x.key = e.key
    · rw [if_pos e1, e1, hm.val e he]
    · rw [if_neg e1]
      refine h.yes x hx ?_
      simp only [Array.contains_push, Bool.or_eq_true, beq_iff_eq] at hs
      rcases hs with hs | hs
      · exact hs
      · obtain ⟨i, hi⟩ := List.getElem?_of_mem hx
        obtain ⟨j, hj⟩ := List.getElem?_of_mem he
        have := hm.inj hi hj (.inl hs)
        subst this
        rw [hi] at hj
        cases hj
        exact absurd rfl e1
  · unfold upd
    have h1 : k ≠ e.key := fun e1 => by
      have := hk e he e1.symm
      simp [Array.contains_push] at this
    rw [if_neg h1]
    refine h.no k fun x hx e1 => ?_
    have := hk x hx e1
    simp only [Array.contains_push, Bool.or_eq_false_iff] at this
    exact this.1
def leftC (es : List MapEntry) (seen : Array Nat) : Nat := (es.filter fun e => !seen.contains e.born).length
theorem leftC_lt {e : MapEntry} (he : e ∈ es) (hs : seen.contains e.born = false) : leftC es (seen.push e.born) < leftC es seen := by
  unfold leftC
  induction es with
  | nil => cases he
  | cons x r ih =>
    have hle : (r.filter fun y => !(seen.push e.born).contains y.born).length ≤ (r.filter fun y => !seen.contains y.born).length := by
      have hh : ∀ l : List MapEntry, (l.filter fun y => !(seen.push e.born).contains y.born).length ≤ (l.filter fun y => !seen.contains y.born).length := by
        intro l
        induction l with
        | nil => exact Nat.le_refl _
        | cons y l ihl =>
          simp only [List.filter_cons]
          cases h1 : seen.contains y.born with
          | true =>
            have h2 : (seen.push e.born).contains y.born = true := by rw [Array.contains_push, h1]; rfl
            simp only [h2, Bool.not_true, Bool.false_eq_true, if_false]
            exact ihl
          | false =>
            simp only [Bool.not_false, if_true, List.length_cons]
            cases h2 : (seen.push e.born).contains y.born with
            | true => simp only [Bool.not_true, Bool.false_eq_true, if_false]; omega
            | false => simp only [Bool.not_false, if_true, List.length_cons]; omega
      exact hh r
    simp only [List.filter_cons]
    rcases List.mem_cons.1 he with rfl | he
    · have h2 : (seen.push e.born).contains e.born = true := by rw [Array.contains_push]; simp
      simp only [h2, hs, Bool.not_true, Bool.not_false, Bool.false_eq_true, if_false, if_true, List.length_cons]
      omega
    · have h3 := ih he
      cases h1 : seen.contains x.born with
      | true =>
        have h2 : (seen.push e.born).contains x.born = true := by rw [Array.contains_push, h1]; rfl
        simp only [h2, Bool.not_true, Bool.false_eq_true, if_false]
        exact h3
      | false =>
        simp only [Bool.not_false, if_true, List.length_cons]
        cases h2 : (seen.push e.born).contains x.born with
        | true => simp only [Bool.not_true, Bool.false_eq_true, if_false]; omega
        | false => simp only [Bool.not_false, if_true, List.length_cons]; omega
end
theorem tk_ent {es : List MapEntry} {n : Nat} {m : Mps} {e : MapEntry} (hm : MapIs keyS es n (tkF m)) (he : e ∈ es) : ∃ (s : Sea) (o : Nat), e.key = seaV s ∧ e.val = .int .i64 (o : Nat) := by
  have h1 := hm.val e he
  by_cases h : ∃ s, e.key = seaV s
  · obtain ⟨s, hs⟩ := h
    rw [hs, tkF_at] at h1
    cases h2 : m.tk s with
    | none => rw [h2] at h1; cases h1
    | some o => rw [h2] at h1; exact ⟨s, o, hs, (Option.some.inj h1).symm⟩
  · rw [tkF_no m fun s e1 => h ⟨s, e1⟩] at h1
    cases h1
theorem st_ent {es : List MapEntry} {n : Nat} {m : Mps} {e : MapEntry} (hm : MapIs intV es n (stF m)) (he : e ∈ es) : ∃ (i : Nat) (s : Sea), e.key = .int .i64 (i : Nat) ∧ e.val = seaV s := by
  have h1 := hm.val e he
  by_cases h : ∃ i : Nat, e.key = .int .i64 (i : Nat)
  · obtain ⟨i, hi⟩ := h
    rw [hi, stF_at] at h1
    cases h2 : m.st i with
    | none => rw [h2] at h1; cases h1
    | some s => rw [h2] at h1; exact ⟨i, s, hi, (Option.some.inj h1).symm⟩
  · rw [stF_no m fun i e1 => h ⟨i, e1⟩] at h1
    cases h1
section
variable {B : Nat} {L : Lo} {w w' w0 : World}
theorem Sys.chg2 {L3 L4 : Lo} (S : Sys B w0 L w) (i j : Nat) {a b : Nat} {o1 o2 p1 p2 : Obj} (h1 : L[i]? = some (a, o1)) (h2 : L[j]? = some (b, o2)) (e1 : setN L i (a, p1) = some L3) (e2 : setN L3 j (b, p2) = some L4)
    (S' : Sys B w [(a, p1), (b, p2)] w') : Sys B w' L4 w' := by
  obtain ⟨rfl, hl1⟩ := setN_spec _ _ _ _ e1
  obtain ⟨rfl, hl2⟩ := setN_spec _ _ _ _ e2
  have hab := S'.nd
  simp only [List.map_cons, List.map_nil, List.nodup_cons, List.mem_cons, List.not_mem_nil, or_false, not_or] at hab
  have hij : i ≠ j := fun e => by subst e; rw [h1] at h2; injection h2 with h2; exact hab.1 (congrArg Prod.fst h2)
  have hmap : ((L.set i (a, p1)).set j (b, p2)).map (·.1) = L.map (·.1) := by
    apply List.ext_getElem?
    intro n
    simp only [List.getElem?_map, List.getElem?_set, List.length_set]
    by_cases n2 : j = n
    · subst n2; rw [h2]; simp [(List.getElem?_eq_some_iff.1 h2).1]
    · by_cases n3 : i = n
      · subst n3; rw [h1]; simp [n2, (List.getElem?_eq_some_iff.1 h1).1]
      · simp [n2, n3]
  refine Sys.start (Nat.le_trans S'.base S'.size) (fun e he => ?_) (by rw [hmap]; exact S.nd)
  have hn : (((L.set i (a, p1)).set j (b, p2)).map (·.1)).Nodup := by rw [hmap]; exact S.nd
  have m2 : (b, p2) ∈ ((L.set i (a, p1)).set j (b, p2)) := List.mem_of_getElem? (i := j) (by rw [List.getElem?_set_self (by simpa using (List.getElem?_eq_some_iff.1 h2).1)])
  have m1 : (a, p1) ∈ ((L.set i (a, p1)).set j (b, p2)) := List.mem_of_getElem? (i := i) (by rw [List.getElem?_set_ne (Ne.symm hij), List.getElem?_set_self (List.getElem?_eq_some_iff.1 h1).1])
  by_cases ka : e.1 = a
  · obtain rfl := key_inj hn he m1 ka; exact S'.own _ (.head _)
  by_cases kb : e.1 = b
  · obtain rfl := key_inj hn he m2 kb; exact S'.own _ (.tail _ (.head _))
  have hel : e ∈ L := by
    rcases List.mem_or_eq_of_mem_set he with he | rfl
    · rcases List.mem_or_eq_of_mem_set he with he | rfl
      · exact he
      · exact absurd rfl ka
    · exact absurd rfl kb
  refine ⟨(S.own e hel).1, (S'.old e.1 (S.lt hel) fun x hx e1 => ?_).trans (S.own e hel).2⟩
  simp only [List.mem_cons, List.not_mem_nil, or_false] at hx
  rcases hx with rfl | rfl
  · exact ka e1.symm
  · exact kb e1.symm
end
section
variable {S : Nat → List Sea} {l : List Nat} {i o : Nat} {fx : Nat → Bool} {m : Mps} {s : Sea} {r : List Sea}
theorem tryL_1 (h : m.tk s = none) : tryL S l i fx m (s :: r) = (true, fun j => decide (j = i) || fx j, (m.free i).put s i) := by rw [tryL]; simp only [h]
theorem tryL_2 (h : m.tk s = some o) (h2 : fx o = true) : tryL S l i fx m (s :: r) = tryL S l i fx m r := by rw [tryL]; simp only [h, h2, if_true]
theorem tryL_3 (h : m.tk s = some i) (h2 : fx i = false) : tryL S l i fx m (s :: r) = (true, fun j => decide (j = i) || fx j, (m.free i).put s i) := by rw [tryL]; simp only [h, h2, Bool.false_eq_true, if_false, if_true]
theorem tryL_4 (h : m.tk s = some o) (h2 : fx o = false) (h3 : o ≠ i) (h4 : (Bs.settle (fun j => decide (j = i) || fx j) S l o (((m.free i).free o).put s i)).1 = true) : tryL S l i fx m (s :: r) = (true, fun j => decide (j = i) || fx j, (Bs.settle (fun j => decide (j = i) || fx j) S l o (((m.free i).free o).put s i)).2) := by
  rw [tryL]; simp only [h, h2, Bool.false_eq_true, if_false, h3, h4, if_true]
theorem tryL_5 (h : m.tk s = some o) (h2 : fx o = false) (h3 : o ≠ i) (h4 : (Bs.settle (fun j => decide (j = i) || fx j) S l o (((m.free i).free o).put s i)).1 = false) : tryL S l i fx m (s :: r) = (false, fun j => !decide (j = i) && fx j, m) := by
  rw [tryL]; simp only [h, h2, Bool.false_eq_true, if_false, h3, h4]
theorem fx_del : (fun j => !decide (j = i) && (decide (j = i) || fx j)) = fun j => !decide (j = i) && fx j := by
  funext j
  by_cases h : j = i <;> simp [h]
end
end X
namespace X
open Go Go.RowKit Bs
theorem mem2T {α : Type} (a b c d e f g h i : α) : ∀ x, x ∈ [e, h] → x ∈ [a, b, c, d, e, f, g, h, i] := fun x hx => by
  simp only [List.mem_cons, List.not_mem_nil, or_false] at hx ⊢
  rcases hx with h | h <;> simp [h]
set_option maxHeartbeats 32000000 in
set_option maxRecDepth 10000 in
theorem try_any {B gp gb mt ms mf i cn : Nat} {now ps x0 : Int} {v : ATV} {t : ATk} {q r rT : SV} {fx : Nat → Bool} {etk est esf : List MapEntry} {ntk nst nf : Nat} {m : Mps} {w : World} (hb : PBas w B gb now v t q r rT)
    (S : Sys B w [(mt, mapE etk ntk), (ms, mapE est nst), plnO gp gb now rT mt ms, (mf, mapE esf nf)] w) (hF : MapIs intV esf nf (fxF fx)) (hz : PzIs t.wet etk ntk est nst m) (hi : i ∈ t.wet) (hcn : cn < t.cha.length) (hps : 0 ≤ ps ∧ ps ≤ 200000) :
    Calls Tryz.prog 29 #[.pointer (some ⟨gp, 0, none⟩), .int .i64 (i : Nat), .agg ⟨[.int .i64 (cn : Int), .int .i64 ps, .int .i64 x0]⟩, .map (some mf)] w fun e w' =>
      ∃ vv, e = .returned vv ∧ vv = .bool (tryL (t.seas now t.wet.length) t.wet i fx m (t.numbs ((cn : Int), ps))).1 ∧ ∃ mt' ms' etk' ntk' est' nst' esf' nf', PzIs t.wet etk' ntk' est' nst' (tryL (t.seas now t.wet.length) t.wet i fx m (t.numbs ((cn : Int), ps))).2.2 ∧
        MapIs intV esf' nf' (fxF (tryL (t.seas now t.wet.length) t.wet i fx m (t.numbs ((cn : Int), ps))).2.1) ∧ Kp3 [mt, ms, gp, mf] w w' ∧ (∀ k, k ∈ [mt', ms'] → k ∈ [mt, ms] ∨ w.heap.size ≤ k) ∧
        Sys B w' [(mt', mapE etk' ntk'), (ms', mapE est' nst'), plnO gp gb now rT mt' ms', (mf, mapE esf' nf')] w' := by
  simp only [plnO] at S
  have hO := hb.ok
  have hnow := hb.now_
  have hSB := S.base
  have hil : i < t.twn.length := List.mem_range.1 (List.mem_filter.1 hi).1
  obtain ⟨X, hX⟩ : ∃ X, X = tryL (t.seas now t.wet.length) t.wet i fx m (t.numbs ((cn : Int), ps)) := ⟨_, rfl⟩
  rw [← hX]
  refine enterL Tryz.func29 rfl Tryz.ntmps29 rfl (S) ?_; simp only [frame, Nat.zero_add, Nat.reduceAdd]
  refine XC.hint 0 1 ?_
  repeat (first | (refine M0 ?_; first | refine SL ?_ | refine SB fun _ _ => ?_) | (refine M1 ?_; refine SC ?_) | (refine M2 ?_; refine SE ?_))
  rename_i gs hgs
  refine XL.makeMap rfl fun ma hma => ?_
  repeat (first | (refine M0 ?_; first | refine SL ?_ | refine SB fun _ _ => ?_) | (refine M1 ?_; refine SC ?_) | (refine M2 ?_; refine SE ?_))
  refine XL.makeMap rfl fun mb hmb => ?_
  repeat (first | (refine M0 ?_; first | refine SL ?_ | refine SB fun _ _ => ?_ | refine Y4 (Ev.load_at tok 5 (g := gp) (o := 0) (j := 3) rfl rfl rfl rfl) ?_) | (refine M1 ?_; refine SC ?_) | (refine M2 ?_; refine SE ?_))
  refine XL.rngM 3 rfl rfl Tryz.underlying99 rfl (fun gi hgi => ?_)
  repeat (first | (refine M0 ?_; first | refine SL ?_ | refine SB fun _ _ => ?_) | (refine M1 ?_; refine SC ?_) | (refine M2 ?_; refine SE ?_))
  have hM0 : ∀ w1, Sys B w [(gi, .mapIter (some mt) ntk #[] ntk), (mb, mapO []), (ma, mapO []), (gs, cel 109 [.int .i64 (cn : Int), .int .i64 ps, .int .i64 x0]), (mt, mapE etk ntk), (ms, mapE est nst), (gp, cel 102 [.pointer (some ⟨gb, 0, none⟩), .int .i64 now, .slice rT.A rT.n rT.c, .map (some mt), .map (some ms)]), (mf, mapE esf nf)] w1 →
      Sys B w [(gi, .mapIter (some mt) ntk #[] ntk), (mb, mapO []), (ma, mapE [] 0), (gs, cel 109 [.int .i64 (cn : Int), .int .i64 ps, .int .i64 x0]), (mt, mapE etk ntk), (ms, mapE est nst), (gp, cel 102 [.pointer (some ⟨gb, 0, none⟩), .int .i64 now, .slice rT.A rT.n rT.c, .map (some mt), .map (some ms)]), (mf, mapE esf nf)] w1 := fun _ h => h
  refine XC.loopk [0, 1, 3, 6, 9, 10, 23] rfl (fun _ : Array Nat × List MapEntry × Nat × (Value → Option Value) => [])
    (fun y => [(gi, .mapIter (some mt) ntk y.1 ntk), (mb, mapO []), (ma, mapE y.2.1 y.2.2.1), (gs, cel 109 [.int .i64 (cn : Int), .int .i64 ps, .int .i64 x0]), (mt, mapE etk ntk), (ms, mapE est nst), (gp, cel 102 [.pointer (some ⟨gb, 0, none⟩), .int .i64 now, .slice rT.A rT.n rT.c, .map (some mt), .map (some ms)]), (mf, mapE esf nf)])
    (fun _ => w) (fun y => CpI etk (tkF m) y.1 y.2.2.2 ∧ MapIs keyS y.2.1 y.2.2.1 y.2.2.2) (fun y => leftC etk y.1) (#[], [], 0, fun _ => none) ⟨CpI.start, MapIs.nil⟩ ZZSUB hM0 ?_
  clear hM0
  rintro ⟨seen, esa, na, fa⟩ ⟨hcp, hma2⟩
  simp only at hcp hma2
  dsimp only [List.cons_append, List.nil_append]
  repeat (first | (refine M0 ?_; first | refine SL ?_ | refine SB fun _ _ => ?_) | (refine M1 ?_; refine SC ?_) | (refine M2 ?_; refine SE ?_))
  refine XL.nxtM 0 4 rfl rfl rfl hz.tk.born (Nat.le_refl _) rfl (fun _ => rfl) (fun hall => ?_) (fun e he hse => ?_)
  rotate_left
  · obtain ⟨s', o', hek, hev⟩ := tk_ent hz.tk he
    have hkk := hz.tk.key e he
    have hnx := hcp.next hz.tk he
    have hlt := leftC_lt he hse
    obtain ⟨ek, ev, eb⟩ := e
    simp only at hek hev hkk hnx hlt
    subst hek hev
    obtain ⟨c', p', n'⟩ := s'
    simp only [seaV] at hkk hnx he ⊢
    repeat (first | (refine M0 ?_; first | refine SL ?_ | refine SB fun _ _ => ?_ | refine Y4 (Ev.ent 0 4 rfl rfl rfl hz.tk he) ?_) | (refine M1 ?_; refine SC ?_) | (refine M2 ?_; refine SE ?_))
    rename_i g11 hg11
    refine XL.updM 3 seaF rfl rfl rfl rfl Tryz.underlying99 hma2 hkk (fun _ _ => rfl) (fun esa' na' hma3 => ?_)
    repeat (first | (refine M0 ?_; first | refine SL ?_ | refine SB fun _ _ => ?_) | (refine M1 ?_; refine SC ?_) | (refine M2 ?_; refine SE ?_))
    exact XE.round (s := (seen, esa, na, fa)) (seen.push eb, esa', na', upd fa (.agg ⟨[.int .i64 c', .int .i64 p', .int .i64 n']⟩) (some (.int .i64 (o' : Nat)))) ⟨hnx, hma3⟩ hlt ZZSUB (fun _ h => h.pop (by assumption))
  have hfa := hcp.done hz.tk hall
  subst hfa
  repeat (first | (refine M0 ?_; first | refine SL ?_ | refine SB fun _ _ => ?_) | (refine M1 ?_; refine SC ?_) | (refine M2 ?_; refine SE ?_))
  repeat (first | (refine M0 ?_; first | refine SL ?_ | refine SB fun _ _ => ?_ | refine Y4 (Ev.load_at tok 6 (g := gp) (o := 0) (j := 4) rfl rfl rfl rfl) ?_) | (refine M1 ?_; refine SC ?_) | (refine M2 ?_; refine SE ?_))
  refine XL.rngM 5 rfl rfl Tryz.underlying100 rfl (fun gj hgj => ?_)
  repeat (first | (refine M0 ?_; first | refine SL ?_ | refine SB fun _ _ => ?_) | (refine M1 ?_; refine SC ?_) | (refine M2 ?_; refine SE ?_))
  have hM0 : ∀ w1, Sys B w [(gj, .mapIter (some ms) nst #[] nst), (gi, .mapIter (some mt) ntk seen ntk), (mb, mapO []), (ma, mapE esa na), (gs, cel 109 [.int .i64 (cn : Int), .int .i64 ps, .int .i64 x0]), (mt, mapE etk ntk), (ms, mapE est nst), (gp, cel 102 [.pointer (some ⟨gb, 0, none⟩), .int .i64 now, .slice rT.A rT.n rT.c, .map (some mt), .map (some ms)]), (mf, mapE esf nf)] w1 →
      Sys B w [(gj, .mapIter (some ms) nst #[] nst), (gi, .mapIter (some mt) ntk seen ntk), (mb, mapE [] 0), (ma, mapE esa na), (gs, cel 109 [.int .i64 (cn : Int), .int .i64 ps, .int .i64 x0]), (mt, mapE etk ntk), (ms, mapE est nst), (gp, cel 102 [.pointer (some ⟨gb, 0, none⟩), .int .i64 now, .slice rT.A rT.n rT.c, .map (some mt), .map (some ms)]), (mf, mapE esf nf)] w1 := fun _ h => h
  refine XC.loopk [0, 1, 3, 6, 9, 10, 36] rfl (fun _ : Array Nat × List MapEntry × Nat × (Value → Option Value) => [])
    (fun y => [(gj, .mapIter (some ms) nst y.1 nst), (gi, .mapIter (some mt) ntk seen ntk), (mb, mapE y.2.1 y.2.2.1), (ma, mapE esa na), (gs, cel 109 [.int .i64 (cn : Int), .int .i64 ps, .int .i64 x0]), (mt, mapE etk ntk), (ms, mapE est nst), (gp, cel 102 [.pointer (some ⟨gb, 0, none⟩), .int .i64 now, .slice rT.A rT.n rT.c, .map (some mt), .map (some ms)]), (mf, mapE esf nf)])
    (fun _ => w) (fun y => CpI est (stF m) y.1 y.2.2.2 ∧ MapIs intV y.2.1 y.2.2.1 y.2.2.2) (fun y => leftC est y.1) (#[], [], 0, fun _ => none) ⟨CpI.start, MapIs.nil⟩ ZZSUB hM0 ?_
  clear hM0
  rintro ⟨seen2, esb, nb, fb⟩ ⟨hcp2, hmb2⟩
  simp only at hcp2 hmb2
  dsimp only [List.cons_append, List.nil_append]
  repeat (first | (refine M0 ?_; first | refine SL ?_ | refine SB fun _ _ => ?_) | (refine M1 ?_; refine SC ?_) | (refine M2 ?_; refine SE ?_))
  refine XL.nxtM 0 6 rfl rfl rfl hz.st.born (Nat.le_refl _) rfl (fun _ => rfl) (fun hall2 => ?_) (fun e he hse => ?_)
  rotate_left
  · obtain ⟨i', s', hek, hev⟩ := st_ent hz.st he
    have hkk := hz.st.key e he
    have hnx := hcp2.next hz.st he
    have hlt := leftC_lt he hse
    obtain ⟨ek, ev, eb⟩ := e
    simp only at hek hev hkk hnx hlt
    subst hek hev
    obtain ⟨c', p', n'⟩ := s'
    simp only [seaV] at hkk hnx he ⊢
    repeat (first | (refine M0 ?_; first | refine SL ?_ | refine SB fun _ _ => ?_ | refine Y4 (Ev.ent 0 6 rfl rfl rfl hz.st he) ?_) | (refine M1 ?_; refine SC ?_) | (refine M2 ?_; refine SE ?_))
    rename_i g14 hg14
    refine XL.updM 3 twnF rfl rfl rfl rfl Tryz.underlying100 hmb2 ⟨_, rfl⟩ (fun _ _ => rfl) (fun esb' nb' hmb3 => ?_)
    repeat (first | (refine M0 ?_; first | refine SL ?_ | refine SB fun _ _ => ?_) | (refine M1 ?_; refine SC ?_) | (refine M2 ?_; refine SE ?_))
    exact XE.round (s := (seen2, esb, nb, fb)) (seen2.push eb, esb', nb', upd fb (.int .i64 (i' : Nat)) (some (.agg ⟨[.int .i64 c', .int .i64 p', .int .i64 n']⟩))) ⟨hnx, hmb3⟩ hlt ZZSUB (fun _ h => h.pop (by assumption))
  have hfb := hcp2.done hz.st hall2
  subst hfb
  have hok : gb < B := hb.brd.ok_
  have hc2 : w.cell? (((⟨gb, 0, none⟩ : Addr).add 0).add 1) = some (.slice v.c.A v.c.n v.c.c) := by rw [add_off, add_off]; exact hb.brd.cell (j := 1) rfl
  obtain ⟨adc, e2, hlt2, hc4⟩ := hb.tsk.chaAt hcn
  have hc5 := hc4 2 (.int .i64 (t.ch (cn : Nat)).room) rfl
  rw [e2, hb.tsk.nc] at hc2
  have hroom := (hO.cha cn hcn).2
  have h4 := hO.n4
  repeat (first | (refine M0 ?_; first | refine SL ?_ | refine SB fun _ _ => ?_) | (refine M1 ?_; refine SC ?_) | (refine M2 ?_; refine SE ?_))
  refine XC.hint 6 4 ?_
  refine XC.drawR _ [0, 1, 2, 3, 4, 5, 6, 7, 8, 9, 10, 11, 12] [13] mixed (fun _ h => h) rfl (by kernel_rfl) ?_
  repeat (first | (refine M0 ?_; first | refine SL ?_ | refine SB fun _ _ => ?_ | refine Y4 (Ev.load_at tok 7 (g := gp) (o := 0) (j := 0) rfl rfl rfl rfl) ?_ | refine Y4 (Ev.load_old tok rfl rfl (add_lt2 hok) hc2) ?_ | refine Y4 (Ev.load_loc tok 4 (g := gs) (o := 0) rfl rfl rfl rfl) ?_ | refine Y4 (Ev.load_old tok rfl rfl (add_lt2 hlt2) hc5) ?_) | (refine M2 ?_; refine SE ?_) | (refine M3 ?_; first | refine SG ?_ | refine SF ?_ | refine YF (Ev.load_at tok 7 (g := gp) (o := 0) (j := 0) rfl rfl rfl rfl) ?_ | refine YF (Ev.load_old tok rfl rfl (add_lt2 hok) hc2) ?_ | refine YF (Ev.load_loc tok 4 (g := gs) (o := 0) rfl rfl rfl rfl) ?_ | refine YF (Ev.load_old tok rfl rfl (add_lt2 hlt2) hc5) ?_) | (refine M4 ?_; refine SR ?_) | (refine M5 ?_; first | exact M7 | refine YM ?_ | refine YN ?_ ?_))
  obtain ⟨rn, hrn⟩ : ∃ rn : Nat, (t.ch (cn : Nat)).room = (rn : Int) := ⟨(t.ch (cn : Nat)).room.toNat, (Int.toNat_of_nonneg hroom.1).symm⟩
  have hnb : t.numbs ((cn : Int), ps) = (List.range rn).map fun n => (⟨(cn : Int), ps, (n : Nat)⟩ : Sea) := by unfold ATk.numbs; rw [hrn]; rfl
  have hnl : (t.numbs ((cn : Int), ps)).length = rn := by rw [hnb]; simp
  rw [hrn]
  have hM9 : ∀ (o1 o2 o3 o4 o5 o6 o7 o8 o9 : Obj) (e : Nat × Obj), e ∈ [(gj, o1), (gi, o2), (mb, o3), (ma, o4), (gs, o5), (mt, o6), (ms, o7), (gp, o8), (mf, o9)] → e.1 ∈ [mt, ms, gp, mf] ∨ w.heap.size ≤ e.1 := fun o1 o2 o3 o4 o5 o6 o7 o8 o9 e he => by
    rcases List.mem_cons.1 he with rfl | he
    · exact .inr hgj
    rcases List.mem_cons.1 he with rfl | he
    · exact .inr hgi
    rcases List.mem_cons.1 he with rfl | he
    · exact .inr hmb
    rcases List.mem_cons.1 he with rfl | he
    · exact .inr hma
    rcases List.mem_cons.1 he with rfl | he
    · exact .inr hgs
    · exact .inl (List.mem_map.2 ⟨e, he, rfl⟩)
  have hnd4 := S.nd
  simp only [List.map_cons, List.map_nil, List.nodup_cons, List.mem_cons, List.not_mem_nil, or_false, not_or] at hnd4
  have hne : mt ≠ ms := hnd4.1.1
  have hBB : B ≤ mt ∧ B ≤ ms := ⟨(S.own _ (.head _)).1, (S.own _ (.tail _ (.head _))).1⟩
  have hgg : gp ≠ mt ∧ gp ≠ ms := ⟨fun h => hnd4.1.2.1 h.symm, fun h => hnd4.2.1.1 h.symm⟩
  have hkB : ∀ k, k ∈ [mt, ms, gp, mf] → B ≤ k := fun k hk => by
    obtain ⟨e, he, rfl⟩ := List.mem_map.1 (show k ∈ ([(mt, mapE etk ntk), (ms, mapE est nst), plnO gp gb now rT mt ms, (mf, mapE esf nf)] : Lo).map (·.1) from hk)
    exact (S.own e he).1
  have hmab : ∀ k, k ∈ [ma, mb] → k ∈ [mt, ms] ∨ w.heap.size ≤ k := fun k hk => by
    rcases List.mem_cons.1 hk with rfl | hk
    · exact .inr hma
    · rw [List.mem_singleton.1 hk]; exact .inr hmb
  have hgp := (Array.getElem?_eq_some_iff.1 (S.own _ (.tail _ (.tail _ (.head _)))).2).1
  have hnd2 : [gs, gp].Nodup := by simp only [List.nodup_cons, List.mem_cons, List.not_mem_nil, or_false, not_false_eq_true, List.nodup_nil, and_true]; simp only at hgp; omega
  repeat (first | (refine M0 ?_; first | refine SL ?_ | refine SB fun _ _ => ?_) | (refine M1 ?_; refine SC ?_) | (refine M2 ?_; refine SE ?_))
  refine XC.loopk [0, 1, 3, 6, 9, 10, 57] rfl (fun y : Nat × Int => [(58, .int .i64 (y.1 : Nat))])
    (fun y => [(gj, .mapIter (some ms) nst seen2 nst), (gi, .mapIter (some mt) ntk seen ntk), (mb, mapE esb nb), (ma, mapE esa na), (gs, cel 109 [.int .i64 (cn : Int), .int .i64 ps, .int .i64 y.2]), (mt, mapE etk ntk), (ms, mapE est nst), (gp, cel 102 [.pointer (some ⟨gb, 0, none⟩), .int .i64 now, .slice rT.A rT.n rT.c, .map (some mt), .map (some ms)]), (mf, mapE esf nf)])
    (fun _ => w) (fun y => y.1 ≤ rn ∧ tryL (t.seas now t.wet.length) t.wet i fx m ((t.numbs ((cn : Int), ps)).drop y.1) = X) (fun y => rn - y.1) (0, x0) ⟨Nat.zero_le _, hX.symm⟩ ZZSUB (fun _ h => h) ?_
  rintro ⟨k, xx⟩ ⟨hk, hXk⟩
  simp only at hk hXk
  dsimp only [List.cons_append, List.nil_append]
  refine XC.hint 0 1 ?_
  refine XC.hint 6 4 ?_
  repeat (first | (refine M0 ?_; first | refine SL ?_ | refine SB fun _ _ => ?_) | (refine M1 ?_; refine SC ?_) | (refine M2 ?_; refine SE ?_))
  refine XC.cond _ rfl (fun h2 => ?_) (fun h2 => ?_)
  rotate_left
  · have hkr : k = rn := by have := of_decide_eq_false h2; omega
    subst hkr
    rw [List.drop_eq_nil_of_le (Nat.le_of_eq hnl)] at hXk
    repeat (first | (refine M0 ?_; first | refine SL ?_ | refine SB fun _ _ => ?_) | (refine M1 ?_; refine SC ?_) | (refine M2 ?_; refine SE ?_))
    refine XE.retg tok Tryz.results29 rfl (by simp only [and_self, and_true]) (fun w' S => ?_)
    rw [← hXk]
    exact ⟨_, rfl, rfl, mt, ms, etk, ntk, est, nst, esf, nf, hz, hF, Kp3.refl.sys S (hM9 _ _ _ _ _ _ _ _ _), fun k hk => .inl hk, S.rebase (.cons _ (.cons _ (.cons _ (.cons _ (.cons _ (List.Sublist.refl _))))))⟩
  have hkr : k < rn := by have := of_decide_eq_true h2; omega
  clear h2
  obtain ⟨s, hs⟩ : ∃ s : Sea, s = ⟨(cn : Int), ps, (k : Nat)⟩ := ⟨_, rfl⟩
  have hsin : Sea.in_ s := by rw [hs]; refine ⟨?_, ?_, ?_⟩ <;> unfold i64in <;> simp only <;> omega
  have hkey := sea_key hsin
  rw [hs] at hkey
  have hsv : (Value.agg ⟨[.int .i64 (cn : Int), .int .i64 ps, .int .i64 (k : Nat)]⟩) = seaV s := by rw [hs]; rfl
  have hsd : (t.numbs ((cn : Int), ps)).drop k = s :: (t.numbs ((cn : Int), ps)).drop (k + 1) := by
    rw [List.drop_eq_getElem_cons (by rw [hnl]; exact hkr)]
    congr 1
    simp only [hnb, List.getElem_map, List.getElem_range, hs]
  rw [hsd] at hXk
  repeat (first | (refine M0 ?_; first | refine SL ?_ | refine SB fun _ _ => ?_) | (refine M1 ?_; refine SC ?_) | (refine M2 ?_; refine SE ?_))
  cases htk : m.tk s with
  | none =>
    have hf5 : tkF m (.agg ⟨[.int .i64 (cn : Int), .int .i64 ps, .int .i64 (k : Nat)]⟩) = none := by rw [hsv, tkF_at, htk]; rfl
    refine XC.drawR _ [0, 1, 2, 3, 4, 5, 6, 7, 8] [9, 10] mixed (fun _ h => h) rfl (by kernel_rfl) ?_
    repeat (first | (refine M0 ?_; first | refine SL ?_ | refine SB fun _ _ => ?_ | refine Y4 (Ev.load_at tok 7 (g := gp) (o := 0) (j := 3) rfl rfl rfl rfl) ?_ | refine Y4 (Ev.lookN2 tok 5 seaF rfl rfl rfl Tryz.underlying99 rfl hz.tk hkey hf5) ?_) | (refine M2 ?_; refine SE ?_) | (refine M3 ?_; first | refine SG ?_ | refine SF ?_ | refine YF (Ev.load_at tok 7 (g := gp) (o := 0) (j := 3) rfl rfl rfl rfl) ?_ | refine YF (Ev.lookN2 tok 5 seaF rfl rfl rfl Tryz.underlying99 rfl hz.tk hkey hf5) ?_) | (refine M4 ?_; refine SR ?_) | (refine M5 ?_; first | exact M7 | refine YM ?_ | refine YN ?_ ?_))
    repeat (first | (refine M0 ?_; first | refine SL ?_ | refine SB fun _ _ => ?_) | (refine M1 ?_; refine SC ?_) | (refine M2 ?_; refine SE ?_))
    refine XL.callr (fst := []) (cap := []) (fun w5 vv w6 => vv = .tuple #[] ∧ ∃ es' n' es2' n2', MapIs keyS es' n' (tkF (Mps.free (m) i)) ∧ MapIs intV es2' n2' (stF (Mps.free (m) i)) ∧ Sys B w5 [(mt, mapE es' n'), (ms, mapE es2' n2')] w6) (ck rfl) rfl rfl rfl (fun w5 S5 => ?_) (fun w5 vv w6 S5 hR => ?_)
    · exact (free_any (B := B) (S5.own _ (.tail _ (.tail _ (.tail _ (.tail _ (.tail _ (.tail _ (.tail _ (.head _))))))))).2 (S5.own _ (.tail _ (.tail _ (.tail _ (.tail _ (.tail _ (.head _))))))).2 (S5.own _ (.tail _ (.tail _ (.tail _ (.tail _ (.tail _ (.tail _ (.head _)))))))).2 hne hBB hgg hz.tk hz.st (InM.get hz.inm)).mono fun e w' ⟨h1, h2⟩ => ⟨_, h1, rfl, h2⟩
    obtain ⟨rfl, etk6, ntk6, est6, nst6, hT6, hS6, S6⟩ := hR
    refine ⟨_, w6, Sys.chg2 S5 5 6 rfl rfl rfl rfl S6, ?_⟩
    have hK6 := (Kp3.sys Kp3.refl S5 (hM9 _ _ _ _ _ _ _ _ _)).sys S6 fun e he => .inl (List.mem_append_left [gp, mf] (show e.1 ∈ [mt, ms] from List.mem_map.2 ⟨e, he, rfl⟩))
    have hIn6 := InM.free (i := i) hz.inm
    repeat (first | (refine M0 ?_; first | refine SL ?_ | refine SB fun _ _ => ?_) | (refine M1 ?_; refine SC ?_) | (refine M2 ?_; refine SE ?_))
    have hBW : Below B w6 w6 := Below.refl _ _
    have hleW : B ≤ w6.heap.size := Nat.le_trans hSB (Kp3.size hK6)
    refine XC.drawRS (trunc w6 B) [(gs, cel 109 [.int .i64 (cn : Int), .int .i64 ps, .int .i64 (k : Nat)]), (gp, cel 102 [.pointer (some ⟨gb, 0, none⟩), .int .i64 now, .slice rT.A rT.n rT.c, .map (some mt), .map (some ms)])] [0, 1, 2, 3, 4, 5, 6, 7, 8, 9, 10, 11] [12, 13, 14, 15, 16, 17] mixed (fun _ h => Sys.anchorT hBW h (mem2T _ _ _ _ _ _ _ _ _) hnd2 hleW) rfl (by kernel_rfl) ?_
    repeat (any_goals (first | (refine M0 ?_; first | refine SL ?_ | refine SB fun _ _ => ?_ | refine Y4 (Ev.load_at tok 1 (g := gp) (o := 0) (j := 3) rfl rfl rfl rfl) ?_ | refine Y4 (Ev.load_at tok 1 (g := gp) (o := 0) (j := 4) rfl rfl rfl rfl) ?_ | refine Y4 (Ev.load_loc_agg tok 0 (g := gs) (o := 0) (n := 3) rfl rfl rfl rfl) ?_) | (refine M1 ?_; refine SC ?_) | (refine M2 ?_; refine SE ?_) | (refine M3 ?_; first | refine SG ?_ | refine SF ?_ | refine YF (Ev.load_at tok 1 (g := gp) (o := 0) (j := 3) rfl rfl rfl rfl) ?_ | refine YF (Ev.load_at tok 1 (g := gp) (o := 0) (j := 4) rfl rfl rfl rfl) ?_ | refine YF (Ev.load_loc_agg tok 0 (g := gs) (o := 0) (n := 3) rfl rfl rfl rfl) ?_) | (refine M4 ?_; refine SR ?_) | (refine M5 ?_; first | exact M7 | refine YM ?_ | refine YN ?_ ?_)))
    refine XL.entM tok 5 seaF rfl rfl rfl Tryz.underlying99 rfl hT6 hkey rfl (fun _ _ => rfl) (fun etk7 ntk7 b7 hm7 hb7 => ?_)
    repeat (first | (refine M0 ?_; first | refine SL ?_ | refine SB fun _ _ => ?_) | (refine M2 ?_; refine SE ?_) | (refine M3 ?_; first | refine SG ?_ | refine SF ?_) | (refine M4 ?_; refine SR ?_) | (refine M5 ?_; first | exact M7 | refine YM ?_ | refine YN ?_ ?_))
    refine z7 (hn := hnd2) ?_
    repeat (any_goals (first | (refine M0 ?_; first | refine SL ?_ | refine SB fun _ _ => ?_) | (refine M1 ?_; refine SC ?_) | (refine M2 ?_; refine SE ?_) | (refine M3 ?_; first | refine SG ?_ | refine SF ?_) | (refine M4 ?_; refine SR ?_) | (refine M5 ?_; first | exact M7 | refine YM ?_ | refine YN ?_ ?_)))
    refine XL.stoM 5 rfl rfl rfl rfl hm7 hb7 (fun _ _ => rfl) (fun etk9 ntk9 hT9 => ?_)
    rw [upd_upd, hsv, tkF_put] at hT9
    repeat (first | (refine M0 ?_; first | refine SL ?_ | refine SB fun _ _ => ?_) | (refine M2 ?_; refine SE ?_) | (refine M3 ?_; first | refine SG ?_ | refine SF ?_) | (refine M4 ?_; refine SR ?_) | (refine M5 ?_; first | exact M7 | refine YM ?_ | refine YN ?_ ?_))
    refine z7 (hn := hnd2) ?_
    repeat (any_goals (first | (refine M0 ?_; first | refine SL ?_ | refine SB fun _ _ => ?_) | (refine M1 ?_; refine SC ?_) | (refine M2 ?_; refine SE ?_) | (refine M3 ?_; first | refine SG ?_ | refine SF ?_) | (refine M4 ?_; refine SR ?_) | (refine M5 ?_; first | exact M7 | refine YM ?_ | refine YN ?_ ?_)))
    refine XL.entM tok 6 twnF rfl rfl rfl Tryz.underlying100 rfl hS6 ⟨_, rfl⟩ rfl (fun _ _ => rfl) (fun est7 nst7 b9 hm9 hb9 => ?_)
    repeat (first | (refine M0 ?_; first | refine SL ?_ | refine SB fun _ _ => ?_) | (refine M2 ?_; refine SE ?_) | (refine M3 ?_; first | refine SG ?_ | refine SF ?_) | (refine M4 ?_; refine SR ?_) | (refine M5 ?_; first | exact M7 | refine YM ?_ | refine YN ?_ ?_))
    refine z7 (hn := hnd2) ?_
    repeat (any_goals (first | (refine M0 ?_; first | refine SL ?_ | refine SB fun _ _ => ?_) | (refine M1 ?_; refine SC ?_) | (refine M2 ?_; refine SE ?_) | (refine M3 ?_; first | refine SG ?_ | refine SF ?_) | (refine M4 ?_; refine SR ?_) | (refine M5 ?_; first | exact M7 | refine YM ?_ | refine YN ?_ ?_)))
    refine XL.stoM 6 rfl rfl rfl rfl hm9 hb9 (fun _ _ => rfl) (fun est9 nst9 hS9 => ?_)
    rw [upd_upd, hsv, stF_put] at hS9
    repeat (first | (refine M0 ?_; first | refine SL ?_ | refine SB fun _ _ => ?_) | (refine M2 ?_; refine SE ?_) | (refine M3 ?_; first | refine SG ?_ | refine SF ?_) | (refine M4 ?_; refine SR ?_) | (refine M5 ?_; first | exact M7 | refine YM ?_ | refine YN ?_ ?_))
    refine z7 (hn := hnd2) ?_
    repeat (first | (refine M0 ?_; first | refine SL ?_ | refine SB fun _ _ => ?_) | (refine M2 ?_; refine SE ?_) | (refine M3 ?_; first | refine SG ?_ | refine SF ?_) | (refine M4 ?_; refine SR ?_) | (refine M5 ?_; first | exact M7 | refine YM ?_ | refine YN ?_ ?_))
    repeat (first | (refine M0 ?_; first | refine SL ?_ | refine SB fun _ _ => ?_) | (refine M1 ?_; refine SC ?_) | (refine M2 ?_; refine SE ?_))
    have hIn9 := InM.put (s := s) hIn6 hi hsin
    refine XL.updM 8 twnF rfl rfl rfl rfl Tryz.underlying103 hF ⟨_, rfl⟩ (fun _ _ => rfl) (fun esf1 nf1 hF1 => ?_)
    rw [fxF_put] at hF1
    repeat (first | (refine M0 ?_; first | refine SL ?_ | refine SB fun _ _ => ?_) | (refine M1 ?_; refine SC ?_) | (refine M2 ?_; refine SE ?_))
    refine XE.retg tok Tryz.results29 rfl (by simp only [and_self, and_true]) (fun w' S => ?_)
    rw [tryL_1 htk] at hXk
    rw [← hXk]
    exact ⟨_, rfl, rfl, mt, ms, etk9, ntk9, est9, nst9, esf1, nf1, ⟨hT9, hS9, hIn9⟩, hF1, Kp3.sys hK6 S (hM9 _ _ _ _ _ _ _ _ _), fun k hk => .inl hk, S.rebase (.cons _ (.cons _ (.cons _ (.cons _ (.cons _ (List.Sublist.refl _))))))⟩
  | some o =>
    have hf5 : tkF m (.agg ⟨[.int .i64 (cn : Int), .int .i64 ps, .int .i64 (k : Nat)]⟩) = some (.int .i64 (o : Nat)) := by rw [hsv, tkF_at, htk]; rfl
    have how := hz.inm.tk s o htk
    refine XC.drawR _ [0, 1, 2, 3, 4, 5, 6, 7, 8] [9, 10] mixed (fun _ h => h) rfl (by kernel_rfl) ?_
    repeat (first | (refine M0 ?_; first | refine SL ?_ | refine SB fun _ _ => ?_ | refine Y4 (Ev.load_at tok 7 (g := gp) (o := 0) (j := 3) rfl rfl rfl rfl) ?_ | refine Y4 (Ev.lookY2 tok 5 seaF rfl rfl rfl Tryz.underlying99 rfl hz.tk hkey hf5) ?_) | (refine M2 ?_; refine SE ?_) | (refine M3 ?_; first | refine SG ?_ | refine SF ?_ | refine YF (Ev.load_at tok 7 (g := gp) (o := 0) (j := 3) rfl rfl rfl rfl) ?_ | refine YF (Ev.lookY2 tok 5 seaF rfl rfl rfl Tryz.underlying99 rfl hz.tk hkey hf5) ?_) | (refine M4 ?_; refine SR ?_) | (refine M5 ?_; first | exact M7 | refine YM ?_ | refine YN ?_ ?_))
    cases hfx : fx o with
    | true =>
      have hfxv : ((fxF fx) (.int .i64 (o : Nat))).getD (.bool false) = .bool true := by rw [fxF_at, hfx]; rfl
      repeat (first | (refine M0 ?_; first | refine SL ?_ | refine SB fun _ _ => ?_ | refine Y4 (Ev.look1 tok 8 twnF rfl rfl rfl Tryz.underlying103 rfl hF ⟨_, rfl⟩ hfxv) ?_) | (refine M1 ?_; refine SC ?_) | (refine M2 ?_; refine SE ?_))
      rw [tryL_2 htk hfx] at hXk
      exact XE.round (s := (k, xx)) (k + 1, (k : Int)) ⟨hkr, hXk⟩ (by simp only; omega) ZZSUB (fun _ h => h)
    | false =>
      have hfxv : ((fxF fx) (.int .i64 (o : Nat))).getD (.bool false) = .bool false := by rw [fxF_at, hfx]; rfl
      repeat (first | (refine M0 ?_; first | refine SL ?_ | refine SB fun _ _ => ?_ | refine Y4 (Ev.look1 tok 8 twnF rfl rfl rfl Tryz.underlying103 rfl hF ⟨_, rfl⟩ hfxv) ?_) | (refine M1 ?_; refine SC ?_) | (refine M2 ?_; refine SE ?_))
      refine XL.callr (fst := []) (cap := []) (fun w5 vv w6 => vv = .tuple #[] ∧ ∃ es' n' es2' n2', MapIs keyS es' n' (tkF (Mps.free (m) i)) ∧ MapIs intV es2' n2' (stF (Mps.free (m) i)) ∧ Sys B w5 [(mt, mapE es' n'), (ms, mapE es2' n2')] w6) (ck rfl) rfl rfl rfl (fun w5 S5 => ?_) (fun w5 vv w6 S5 hR => ?_)
      · exact (free_any (B := B) (S5.own _ (.tail _ (.tail _ (.tail _ (.tail _ (.tail _ (.tail _ (.tail _ (.head _))))))))).2 (S5.own _ (.tail _ (.tail _ (.tail _ (.tail _ (.tail _ (.head _))))))).2 (S5.own _ (.tail _ (.tail _ (.tail _ (.tail _ (.tail _ (.tail _ (.head _)))))))).2 hne hBB hgg hz.tk hz.st (InM.get hz.inm)).mono fun e w' ⟨h1, h2⟩ => ⟨_, h1, rfl, h2⟩
      obtain ⟨rfl, etk6, ntk6, est6, nst6, hT6, hS6, S6⟩ := hR
      refine ⟨_, w6, Sys.chg2 S5 5 6 rfl rfl rfl rfl S6, ?_⟩
      have hK6 := (Kp3.sys Kp3.refl S5 (hM9 _ _ _ _ _ _ _ _ _)).sys S6 fun e he => .inl (List.mem_append_left [gp, mf] (show e.1 ∈ [mt, ms] from List.mem_map.2 ⟨e, he, rfl⟩))
      have hIn6 := InM.free (i := i) hz.inm
      repeat (first | (refine M0 ?_; first | refine SL ?_ | refine SB fun _ _ => ?_) | (refine M1 ?_; refine SC ?_) | (refine M2 ?_; refine SE ?_))
      by_cases hoi : o = i
      · subst hoi
        rw [show decide (((o : Nat) : Int) ≠ ((o : Nat) : Int)) = false from decide_eq_false (by simp)]
        repeat (first | (refine M0 ?_; first | refine SL ?_ | refine SB fun _ _ => ?_) | (refine M1 ?_; refine SC ?_) | (refine M2 ?_; refine SE ?_))
        have hBW : Below B w6 w6 := Below.refl _ _
        have hleW : B ≤ w6.heap.size := Nat.le_trans hSB (Kp3.size hK6)
        refine XC.drawRS (trunc w6 B) [(gs, cel 109 [.int .i64 (cn : Int), .int .i64 ps, .int .i64 (k : Nat)]), (gp, cel 102 [.pointer (some ⟨gb, 0, none⟩), .int .i64 now, .slice rT.A rT.n rT.c, .map (some mt), .map (some ms)])] [0, 1, 2, 3, 4, 5, 6, 7, 8, 9, 10, 11] [12, 13, 14, 15, 16, 17] mixed (fun _ h => Sys.anchorT hBW h (mem2T _ _ _ _ _ _ _ _ _) hnd2 hleW) rfl (by kernel_rfl) ?_
        repeat (any_goals (first | (refine M0 ?_; first | refine SL ?_ | refine SB fun _ _ => ?_ | refine Y4 (Ev.load_at tok 1 (g := gp) (o := 0) (j := 3) rfl rfl rfl rfl) ?_ | refine Y4 (Ev.load_at tok 1 (g := gp) (o := 0) (j := 4) rfl rfl rfl rfl) ?_ | refine Y4 (Ev.load_loc_agg tok 0 (g := gs) (o := 0) (n := 3) rfl rfl rfl rfl) ?_) | (refine M1 ?_; refine SC ?_) | (refine M2 ?_; refine SE ?_) | (refine M3 ?_; first | refine SG ?_ | refine SF ?_ | refine YF (Ev.load_at tok 1 (g := gp) (o := 0) (j := 3) rfl rfl rfl rfl) ?_ | refine YF (Ev.load_at tok 1 (g := gp) (o := 0) (j := 4) rfl rfl rfl rfl) ?_ | refine YF (Ev.load_loc_agg tok 0 (g := gs) (o := 0) (n := 3) rfl rfl rfl rfl) ?_) | (refine M4 ?_; refine SR ?_) | (refine M5 ?_; first | exact M7 | refine YM ?_ | refine YN ?_ ?_)))
        refine XL.entM tok 5 seaF rfl rfl rfl Tryz.underlying99 rfl hT6 hkey rfl (fun _ _ => rfl) (fun etk7 ntk7 b7 hm7 hb7 => ?_)
        repeat (first | (refine M0 ?_; first | refine SL ?_ | refine SB fun _ _ => ?_) | (refine M2 ?_; refine SE ?_) | (refine M3 ?_; first | refine SG ?_ | refine SF ?_) | (refine M4 ?_; refine SR ?_) | (refine M5 ?_; first | exact M7 | refine YM ?_ | refine YN ?_ ?_))
        refine z7 (hn := hnd2) ?_
        repeat (any_goals (first | (refine M0 ?_; first | refine SL ?_ | refine SB fun _ _ => ?_) | (refine M1 ?_; refine SC ?_) | (refine M2 ?_; refine SE ?_) | (refine M3 ?_; first | refine SG ?_ | refine SF ?_) | (refine M4 ?_; refine SR ?_) | (refine M5 ?_; first | exact M7 | refine YM ?_ | refine YN ?_ ?_)))
        refine XL.stoM 5 rfl rfl rfl rfl hm7 hb7 (fun _ _ => rfl) (fun etk9 ntk9 hT9 => ?_)
        rw [upd_upd, hsv, tkF_put] at hT9
        repeat (first | (refine M0 ?_; first | refine SL ?_ | refine SB fun _ _ => ?_) | (refine M2 ?_; refine SE ?_) | (refine M3 ?_; first | refine SG ?_ | refine SF ?_) | (refine M4 ?_; refine SR ?_) | (refine M5 ?_; first | exact M7 | refine YM ?_ | refine YN ?_ ?_))
        refine z7 (hn := hnd2) ?_
        repeat (any_goals (first | (refine M0 ?_; first | refine SL ?_ | refine SB fun _ _ => ?_) | (refine M1 ?_; refine SC ?_) | (refine M2 ?_; refine SE ?_) | (refine M3 ?_; first | refine SG ?_ | refine SF ?_) | (refine M4 ?_; refine SR ?_) | (refine M5 ?_; first | exact M7 | refine YM ?_ | refine YN ?_ ?_)))
        refine XL.entM tok 6 twnF rfl rfl rfl Tryz.underlying100 rfl hS6 ⟨_, rfl⟩ rfl (fun _ _ => rfl) (fun est7 nst7 b9 hm9 hb9 => ?_)
        repeat (first | (refine M0 ?_; first | refine SL ?_ | refine SB fun _ _ => ?_) | (refine M2 ?_; refine SE ?_) | (refine M3 ?_; first | refine SG ?_ | refine SF ?_) | (refine M4 ?_; refine SR ?_) | (refine M5 ?_; first | exact M7 | refine YM ?_ | refine YN ?_ ?_))
        refine z7 (hn := hnd2) ?_
        repeat (any_goals (first | (refine M0 ?_; first | refine SL ?_ | refine SB fun _ _ => ?_) | (refine M1 ?_; refine SC ?_) | (refine M2 ?_; refine SE ?_) | (refine M3 ?_; first | refine SG ?_ | refine SF ?_) | (refine M4 ?_; refine SR ?_) | (refine M5 ?_; first | exact M7 | refine YM ?_ | refine YN ?_ ?_)))
        refine XL.stoM 6 rfl rfl rfl rfl hm9 hb9 (fun _ _ => rfl) (fun est9 nst9 hS9 => ?_)
        rw [upd_upd, hsv, stF_put] at hS9
        repeat (first | (refine M0 ?_; first | refine SL ?_ | refine SB fun _ _ => ?_) | (refine M2 ?_; refine SE ?_) | (refine M3 ?_; first | refine SG ?_ | refine SF ?_) | (refine M4 ?_; refine SR ?_) | (refine M5 ?_; first | exact M7 | refine YM ?_ | refine YN ?_ ?_))
        refine z7 (hn := hnd2) ?_
        repeat (first | (refine M0 ?_; first | refine SL ?_ | refine SB fun _ _ => ?_) | (refine M2 ?_; refine SE ?_) | (refine M3 ?_; first | refine SG ?_ | refine SF ?_) | (refine M4 ?_; refine SR ?_) | (refine M5 ?_; first | exact M7 | refine YM ?_ | refine YN ?_ ?_))
        repeat (first | (refine M0 ?_; first | refine SL ?_ | refine SB fun _ _ => ?_) | (refine M1 ?_; refine SC ?_) | (refine M2 ?_; refine SE ?_))
        have hIn9 := InM.put (s := s) hIn6 hi hsin
        refine XL.updM 8 twnF rfl rfl rfl rfl Tryz.underlying103 hF ⟨_, rfl⟩ (fun _ _ => rfl) (fun esf1 nf1 hF1 => ?_)
        rw [fxF_put] at hF1
        repeat (first | (refine M0 ?_; first | refine SL ?_ | refine SB fun _ _ => ?_) | (refine M1 ?_; refine SC ?_) | (refine M2 ?_; refine SE ?_))
        rw [show decide (((o : Nat) : Int) = ((o : Nat) : Int)) = true from decide_eq_true rfl]
        repeat (first | (refine M0 ?_; first | refine SL ?_ | refine SB fun _ _ => ?_) | (refine M1 ?_; refine SC ?_) | (refine M2 ?_; refine SE ?_))
        refine XE.retg tok Tryz.results29 rfl (by simp only [and_self, and_true]) (fun w' S => ?_)
        rw [tryL_3 htk hfx] at hXk
        rw [← hXk]
        exact ⟨_, rfl, rfl, mt, ms, etk9, ntk9, est9, nst9, esf1, nf1, ⟨hT9, hS9, hIn9⟩, hF1, Kp3.sys hK6 S (hM9 _ _ _ _ _ _ _ _ _), fun k hk => .inl hk, S.rebase (.cons _ (.cons _ (.cons _ (.cons _ (.cons _ (List.Sublist.refl _))))))⟩
      · rw [show decide (((o : Nat) : Int) ≠ ((i : Nat) : Int)) = true from decide_eq_true (by omega)]
        repeat (first | (refine M0 ?_; first | refine SL ?_ | refine SB fun _ _ => ?_) | (refine M1 ?_; refine SC ?_) | (refine M2 ?_; refine SE ?_))
        refine XL.callr (fst := []) (cap := []) (fun w5 vv w6 => vv = .tuple #[] ∧ ∃ es' n' es2' n2', MapIs keyS es' n' (tkF (Mps.free (m.free i) o)) ∧ MapIs intV es2' n2' (stF (Mps.free (m.free i) o)) ∧ Sys B w5 [(mt, mapE es' n'), (ms, mapE es2' n2')] w6) (ck rfl) rfl rfl rfl (fun w5 S5 => ?_) (fun w5 vv w8 S5 hR => ?_)
        · exact (free_any (B := B) (S5.own _ (.tail _ (.tail _ (.tail _ (.tail _ (.tail _ (.tail _ (.tail _ (.head _))))))))).2 (S5.own _ (.tail _ (.tail _ (.tail _ (.tail _ (.tail _ (.head _))))))).2 (S5.own _ (.tail _ (.tail _ (.tail _ (.tail _ (.tail _ (.tail _ (.head _)))))))).2 hne hBB hgg hT6 hS6 (InM.get hIn6)).mono fun e w' ⟨h1, h2⟩ => ⟨_, h1, rfl, h2⟩
        obtain ⟨rfl, etk8, ntk8, est8, nst8, hT8, hS8, S8⟩ := hR
        refine ⟨_, w8, Sys.chg2 S5 5 6 rfl rfl rfl rfl S8, ?_⟩
        have hK8 := (Kp3.sys hK6 S5 (hM9 _ _ _ _ _ _ _ _ _)).sys S8 fun e he => .inl (List.mem_append_left [gp, mf] (show e.1 ∈ [mt, ms] from List.mem_map.2 ⟨e, he, rfl⟩))
        have hIn8 := InM.free (i := o) hIn6
        repeat (first | (refine M0 ?_; first | refine SL ?_ | refine SB fun _ _ => ?_) | (refine M1 ?_; refine SC ?_) | (refine M2 ?_; refine SE ?_))
        have hBW : Below B w8 w8 := Below.refl _ _
        have hleW : B ≤ w8.heap.size := Nat.le_trans hSB (Kp3.size hK8)
        refine XC.drawRS (trunc w8 B) [(gs, cel 109 [.int .i64 (cn : Int), .int .i64 ps, .int .i64 (k : Nat)]), (gp, cel 102 [.pointer (some ⟨gb, 0, none⟩), .int .i64 now, .slice rT.A rT.n rT.c, .map (some mt), .map (some ms)])] [0, 1, 2, 3, 4, 5, 6, 7, 8, 9, 10, 11] [12, 13, 14, 15, 16, 17] mixed (fun _ h => Sys.anchorT hBW h (mem2T _ _ _ _ _ _ _ _ _) hnd2 hleW) rfl (by kernel_rfl) ?_
        repeat (any_goals (first | (refine M0 ?_; first | refine SL ?_ | refine SB fun _ _ => ?_ | refine Y4 (Ev.load_at tok 1 (g := gp) (o := 0) (j := 3) rfl rfl rfl rfl) ?_ | refine Y4 (Ev.load_at tok 1 (g := gp) (o := 0) (j := 4) rfl rfl rfl rfl) ?_ | refine Y4 (Ev.load_loc_agg tok 0 (g := gs) (o := 0) (n := 3) rfl rfl rfl rfl) ?_) | (refine M1 ?_; refine SC ?_) | (refine M2 ?_; refine SE ?_) | (refine M3 ?_; first | refine SG ?_ | refine SF ?_ | refine YF (Ev.load_at tok 1 (g := gp) (o := 0) (j := 3) rfl rfl rfl rfl) ?_ | refine YF (Ev.load_at tok 1 (g := gp) (o := 0) (j := 4) rfl rfl rfl rfl) ?_ | refine YF (Ev.load_loc_agg tok 0 (g := gs) (o := 0) (n := 3) rfl rfl rfl rfl) ?_) | (refine M4 ?_; refine SR ?_) | (refine M5 ?_; first | exact M7 | refine YM ?_ | refine YN ?_ ?_)))
        refine XL.entM tok 5 seaF rfl rfl rfl Tryz.underlying99 rfl hT8 hkey rfl (fun _ _ => rfl) (fun etk7 ntk7 b7 hm7 hb7 => ?_)
        repeat (first | (refine M0 ?_; first | refine SL ?_ | refine SB fun _ _ => ?_) | (refine M2 ?_; refine SE ?_) | (refine M3 ?_; first | refine SG ?_ | refine SF ?_) | (refine M4 ?_; refine SR ?_) | (refine M5 ?_; first | exact M7 | refine YM ?_ | refine YN ?_ ?_))
        refine z7 (hn := hnd2) ?_
        repeat (any_goals (first | (refine M0 ?_; first | refine SL ?_ | refine SB fun _ _ => ?_) | (refine M1 ?_; refine SC ?_) | (refine M2 ?_; refine SE ?_) | (refine M3 ?_; first | refine SG ?_ | refine SF ?_) | (refine M4 ?_; refine SR ?_) | (refine M5 ?_; first | exact M7 | refine YM ?_ | refine YN ?_ ?_)))
        refine XL.stoM 5 rfl rfl rfl rfl hm7 hb7 (fun _ _ => rfl) (fun etk9 ntk9 hT9 => ?_)
        rw [upd_upd, hsv, tkF_put] at hT9
        repeat (first | (refine M0 ?_; first | refine SL ?_ | refine SB fun _ _ => ?_) | (refine M2 ?_; refine SE ?_) | (refine M3 ?_; first | refine SG ?_ | refine SF ?_) | (refine M4 ?_; refine SR ?_) | (refine M5 ?_; first | exact M7 | refine YM ?_ | refine YN ?_ ?_))
        refine z7 (hn := hnd2) ?_
        repeat (any_goals (first | (refine M0 ?_; first | refine SL ?_ | refine SB fun _ _ => ?_) | (refine M1 ?_; refine SC ?_) | (refine M2 ?_; refine SE ?_) | (refine M3 ?_; first | refine SG ?_ | refine SF ?_) | (refine M4 ?_; refine SR ?_) | (refine M5 ?_; first | exact M7 | refine YM ?_ | refine YN ?_ ?_)))
        refine XL.entM tok 6 twnF rfl rfl rfl Tryz.underlying100 rfl hS8 ⟨_, rfl⟩ rfl (fun _ _ => rfl) (fun est7 nst7 b9 hm9 hb9 => ?_)
        repeat (first | (refine M0 ?_; first | refine SL ?_ | refine SB fun _ _ => ?_) | (refine M2 ?_; refine SE ?_) | (refine M3 ?_; first | refine SG ?_ | refine SF ?_) | (refine M4 ?_; refine SR ?_) | (refine M5 ?_; first | exact M7 | refine YM ?_ | refine YN ?_ ?_))
        refine z7 (hn := hnd2) ?_
        repeat (any_goals (first | (refine M0 ?_; first | refine SL ?_ | refine SB fun _ _ => ?_) | (refine M1 ?_; refine SC ?_) | (refine M2 ?_; refine SE ?_) | (refine M3 ?_; first | refine SG ?_ | refine SF ?_) | (refine M4 ?_; refine SR ?_) | (refine M5 ?_; first | exact M7 | refine YM ?_ | refine YN ?_ ?_)))
        refine XL.stoM 6 rfl rfl rfl rfl hm9 hb9 (fun _ _ => rfl) (fun est9 nst9 hS9 => ?_)
        rw [upd_upd, hsv, stF_put] at hS9
        repeat (first | (refine M0 ?_; first | refine SL ?_ | refine SB fun _ _ => ?_) | (refine M2 ?_; refine SE ?_) | (refine M3 ?_; first | refine SG ?_ | refine SF ?_) | (refine M4 ?_; refine SR ?_) | (refine M5 ?_; first | exact M7 | refine YM ?_ | refine YN ?_ ?_))
        refine z7 (hn := hnd2) ?_
        repeat (first | (refine M0 ?_; first | refine SL ?_ | refine SB fun _ _ => ?_) | (refine M2 ?_; refine SE ?_) | (refine M3 ?_; first | refine SG ?_ | refine SF ?_) | (refine M4 ?_; refine SR ?_) | (refine M5 ?_; first | exact M7 | refine YM ?_ | refine YN ?_ ?_))
        repeat (first | (refine M0 ?_; first | refine SL ?_ | refine SB fun _ _ => ?_) | (refine M1 ?_; refine SC ?_) | (refine M2 ?_; refine SE ?_))
        have hIn9 := InM.put (s := s) hIn8 hi hsin
        refine XL.updM 8 twnF rfl rfl rfl rfl Tryz.underlying103 hF ⟨_, rfl⟩ (fun _ _ => rfl) (fun esf1 nf1 hF1 => ?_)
        rw [fxF_put] at hF1
        repeat (first | (refine M0 ?_; first | refine SL ?_ | refine SB fun _ _ => ?_) | (refine M1 ?_; refine SC ?_) | (refine M2 ?_; refine SE ?_))
        rw [show decide (((o : Nat) : Int) = ((i : Nat) : Int)) = false from decide_eq_false (by omega)]
        repeat (first | (refine M0 ?_; first | refine SL ?_ | refine SB fun _ _ => ?_) | (refine M1 ?_; refine SC ?_) | (refine M2 ?_; refine SE ?_))
        refine XL.callr (fst := []) (cap := []) (fun w5 vv w10 => vv = .bool (Bs.settle (fun j => decide (j = i) || fx j) (t.seas now t.wet.length) t.wet o (((m.free i).free o).put s i)).1 ∧ ∃ etk' ntk' est' nst', PzIs t.wet etk' ntk' est' nst' (Bs.settle (fun j => decide (j = i) || fx j) (t.seas now t.wet.length) t.wet o (((m.free i).free o).put s i)).2 ∧ Sys B w5 [(mt, mapE etk' ntk'), (ms, mapE est' nst')] w10) (ck rfl) rfl rfl rfl (fun w5 S5 => ?_) (fun w5 vv w10 S5 hR => ?_)
        · have hK5 := hK8.sys S5 (hM9 _ _ _ _ _ _ _ _ _)
          exact settle_any (hb.below (hK5.below hSB hkB)) (S5.rebase (.cons _ (.cons _ (.cons _ (.cons _ (.cons _ (List.Sublist.refl _))))))) hF1 ⟨hT9, hS9, hIn9⟩ how
        obtain ⟨rfl, etk10, ntk10, est10, nst10, hz10, S10⟩ := hR
        refine ⟨_, w10, Sys.chg2 S5 5 6 rfl rfl rfl rfl S10, ?_⟩
        have hK10 := (hK8.sys S5 (hM9 _ _ _ _ _ _ _ _ _)).sys S10 fun e he => .inl (List.mem_append_left [gp, mf] (show e.1 ∈ [mt, ms] from List.mem_map.2 ⟨e, he, rfl⟩))
        have hT10 := hz10.tk
        have hS10 := hz10.st
        have hIn10 := hz10.inm
        cases hst : (Bs.settle (fun j => decide (j = i) || fx j) (t.seas now t.wet.length) t.wet o (((m.free i).free o).put s i)).1 with
        | true =>
          repeat (first | (refine M0 ?_; first | refine SL ?_ | refine SB fun _ _ => ?_) | (refine M1 ?_; refine SC ?_) | (refine M2 ?_; refine SE ?_))
          refine XE.retg tok Tryz.results29 rfl (by simp only [and_self, and_true]) (fun w' S => ?_)
          rw [tryL_4 htk hfx hoi hst] at hXk
          rw [← hXk]
          exact ⟨_, rfl, rfl, mt, ms, etk10, ntk10, est10, nst10, esf1, nf1, ⟨hT10, hS10, hIn10⟩, hF1, Kp3.sys hK10 S (hM9 _ _ _ _ _ _ _ _ _), fun k hk => .inl hk, S.rebase (.cons _ (.cons _ (.cons _ (.cons _ (.cons _ (List.Sublist.refl _))))))⟩
        | false =>
          repeat (first | (refine M0 ?_; first | refine SL ?_ | refine SB fun _ _ => ?_) | (refine M1 ?_; refine SC ?_) | (refine M2 ?_; refine SE ?_))
          refine XL.delM 8 twnF rfl rfl rfl Tryz.underlying103 hF1 ⟨_, rfl⟩ (fun _ _ => rfl) (fun esf2 nf2 hF2 => ?_)
          rw [fxF_del, fx_del] at hF2
          repeat (first | (refine M0 ?_; first | refine SL ?_ | refine SB fun _ _ => ?_) | (refine M1 ?_; refine SC ?_) | (refine M2 ?_; refine SE ?_))
          refine XE.retg tok Tryz.results29 rfl (by simp only [and_self, and_true]) (fun w' S => ?_)
          rw [tryL_5 htk hfx hoi hst] at hXk
          rw [← hXk]
          exact ⟨_, rfl, rfl, ma, mb, esa, na, esb, nb, esf2, nf2, ⟨hma2, hmb2, hz.inm⟩, hF2, hK10.sys S (hM9 _ _ _ _ _ _ _ _ _), hmab, (S.rebase (.cons _ (.cons _ (.cons_cons _ (.cons_cons _ (.cons _ (.cons _ (.cons _ (List.Sublist.refl _))))))))).perm (permAt 1 rfl (List.Perm.refl _))⟩
end X
namespace X
open Go Go.RowKit Bs
def sloC (x : Int × Int × Int) : List Value := [.int .i64 x.1, .int .i64 x.2.1, .int .i64 x.2.2]
def sloK : Kind (Int × Int × Int) := ⟨71, 3, sloC, fun _ => [], fun _ => rfl⟩
theorem slo_el : elemOk Tryz.prog 57 71 3 24 = true := by kernel_rfl
theorem Sys.low {B B' : Nat} {w0 w : World} {L : Lo} (S : Sys B' w0 L w) (h : B ≤ B') : Sys B w0 L w := ⟨S.os, S.tape, S.output, S.size, Nat.le_trans h S.base, S.old, fun e he => ⟨Nat.le_trans h (S.own e he).1, (S.own e he).2⟩, S.nd⟩
theorem Sys.high {B B' : Nat} {w0 w : World} {L : Lo} (S : Sys B w0 L w) (h : ∀ e, e ∈ L → B' ≤ e.1) (hB : B' ≤ w0.heap.size) : Sys B' w0 L w := ⟨S.os, S.tape, S.output, S.size, hB, S.old, fun e he => ⟨h e he, (S.own e he).2⟩, S.nd⟩
theorem XC.high {P : Program} {N B B' : Nat} {w0 : World} {ds : List Deferred} {Q : Exit → Act → World → Prop} {F : Fr} {L : Lo} {c : Code} (h : ∀ e, e ∈ L → B' ≤ e.1) (hB : B' ≤ w0.heap.size) (k : XC P N B' w0 ds Q c F L) : XC P N B w0 ds Q c F L :=
  ⟨fun a w hf hs => k.run a w hf (hs.high h hB)⟩
structure QF (W0 : World) (b1 D g12 g8 mf g7 gp g21 g31 i gb : Nat) (now : Int) (rT : SV) (row : RowX) (Ds : List Nat) (W : World) (mt ms : Nat) : Prop where
  bel : Below b1 W0 W
  pln : W.heap[gp]? = some (cel 102 [.pointer (some ⟨gb, 0, none⟩), .int .i64 now, .slice rT.A rT.n rT.c, .map (some mt), .map (some ms)])
  c21 : W.heap[g21]? = some (cel 97 [.pointer (some ⟨gp, 0, none⟩)])
  c31 : W.heap[g31]? = some (cel 3 [.int .i64 (i : Nat)])
  fam : Fam W b1 [D + 1, D, g12, g8, mf, g7, gp, ms, mt, g21, g31] [row] [hDef Ds]
  nd : [D + 1, D, g12, g8, mf, g7, gp, ms, mt, g21, g31].Nodup
  ge : ∀ k, k ∈ [D + 1, D, g12, g8, mf, g7, gp, ms, mt, g21, g31] → b1 ≤ k
  lt : ∀ k, k ∈ [D + 1, D, g12, g8, mf, g7, gp, ms, mt, g21, g31] → k < W.heap.size
section
variable {W0 W w1 w5 w6 w' : World} {b1 D g12 g8 mf g7 gp g21 g31 i gb g13 mt ms mt' ms' : Nat} {now : Int} {rT : SV} {row : RowX} {Ds : List Nat}
theorem QF.kp (h : QF W0 b1 D g12 g8 mf g7 gp g21 g31 i gb now rT row Ds W mt ms) {ks : List Nat} (hK : Kp3 ks W w') (hB : b1 ≤ W.heap.size) (hks : ∀ k, k ∈ ks → k ∈ [D + 1, D, g12, g8, mf, g7, gp, ms, mt] ∨ W.heap.size ≤ k)
    (hf : ∀ k, k ∈ [ms', mt'] → k ∈ [ms, mt] ∨ W.heap.size ≤ k) (hne : ms' ≠ mt') (hl : ms' < w'.heap.size ∧ mt' < w'.heap.size) (hp : w'.heap[gp]? = some (cel 102 [.pointer (some ⟨gb, 0, none⟩), .int .i64 now, .slice rT.A rT.n rT.c, .map (some mt'), .map (some ms')])) :
    QF W0 b1 D g12 g8 mf g7 gp g21 g31 i gb now rT row Ds w' mt' ms' := by
  have hnd := h.nd
  have hd : ∀ a, a ∈ [D + 1, D, g12, g8, mf, g7, gp, ms, mt] → ∀ b, b ∈ [g21, g31] → a ≠ b := (List.nodup_append.1 (show ([D + 1, D, g12, g8, mf, g7, gp, ms, mt] ++ [g21, g31]).Nodup from hnd)).2.2
  have hn2 : [g21, g31].Nodup := (List.nodup_append.1 (show ([D + 1, D, g12, g8, mf, g7, gp, ms, mt] ++ [g21, g31]).Nodup from hnd)).2.1
  have h7 : [D + 1, D, g12, g8, mf, g7, gp].Nodup := (List.nodup_append.1 (show ([D + 1, D, g12, g8, mf, g7, gp] ++ [ms, mt, g21, g31]).Nodup from hnd)).1
  have h7d : ∀ a, a ∈ [D + 1, D, g12, g8, mf, g7, gp] → ∀ b, b ∈ [ms, mt, g21, g31] → a ≠ b := (List.nodup_append.1 (show ([D + 1, D, g12, g8, mf, g7, gp] ++ [ms, mt, g21, g31]).Nodup from hnd)).2.2
  have ho : ∀ g, g ∈ [g21, g31] → w'.heap[g]? = W.heap[g]? := fun g hg => by
    have hlt : g < W.heap.size := h.lt g (List.mem_append_right [D + 1, D, g12, g8, mf, g7, gp, ms, mt] hg)
    refine hK.old g hlt fun hk => ?_
    rcases hks g hk with h2 | h2
    · exact hd g h2 g hg rfl
    · omega
  have hmem : ∀ k, k ∈ [D + 1, D, g12, g8, mf, g7, gp, ms', mt', g21, g31] → k ∈ [D + 1, D, g12, g8, mf, g7, gp] ∨ k ∈ [ms', mt'] ∨ k ∈ [g21, g31] := fun k hk => by
    rcases List.mem_append.1 (show k ∈ [D + 1, D, g12, g8, mf, g7, gp] ++ [ms', mt', g21, g31] from hk) with h2 | h2
    · exact .inl h2
    · exact .inr (List.mem_append.1 (show k ∈ [ms', mt'] ++ [g21, g31] from h2))
  have hin : ∀ k, k ∈ [D + 1, D, g12, g8, mf, g7, gp, ms', mt', g21, g31] → k ∈ [D + 1, D, g12, g8, mf, g7, gp, ms, mt, g21, g31] ∨ W.heap.size ≤ k := fun k hk => by
    rcases hmem k hk with h2 | h2 | h2
    · exact .inl (List.mem_append_left [ms, mt, g21, g31] h2)
    · rcases hf k h2 with h3 | h3
      · exact .inl (List.mem_append_right [D + 1, D, g12, g8, mf, g7, gp] (List.mem_append_left [g21, g31] h3))
      · exact .inr h3
    · exact .inl (List.mem_append_right [D + 1, D, g12, g8, mf, g7, gp, ms, mt] h2)
  have hF : Fam w' b1 [D + 1, D, g12, g8, mf, g7, gp, ms', mt', g21, g31] [row] [hDef Ds] := by
    have h2 := h.fam.add (ks' := ks ++ [D + 1, D, g12, g8, mf, g7, gp, ms', mt', g21, g31]) fun k hk => by
      rcases List.mem_append.1 hk with h3 | h3
      · rcases hks k h3 with h4 | h4
        · exact .inl (List.mem_append_left [g21, g31] h4)
        · exact .inr h4
      · exact hin k h3
    exact (h2.move hK.size fun j hj hn => hK.old j hj fun h3 => hn (List.mem_append_left _ h3)).add fun k hk => .inl (List.mem_append_right _ hk)
  refine ⟨h.bel.trans (hK.below hB fun k hk => ?_), hp, (ho g21 (.head _)).trans h.c21, (ho g31 (.tail _ (.head _))).trans h.c31, hF, ?_, fun k hk => ?_, fun k hk => ?_⟩
  · rcases hks k hk with h2 | h2
    · exact h.ge k (List.mem_append_left [g21, g31] h2)
    · omega
  · have hmd : ∀ k, k ∈ [ms', mt'] → k ∉ [D + 1, D, g12, g8, mf, g7, gp] ∧ k ∉ [g21, g31] := fun k hk => by
      rcases hf k hk with h2 | h2
      · exact ⟨fun h3 => h7d k h3 k (List.mem_append_left [g21, g31] h2) rfl, fun h3 => hd k (List.mem_append_right [D + 1, D, g12, g8, mf, g7, gp] h2) k h3 rfl⟩
      · exact ⟨fun h3 => by have := h.lt k (List.mem_append_left [ms, mt, g21, g31] h3); omega, fun h3 => by have := h.lt k (List.mem_append_right [D + 1, D, g12, g8, mf, g7, gp, ms, mt] h3); omega⟩
    show ([D + 1, D, g12, g8, mf, g7, gp] ++ ([ms', mt'] ++ [g21, g31])).Nodup
    refine List.nodup_append.2 ⟨h7, List.nodup_append.2 ⟨by simp [hne], hn2, fun a ha b hb e => (hmd a ha).2 (e ▸ hb)⟩, fun a ha b hb e => ?_⟩
    rcases List.mem_append.1 hb with h2 | h2
    · exact (hmd b h2).1 (e ▸ ha)
    · exact hd a (List.mem_append_left [ms, mt] ha) b h2 e
  · rcases hin k hk with h2 | h2
    · exact h.ge k h2
    · omega
  · rcases hmem k hk with h2 | h2 | h2
    · exact Nat.lt_of_lt_of_le (h.lt k (List.mem_append_left [ms, mt, g21, g31] h2)) hK.size
    · rcases List.mem_cons.1 h2 with rfl | h2
      · exact hl.1
      · rw [List.mem_singleton.1 h2]; exact hl.2
    · exact Nat.lt_of_lt_of_le (h.lt k (List.mem_append_right [D + 1, D, g12, g8, mf, g7, gp, ms, mt] h2)) hK.size
theorem QF.sep (h : QF W0 b1 D g12 g8 mf g7 gp g21 g31 i gb now rT row Ds W mt ms) : ∀ k, k ∈ [D + 1, D, g12, g8, mf, g7, ms, mt] → k ≠ gp ∧ k ≠ g21 ∧ k ≠ g31 := fun k hk => by
  have hn := h.nd
  have h1 := (List.nodup_append.1 (show ([D + 1, D, g12, g8, mf, g7] ++ [gp, ms, mt, g21, g31]).Nodup from hn)).2.2
  have h2 := (List.nodup_append.1 (show ([D + 1, D, g12, g8, mf, g7, gp, ms, mt] ++ [g21, g31]).Nodup from hn)).2.2
  have h3 := (List.nodup_append.1 (show ([D + 1, D, g12, g8, mf, g7] ++ ([gp] ++ [ms, mt, g21, g31])).Nodup from hn)).2.1
  have h4 := (List.nodup_append.1 h3).2.2
  rcases List.mem_append.1 (show k ∈ [D + 1, D, g12, g8, mf, g7] ++ [ms, mt] from hk) with h5 | h5
  · exact ⟨h1 k h5 gp (.head _), h2 k (List.mem_append_left [gp, ms, mt] h5) g21 (.head _), h2 k (List.mem_append_left [gp, ms, mt] h5) g31 (.tail _ (.head _))⟩
  · exact ⟨fun e => h4 gp (.head _) k (List.mem_append_left [g21, g31] h5) e.symm, h2 k (List.mem_append_right [D + 1, D, g12, g8, mf, g7, gp] h5) g21 (.head _), h2 k (List.mem_append_right [D + 1, D, g12, g8, mf, g7, gp] h5) g31 (.tail _ (.head _))⟩
theorem QF.start {lv : RowX} {wX w2 w4 : World} {L1 L3 : Lo} (hB : Below b1 W0 W) (hF : Fam W b1 [g8, mf, g7, gp, ms, mt] [lv] [hDef Ds]) (hg12 : W.heap.size ≤ g12) (hbW : b1 ≤ W.heap.size)
    (S1 : Sys b1 W L1 wX) (hL1 : L1.map (·.1) = [g12, g8, mf, g7, gp, ms, mt]) (S2 : Sys wX.heap.size wX [(g31, cel 3 [.int .i64 (i : Nat)]), (g21, cel 97 [.pointer (some ⟨gp, 0, none⟩)])] w2) (hD : w2.heap.size ≤ D) (S3 : Sys b1 w2 L3 w4) (hL3 : L3.map (·.1) = [D + 1, D, g12, g8, mf, g7, gp, ms, mt])
    (hp : (gp, cel 102 [.pointer (some ⟨gb, 0, none⟩), .int .i64 now, .slice rT.A rT.n rT.c, .map (some mt), .map (some ms)]) ∈ L3) : QF W0 b1 D g12 g8 mf g7 gp g21 g31 i gb now rT lv Ds w4 mt ms := by
  have h21 := S2.own _ (.tail _ (.head _))
  have h31 := S2.own _ (.head _)
  have l21 := S2.lt (e := (g21, _)) (.tail _ (.head _))
  have l31 := S2.lt (e := (g31, _)) (.head _)
  have hn2 := S2.nd
  have hnd := S3.nd
  rw [hL3] at hnd
  have hlt1 : ∀ x, x ∈ [g12, g8, mf, g7, gp, ms, mt] → x < wX.heap.size := fun x hx => S1.keyLt x (by rw [hL1]; exact hx)
  have hwX := S1.size
  have hw4 := S3.size
  simp only at h21 h31 l21 l31
  have hk9 : ∀ g, wX.heap.size ≤ g → g < w2.heap.size → g ∉ [D + 1, D, g12, g8, mf, g7, gp, ms, mt] := fun g h1 h2 h => by
    rcases List.mem_cons.1 h with h | h
    · omega
    rcases List.mem_cons.1 h with h | h
    · omega
    · have := hlt1 g h; omega
  have ho : ∀ g, wX.heap.size ≤ g → g < w2.heap.size → w4.heap[g]? = w2.heap[g]? := fun g h1 h2 => S3.old g h2 fun e he e1 => hk9 g h1 h2 (by rw [← e1, ← hL3]; exact List.mem_map.2 ⟨e, he, rfl⟩)
  have hF1 : Fam wX b1 [g12, g8, mf, g7, gp, ms, mt] [lv] [hDef Ds] := (hF.add (ks' := [g12, g8, mf, g7, gp, ms, mt]) (fun k hk => by
    rcases List.mem_cons.1 hk with rfl | hk
    · exact .inr hg12
    · exact .inl hk)).sys S1 fun e he => .inl (by rw [← hL1]; exact List.mem_map.2 ⟨e, he, rfl⟩)
  have hF2 : Fam w2 b1 [g12, g8, mf, g7, gp, ms, mt, g21, g31] [lv] [hDef Ds] := (hF1.add (ks' := [g12, g8, mf, g7, gp, ms, mt, g21, g31]) (fun k hk => by
    rcases List.mem_append.1 (show k ∈ [g12, g8, mf, g7, gp, ms, mt] ++ [g21, g31] from hk) with h | h
    · exact .inl h
    · rcases List.mem_cons.1 h with rfl | h
      · exact .inr h21.1
      · rw [List.mem_singleton.1 h]; exact .inr h31.1)).below S2.toBelow
  have hF4 : Fam w4 b1 [D + 1, D, g12, g8, mf, g7, gp, ms, mt, g21, g31] [lv] [hDef Ds] := (hF2.add (ks' := [D + 1, D, g12, g8, mf, g7, gp, ms, mt, g21, g31]) (fun k hk => by
    rcases List.mem_cons.1 hk with rfl | hk
    · exact .inr (by omega)
    rcases List.mem_cons.1 hk with rfl | hk
    · exact .inr hD
    · exact .inl hk)).sys S3 fun e he => .inl (List.mem_append_left [g21, g31] (show e.1 ∈ [D + 1, D, g12, g8, mf, g7, gp, ms, mt] by rw [← hL3]; exact List.mem_map.2 ⟨e, he, rfl⟩))
  have key3 : ∀ k, k ∈ [D + 1, D, g12, g8, mf, g7, gp, ms, mt] → b1 ≤ k ∧ k < w4.heap.size := fun k hk => by
    rw [← hL3] at hk
    obtain ⟨e, he, rfl⟩ := List.mem_map.1 hk
    exact ⟨(S3.own e he).1, S3.lt he⟩
  refine ⟨hB.trans (S1.toBelow.trans ((S2.toBelow.mono (Nat.le_trans hbW hwX)).trans S3.toBelow)), (S3.own _ hp).2, (ho g21 h21.1 l21).trans h21.2, (ho g31 h31.1 l31).trans h31.2, hF4, ?_, fun k hk => ?_, fun k hk => ?_⟩
  · show ([D + 1, D, g12, g8, mf, g7, gp, ms, mt] ++ [g21, g31]).Nodup
    refine List.nodup_append.2 ⟨hnd, ?_, fun a ha b hb e => ?_⟩
    · simp only [List.map_cons, List.map_nil, List.nodup_cons, List.mem_cons, List.not_mem_nil, or_false, not_false_eq_true, List.nodup_nil, and_true] at hn2 ⊢
      exact fun e => hn2 e.symm
    · rcases List.mem_cons.1 hb with h | h
      · exact hk9 g21 h21.1 l21 (by rw [← h, ← e]; exact ha)
      · exact hk9 g31 h31.1 l31 (by rw [← List.mem_singleton.1 h, ← e]; exact ha)
  · rcases List.mem_append.1 (show k ∈ [D + 1, D, g12, g8, mf, g7, gp, ms, mt] ++ [g21, g31] from hk) with h | h
    · exact (key3 k h).1
    · rcases List.mem_cons.1 h with rfl | h
      · omega
      · rw [List.mem_singleton.1 h]; omega
  · rcases List.mem_append.1 (show k ∈ [D + 1, D, g12, g8, mf, g7, gp, ms, mt] ++ [g21, g31] from hk) with h | h
    · exact (key3 k h).2
    · rcases List.mem_cons.1 h with rfl | h
      · omega
      · rw [List.mem_singleton.1 h]; omega
theorem QF.sys (h : QF W0 b1 D g12 g8 mf g7 gp g21 g31 i gb now rT row Ds W mt ms) (hB : b1 ≤ W.heap.size) {o1 o2 o3 o4 o5 o6 o7 o8 : Obj} (S : Sys b1 W [(D + 1, o1), (D, o2), (g12, o3), (g8, o4), (mf, o5), (g7, o6), (ms, o7), (mt, o8)] w1) :
    Sys b1 w1 ([(D + 1, o1), (D, o2), (g12, o3), (g8, o4)] ++ [(mf, o5), (g7, o6), (gp, cel 102 [.pointer (some ⟨gb, 0, none⟩), .int .i64 now, .slice rT.A rT.n rT.c, .map (some mt), .map (some ms)]), (ms, o7), (mt, o8)]) w1 ∧ QF W0 b1 D g12 g8 mf g7 gp g21 g31 i gb now rT row Ds w1 mt ms := by
  have hgp : w1.heap[gp]? = some (cel 102 [.pointer (some ⟨gb, 0, none⟩), .int .i64 now, .slice rT.A rT.n rT.c, .map (some mt), .map (some ms)]) := (S.old gp (h.lt gp (by simp)) fun e he e1 => (h.sep e.1 (List.mem_map.2 ⟨e, he, rfl⟩)).1 e1).trans h.pln
  refine ⟨Sys.start (Nat.le_trans hB S.size) (fun e he => ?_) ((List.nodup_append.1 (show ([D + 1, D, g12, g8, mf, g7, gp, ms, mt] ++ [g21, g31]).Nodup from h.nd)).1), ?_⟩
  · simp only [List.cons_append, List.nil_append, List.mem_cons, List.not_mem_nil, or_false] at he
    rcases he with rfl | rfl | rfl | rfl | rfl | rfl | rfl | rfl | rfl
    · exact S.own _ (.head _)
    · exact S.own _ (.tail _ (.head _))
    · exact S.own _ (.tail _ (.tail _ (.head _)))
    · exact S.own _ (.tail _ (.tail _ (.tail _ (.head _))))
    · exact S.own _ (.tail _ (.tail _ (.tail _ (.tail _ (.head _)))))
    · exact S.own _ (.tail _ (.tail _ (.tail _ (.tail _ (.tail _ (.head _))))))
    · exact ⟨h.ge gp (by simp), hgp⟩
    · exact S.own _ (.tail _ (.tail _ (.tail _ (.tail _ (.tail _ (.tail _ (.head _)))))))
    · exact S.own _ (.tail _ (.tail _ (.tail _ (.tail _ (.tail _ (.tail _ (.tail _ (.head _))))))))
  · have hmm : ms ≠ mt := fun e => by
      have := (List.nodup_append.1 (show ([D + 1, D, g12, g8, mf, g7, gp] ++ [ms, mt, g21, g31]).Nodup from h.nd)).2.1
      rw [e] at this
      simp at this
    refine h.kp (Kp3.refl.sys (ks := [D + 1, D, g12, g8, mf, g7, ms, mt]) S fun e he => .inl (List.mem_map.2 ⟨e, he, rfl⟩)) hB (fun k hk => .inl ?_) (fun k hk => .inl hk) hmm ⟨S.lt (e := (ms, o7)) (by simp), S.lt (e := (mt, o8)) (by simp)⟩ hgp
    rcases List.mem_append.1 (show k ∈ [D + 1, D, g12, g8, mf, g7] ++ [ms, mt] from hk) with h5 | h5
    · exact List.mem_append_left [gp, ms, mt] h5
    · exact List.mem_append_right [D + 1, D, g12, g8, mf, g7, gp] h5
theorem QF.round (h : QF W0 b1 D g12 g8 mf g7 gp g21 g31 i gb now rT row Ds w1 mt ms) (hB : b1 ≤ w1.heap.size) (hg13 : w1.heap.size ≤ g13) {L5 L6 : Lo} (S5 : Sys b1 w1 L5 w5) (h5 : L5.map (·.1) = [g13, D + 1, D, g12, g8, mf, g7, gp, ms, mt])
    (hK : Kp3 [mt, ms, gp, mf] w5 w6) (hf : ∀ k, k ∈ [mt', ms'] → k ∈ [mt, ms] ∨ w5.heap.size ≤ k) (S : Sys b1 w6 L6 w') (h6 : L6.map (·.1) = [g13, D + 1, D, g12, g8, mf, g7, gp, ms', mt'])
    (hp : (gp, cel 102 [.pointer (some ⟨gb, 0, none⟩), .int .i64 now, .slice rT.A rT.n rT.c, .map (some mt'), .map (some ms')]) ∈ L6) : QF W0 b1 D g12 g8 mf g7 gp g21 g31 i gb now rT row Ds w' mt' ms' := by
  have hf2 : ∀ k, k ∈ [ms', mt'] → k ∈ [ms, mt] ∨ w1.heap.size ≤ k := fun k hk => by
    simp only [List.mem_cons, List.not_mem_nil, or_false] at hk hf ⊢
    have hsz := S5.size
    rcases hf k hk.symm with h2 | h2
    · exact .inl h2.symm
    · right; omega
  have hmm : ms' ≠ mt' := fun e => by
    have := S.nd
    rw [h6] at this
    have := (List.nodup_append.1 (show ([g13, D + 1, D, g12, g8, mf, g7, gp] ++ [ms', mt']).Nodup from this)).2.1
    rw [e] at this
    simp at this
  have hlt : ∀ k, k ∈ [g13, D + 1, D, g12, g8, mf, g7, gp, ms', mt'] → k < w'.heap.size := fun k hk => S.keyLt k (by rw [h6]; exact hk)
  have hKK : Kp3 ([g13, D + 1, D, g12, g8, mf, g7, gp, ms, mt] ++ [ms', mt']) w1 w' := by
    have k1 : Kp3 ([g13, D + 1, D, g12, g8, mf, g7, gp, ms, mt] ++ [ms', mt']) w1 w5 := Kp3.refl.sys S5 fun e he => .inl (List.mem_append_left _ (by rw [← h5]; exact List.mem_map.2 ⟨e, he, rfl⟩))
    have k2 : Kp3 ([g13, D + 1, D, g12, g8, mf, g7, gp, ms, mt] ++ [ms', mt']) w5 w6 := hK.more fun k hk => by
      simp only [List.mem_cons, List.not_mem_nil, or_false] at hk
      rcases hk with rfl | rfl | rfl | rfl <;> simp
    have k3 : Kp3 ([g13, D + 1, D, g12, g8, mf, g7, gp, ms, mt] ++ [ms', mt']) w6 w' := Kp3.refl.sys S fun e he => .inl (by
      have h7 : e.1 ∈ [g13, D + 1, D, g12, g8, mf, g7, gp] ++ [ms', mt'] := by rw [show [g13, D + 1, D, g12, g8, mf, g7, gp] ++ [ms', mt'] = L6.map (·.1) from h6.symm]; exact List.mem_map.2 ⟨e, he, rfl⟩
      rcases List.mem_append.1 h7 with h8 | h8
      · exact List.mem_append_left _ (List.mem_append_left [ms, mt] h8)
      · exact List.mem_append_right _ h8)
    exact (k1.trans k2).trans k3
  refine h.kp hKK hB (fun k hk => ?_) hf2 hmm ⟨hlt ms' (by simp), hlt mt' (by simp)⟩ (S.own _ hp).2
  rcases List.mem_append.1 hk with h2 | h2
  · rcases List.mem_cons.1 h2 with rfl | h2
    · exact .inr hg13
    · exact .inl h2
  · rcases hf2 k h2 with h3 | h3
    · exact .inl (List.mem_append_right [D + 1, D, g12, g8, mf, g7, gp] h3)
    · exact .inr h3
end
theorem Sys.swapP {B mt ms gp mf mt' ms' : Nat} {w0 w5 w6 : World} {A : Lo} {of o7 op os ot of' op' os' ot' : Obj} {g7 : Nat} (S5 : Sys B w0 (A ++ [(mf, of), (g7, o7), (gp, op), (ms, os), (mt, ot)]) w5) (hK : Kp3 [mt, ms, gp, mf] w5 w6) (hf : ∀ k, k ∈ [mt', ms'] → k ∈ [mt, ms] ∨ w5.heap.size ≤ k)
    (S6 : Sys B w6 [(mt', ot'), (ms', os'), (gp, op'), (mf, of')] w6) : Sys B w6 (A ++ [(mf, of'), (g7, o7), (gp, op'), (ms', os'), (mt', ot')]) w6 := by
  have hn := S5.nd
  rw [List.map_append] at hn
  obtain ⟨hnA, hn5, hdA⟩ := List.nodup_append.1 hn
  simp only [List.map_cons, List.map_nil] at hn5 hdA
  have hn6 := S6.nd
  simp only [List.map_cons, List.map_nil, List.nodup_cons, List.mem_cons, List.not_mem_nil, or_false, not_or, not_false_eq_true, List.nodup_nil, and_true] at hn6 hn5
  have hA : ∀ e, e ∈ A → e.1 ∉ [mt, ms, gp, mf] := fun e he h => by
    refine hdA e.1 (List.mem_map.2 ⟨e, he, rfl⟩) e.1 ?_ rfl
    simp only [List.mem_cons, List.not_mem_nil, or_false] at h ⊢
    rcases h with h | h | h | h <;> simp [h]
  have h7 : g7 ∉ [mt, ms, gp, mf] := fun h => by
    simp only [List.mem_cons, List.not_mem_nil, or_false] at h
    omega
  have hfA : ∀ k, k ∈ [mt', ms'] → (∀ e, e ∈ A → e.1 ≠ k) ∧ g7 ≠ k := fun k hk => by
    rcases hf k hk with h | h
    · refine ⟨fun e he e1 => hA e he (by rw [e1]; exact List.mem_append_left [gp, mf] h), fun e1 => h7 (by rw [e1]; exact List.mem_append_left [gp, mf] h)⟩
    · refine ⟨fun e he e1 => ?_, fun e1 => ?_⟩
      · have := S5.lt (List.mem_append_left _ he); omega
      · have := S5.lt (e := (g7, o7)) (List.mem_append_right _ (.tail _ (.head _))); simp only at this; omega
  have a1 := hfA mt' (.head _)
  have a2 := hfA ms' (.tail _ (.head _))
  refine Sys.start S6.base (fun e he => ?_) ?_
  · rcases List.mem_append.1 he with he | he
    · exact ⟨(S5.own e (List.mem_append_left _ he)).1, (hK.old e.1 (S5.lt (List.mem_append_left _ he)) (hA e he)).trans (S5.own e (List.mem_append_left _ he)).2⟩
    · simp only [List.mem_cons, List.not_mem_nil, or_false] at he
      rcases he with rfl | rfl | rfl | rfl | rfl
      · exact S6.own _ (.tail _ (.tail _ (.tail _ (.head _))))
      · have h2 := S5.own (g7, o7) (List.mem_append_right _ (.tail _ (.head _)))
        exact ⟨h2.1, (hK.old g7 (S5.lt (e := (g7, o7)) (List.mem_append_right _ (.tail _ (.head _)))) h7).trans h2.2⟩
      · exact S6.own _ (.tail _ (.tail _ (.head _)))
      · exact S6.own _ (.tail _ (.head _))
      · exact S6.own _ (.head _)
  · rw [List.map_append]
    refine List.nodup_append.2 ⟨hnA, ?_, fun a ha b hb e => ?_⟩
    · simp only [List.map_cons, List.map_nil, List.nodup_cons, List.mem_cons, List.not_mem_nil, or_false, not_or, not_false_eq_true, List.nodup_nil, and_true]
      have b1 := a1.2
      have b2 := a2.2
      omega
    · obtain ⟨x, hx, rfl⟩ := List.mem_map.1 ha
      simp only [List.map_cons, List.map_nil, List.mem_cons, List.not_mem_nil, or_false] at hb
      have h2 := hA x hx
      simp only [List.mem_cons, List.not_mem_nil, or_false, not_or] at h2
      have c1 := a1.1 x hx
      have c2 := a2.1 x hx
      have h8 := hdA x.1 (List.mem_map.2 ⟨x, hx, rfl⟩) g7 (.tail _ (.head _))
      rcases hb with rfl | rfl | rfl | rfl | rfl
      · exact h2.2.2.2 e
      · exact h8 e
      · exact h2.2.2.1 e
      · exact c2 e
      · exact c1 e
end X
namespace X
open Go Go.RowKit Bs
theorem atE_0 {t : ATk} {now : Int} (h : t.atE now = 0) : t.alE = 0 ∧ 0 ≤ now ∧ now ≤ 200000 := by
  unfold ATk.atE at h
  split at h
  · rename_i h1; exact absurd h h1
  · rename_i h1
    split at h
    · cases h
    · rename_i h2
      have := outB_f.1 (by simpa using h2)
      exact ⟨by simpa using h1, this.1, this.2⟩
def PlanV (t : ATk) (now : Int) (x : Value) (new : List Held) : Prop := (t.planE now ≠ 0 ∧ x = .tuple ⟨[.slice none 0 0, .int .i64 (t.planE now)]⟩ ∧ new = []) ∨ (t.planE now = 0 ∧ ∃ r : SV, x = .tuple ⟨[svV r, .int .i64 0]⟩ ∧ new = [hList sloK r (t.planL now)])
structure Pz where
  W : World
  etk : List MapEntry
  ntk : Nat
  est : List MapEntry
  nst : Nat
  m : Mps
structure Qz where
  W : World
  mt : Nat
  ms : Nat
  etk : List MapEntry
  ntk : Nat
  est : List MapEntry
  nst : Nat
  esf : List MapEntry
  nf : Nat
  z : (Nat → Bool) × Mps
  lv : Value
  dn : List (Int × Int × Int)
  Ds : List Nat
structure Rz where
  W : World
  mt : Nat
  ms : Nat
  etk : List MapEntry
  ntk : Nat
  est : List MapEntry
  nst : Nat
  esf : List MapEntry
  nf : Nat
  z : (Nat → Bool) × Mps
  st : LoopState
  pe : Option Code
set_option maxHeartbeats 32000000 in
set_option maxRecDepth 10000 in
theorem plan_made {v : ATV} {t : ATk} {now : Int} {w : World} (hL : Laid w) (ht : AtAt w w.heap.size v t) (hl : ∀ x, x ∈ t.twn → x.chs.length ≤ 5000000) :
    Calls Tryz.prog 8 #[atkV v t, .int .i64 now] w (Made w (PlanV t now)) := by
  have hat := fun (w' : World) (hB : Below w.heap.size w w') => at_made (v := v) (t := t) (now := now) (w := w') (hL.below hB) (ht.sys (Sys.ofBelow hB)) hl
  simp only [atkV, atkC] at hat ⊢
  refine enterM Tryz.func8 rfl Tryz.ntmps8 rfl ?_; simp only [frame, Nat.zero_add, Nat.reduceAdd]
  repeat (first | (refine M0 ?_; first | refine SL ?_ | refine SB fun _ _ => ?_) | (refine M1 ?_; refine SC ?_) | (refine M2 ?_; refine SE ?_))
  rename_i g2 hg2
  refine XL.callF (AtV now v t) (ck rfl) rfl rfl (Fam.start (ks := []) (Nat.le_refl w.heap.size)) (fun _ h => by cases h) (Below.refl w.heap.size w) (fun w1 S1 _ _ => hat w1 S1.toBelow) (fun w2 u new hR hF2 hB2 hk2 => ?_)
  rcases hR with ⟨hne, rfl, rfl⟩ | ⟨h0, gb, q, r, rfl, rfl⟩
  · have hE : t.planE now = t.atE now := by unfold ATk.planE; rw [if_pos hne]
    repeat (first | (refine M0 ?_; first | refine SL ?_ | refine SB fun _ _ => ?_) | (refine M1 ?_; refine SC ?_) | (refine M2 ?_; refine SE ?_))
    refine XC.cond _ rfl (fun h1 => ?_) (fun h1 => absurd hne (by simpa using h1))
    repeat (first | (refine M0 ?_; first | refine SL ?_ | refine SB fun _ _ => ?_) | (refine M1 ?_; refine SC ?_) | (refine M2 ?_; refine SE ?_))
    refine XE.retM0 tok Tryz.results8 rfl (by simp only [and_self, and_true]) (fun w' S => ?_)
    exact ⟨_, [], rfl, .inl ⟨by rw [hE]; exact hne, by rw [hE]; rfl, rfl⟩, (fun _ h => nomatch h), hB2.trans S.toBelow⟩
  obtain ⟨hal, hnow⟩ := atE_0 h0
  have hO := alOk_of hal
  have h8 := hO.n8
  repeat (first | (refine M0 ?_; first | refine SL ?_ | refine SB fun _ _ => ?_) | (refine M1 ?_; refine SC ?_) | (refine M2 ?_; refine SE ?_))
  refine XL.callF (WetV t) (ck rfl) rfl rfl hF2 hk2 hB2 (fun w1 S1 hF1 _ => wet_made ((hF1.held (hBrd gb v t q r) (.head _)).mono fun j hj => hj.2.1) (by omega)) (fun w3 u new hR hF3 hB3 hk3 => ?_)
  obtain ⟨rT, rfl, rfl⟩ := hR
  simp only [svV]
  refine XL.makeMap rfl (fun mt hmt => ?_)
  repeat (first | (refine M0 ?_; first | refine SL ?_ | refine SB fun _ _ => ?_) | (refine M1 ?_; refine SC ?_) | (refine M2 ?_; refine SE ?_))
  refine XL.makeMap rfl (fun ms hms => ?_)
  repeat (first | (refine M0 ?_; first | refine SL ?_ | refine SB fun _ _ => ?_) | (refine M1 ?_; refine SC ?_) | (refine M2 ?_; refine SE ?_))
  rename_i gp hgp g7 hg7
  refine XL.makeMap rfl (fun mf hmf => ?_)
  repeat (first | (refine M0 ?_; first | refine SL ?_ | refine SB fun _ _ => ?_) | (refine M1 ?_; refine SC ?_) | (refine M2 ?_; refine SE ?_))
  rename_i g8 hg8
  have hb3 : w.heap.size ≤ w3.heap.size := hB3.size
  have hwl : rT.n = (t.wet.map fun i => ((i : Nat) : Int)).length := IntsAt.len (show IntsAt w3 _ rT (t.wet.map fun i => ((i : Nat) : Int)) from hF3.held (hInts rT (t.wet.map fun i => ((i : Nat) : Int))) (.head _))
  rw [List.length_map] at hwl
  have hW8 : t.wet.length ≤ t.twn.length := by
    unfold ATk.wet
    exact Nat.le_trans (List.length_filter_le _ _) (by simp)
  obtain ⟨Ar, nr, cr⟩ := rT
  simp only at hwl
  subst hwl
  simp only
  repeat (first | (refine M0 ?_; first | refine SL ?_ | refine SB fun _ _ => ?_ | refine Y4 (Ev.load_at tok 3 (g := gp) (o := 0) (j := 2) rfl rfl rfl rfl) ?_) | (refine M1 ?_; refine SC ?_) | (refine M2 ?_; refine SE ?_))
  refine XC.rebase (List.sublist_append_left [_, _, _, _, _, _] [_]) (fun W0 S0 => ?_)
  have hkF : ∀ j, Free w3 w.heap.size ([g2] ++ ([g2] ++ [])) [] j → W0.heap[j]? = w3.heap[j]? := fun j hj => S0.old j hj.2.1 fun e he e1 => by
    simp only [List.mem_cons, List.not_mem_nil, or_false] at he
    have h1 := hj.2.1
    have h2 := hj.2.2.1
    simp only [List.mem_append, List.mem_cons, List.not_mem_nil, or_false, or_self] at h2
    rcases he with rfl | rfl | rfl | rfl | rfl | rfl | rfl <;> simp only at e1 <;> omega
  have hBw0 : Below w.heap.size w W0 := hB3.trans S0.toBelow
  have hbas0 : PBas W0 w3.heap.size gb now v t q r ⟨Ar, t.wet.length, cr⟩ := ⟨((show BrdAt w3 _ gb v t q r from hF3.held (hBrd gb v t q r) (.tail _ (.head _))).keep hkF).mono fun j hj => hj.2.1, (ht.below hBw0).more hb3, ((show IntsAt w3 _ ⟨Ar, t.wet.length, cr⟩ (t.wet.map fun i => ((i : Nat) : Int)) from hF3.held (hInts ⟨Ar, t.wet.length, cr⟩ (t.wet.map fun i => ((i : Nat) : Int))) (.head _)).keep hkF).mono fun j hj => hj.2.1, hO, hnow, hl⟩
  have hwc : ∀ k (hk : k < t.wet.length), ∃ ad : Addr, Ar = some ad ∧ ad.block < w3.heap.size ∧ W0.cell? (ad.add (k * 1)) = some (.int .i64 ((t.wet[k] : Nat) : Int)) := fun k hk => by
    obtain ⟨ad, e1, h1, h2⟩ := IntsAt.at_ (n := t.wet.length) (c := cr) (A := Ar) hbas0.wet (by rw [List.length_map]; omega)
    refine ⟨ad, e1, h1, ?_⟩
    have := h2 k (by rw [List.length_map]; exact hk)
    simpa [at0, hk] using this
  have hw30 : w3.heap.size ≤ W0.heap.size := S0.size
  clear S0 hkF
  refine XC.hint 7 3 (XC.hint 8 5 ?_)
  refine XC.loopk [4, 7, 8, 36, 37] rfl (fun y : Nat × Pz => [(38, .int .i64 (y.1 : Nat))])
    (fun y => [(g8, cel 103 [.map (some mf)]), (mf, mapE [] 0), (g7, cel 97 [.pointer (some ⟨gp, 0, none⟩)]), (gp, cel 102 [.pointer (some ⟨gb, 0, none⟩), .int .i64 now, .slice Ar t.wet.length cr, .map (some mt), .map (some ms)]), (ms, mapE y.2.est y.2.nst), (mt, mapE y.2.etk y.2.ntk)])
    (fun y => y.2.W) (fun y => y.1 ≤ t.wet.length ∧ Below w3.heap.size W0 y.2.W ∧ PzIs t.wet y.2.etk y.2.ntk y.2.est y.2.nst y.2.m ∧ t.setAll now (t.wet.drop y.1) y.2.m = t.planO now) (fun y => t.wet.length - y.1)
    (0, ⟨W0, [], 0, [], 0, Mps.no⟩) ⟨Nat.zero_le _, Below.refl _ _, ⟨by rw [← tkF_nil]; exact MapIs.nil, by rw [← stF_nil]; exact MapIs.nil, InM.no⟩, rfl⟩ ZZSUB (fun _ h => h) ?_
  rintro ⟨k, ⟨W, etk, ntk, est, nst, m⟩⟩ ⟨hk, hBW, hz, hpl⟩
  simp only at hk hBW hz hpl
  dsimp only [List.cons_append, List.nil_append]
  repeat (first | (refine M0 ?_; first | refine SL ?_ | refine SB fun _ _ => ?_) | (refine M1 ?_; refine SC ?_) | (refine M2 ?_; refine SE ?_))
  refine XC.cond _ rfl (fun h2 => ?_) (fun h2 => ?_)
  · have hkW : k < t.wet.length := by have := of_decide_eq_true h2; omega
    obtain ⟨ad, e1, had, hac⟩ := hwc k hkW
    have e1' : Ar = some ad := e1
    subst e1'
    have hacW : W.cell? (ad.add (k * 1)) = some (.int .i64 ((t.wet[k] : Nat) : Int)) := (hBW.cell (p := ad.add (k * 1)) (add_lt had)).trans hac
    have hn7 : ∀ (o1 o2 o3 o4 o5 o6 : Obj) (e : Nat × Obj), e ∈ [(g8, o1), (mf, o2), (g7, o3), (gp, o4), (ms, o5), (mt, o6)] → w3.heap.size ≤ e.1 := fun o1 o2 o3 o4 o5 o6 e he => by
      simp only [List.mem_cons, List.not_mem_nil, or_false] at he
      rcases he with rfl | rfl | rfl | rfl | rfl | rfl <;> assumption
    have hn8 : ∀ (o1 o2 o3 o4 o5 o6 : Obj) (e : Nat × Obj), e ∈ [(g8, o1), (mf, o2), (g7, o3), (gp, o4), (ms, o5), (mt, o6)] → e.1 ≠ (ad.add (k * 1)).block := fun o1 o2 o3 o4 o5 o6 e he e1 => by
      have := hn7 _ _ _ _ _ _ e he
      rw [e1, add_block] at this
      omega
    have hkw : t.wet[k] ∈ t.wet := List.getElem_mem hkW
    repeat (first | (refine M0 ?_; first | refine SL ?_ | refine SB fun _ _ => ?_ | refine Y4 (Ev.load_far tok rfl rfl (Nat.lt_of_lt_of_le (add_lt had) (Nat.le_trans hw30 hBW.size)) (fun e he => hn8 _ _ _ _ _ _ e he) hacW) ?_) | (refine M1 ?_; refine SC ?_) | (refine M2 ?_; refine SE ?_))
    obtain ⟨i, hi0⟩ : ∃ i, i = t.wet[k] := ⟨_, rfl⟩
    have hdr : t.wet.drop k = i :: t.wet.drop (k + 1) := by rw [List.drop_eq_getElem_cons hkW, hi0]
    rw [← hi0] at hkw ⊢
    rw [hdr] at hpl
    have hF0 : MapIs intV [] 0 (fxF fun _ => false) := by rw [← fxF_nil]; exact MapIs.nil
    refine XL.callr (fst := []) (cap := []) (fun w5 vv w6 => vv = .bool (Bs.settle (fun _ => false) (t.seas now t.wet.length) t.wet i m).1 ∧ ∃ etk' ntk' est' nst', PzIs t.wet etk' ntk' est' nst' (Bs.settle (fun _ => false) (t.seas now t.wet.length) t.wet i m).2 ∧ Sys w3.heap.size w5 [(mt, mapE etk' ntk'), (ms, mapE est' nst')] w6) (ck rfl) rfl rfl rfl (fun w5 S5 => ?_) (fun w5 vv w6 S5 hR => ?_)
    · have hB5 : Below w3.heap.size W0 w5 := hBW.trans (S5.high (fun e he => hn7 _ _ _ _ _ _ e he) (Nat.le_trans hw30 hBW.size)).toBelow
      have hS4 : Sys w.heap.size w5 [(mt, mapE etk ntk), (ms, mapE est nst), (gp, cel 102 [.pointer (some ⟨gb, 0, none⟩), .int .i64 now, .slice (some ad) t.wet.length cr, .map (some mt), .map (some ms)]), (mf, mapE [] 0)] w5 := (S5.rebase (.cons _ (.cons_cons _ (.cons _ (List.Sublist.refl _))))).perm (permAt 3 rfl (permAt 2 rfl (permAt 1 rfl (List.Perm.refl _))))
      exact settle_any (hbas0.below hB5) (hS4.high (fun e he => by
        simp only [List.mem_cons, List.not_mem_nil, or_false] at he
        rcases he with rfl | rfl | rfl | rfl <;> assumption) (Nat.le_trans hw30 hB5.size)) hF0 hz hkw
    obtain ⟨rfl, etk6, ntk6, est6, nst6, hz6, S6⟩ := hR
    refine ⟨_, w6, Sys.chg2 S5 5 4 rfl rfl rfl rfl (S6.low hb3), ?_⟩
    have hB6 : Below w3.heap.size W0 w6 := (hBW.trans (S5.high (fun e he => hn7 _ _ _ _ _ _ e he) (Nat.le_trans hw30 hBW.size)).toBelow).trans S6.toBelow
    cases hst : (Bs.settle (fun _ => false) (t.seas now t.wet.length) t.wet i m).1 with
    | true =>
      repeat (first | (refine M0 ?_; first | refine SL ?_ | refine SB fun _ _ => ?_) | (refine M1 ?_; refine SC ?_) | (refine M2 ?_; refine SE ?_))
      refine XE.round (s := (k, (⟨W, etk, ntk, est, nst, m⟩ : Pz))) (k + 1, ⟨w6, etk6, ntk6, est6, nst6, _⟩) ⟨hkW, hB6, hz6, ?_⟩ (by simp only; omega) ZZSUB (fun _ h => h)
      rw [ATk.setAll, if_pos hst] at hpl
      exact hpl
    | false =>
      rw [ATk.setAll, if_neg (by rw [hst]; decide)] at hpl
      have hE : t.planE now = 9 := by unfold ATk.planE; rw [if_neg (by simp [h0]), ← hpl]; rfl
      repeat (first | (refine M0 ?_; first | refine SL ?_ | refine SB fun _ _ => ?_) | (refine M1 ?_; refine SC ?_) | (refine M2 ?_; refine SE ?_))
      refine XE.retM0 tok Tryz.results8 rfl (by simp only [and_self, and_true]) (fun w' S => ?_)
      exact ⟨_, [], rfl, .inl ⟨by rw [hE]; decide, by rw [hE]; rfl, rfl⟩, (fun _ h => nomatch h), hBw0.trans ((hB6.mono hb3).trans S.toBelow)⟩
  have hkW : k = t.wet.length := by have := of_decide_eq_false h2; omega
  subst hkW
  rw [List.drop_length] at hpl
  have hplO : t.planO now = some m := hpl.symm
  have hE : t.planE now = 0 := by unfold ATk.planE; rw [if_neg (by simp [h0]), hplO]; rfl
  repeat (first | (refine M0 ?_; first | refine SL ?_ | refine SB fun _ _ => ?_ | refine Y4 (Ev.load_at tok 3 (g := gp) (o := 0) (j := 2) rfl rfl rfl rfl) ?_) | (refine M1 ?_; refine SC ?_) | (refine M2 ?_; refine SE ?_))
  refine XC.high (B' := w3.heap.size) (fun e he => by
    simp only [List.mem_cons, List.not_mem_nil, or_false] at he
    rcases he with rfl | rfl | rfl | rfl | rfl | rfl <;> assumption) (Nat.le_trans hw30 hBW.size) ?_
  refine XC.rebase (List.Sublist.refl _) (fun W9 S9 => ?_)
  have hB9 : Below w3.heap.size W0 W9 := hBW.trans S9.toBelow
  have hle9 : w3.heap.size ≤ W9.heap.size := Nat.le_trans hw30 hB9.size
  have hF9 : Fam W9 w3.heap.size [g8, mf, g7, gp, ms, mt] [⟨_, sloK, .slice none 0 0, []⟩] [hDef []] := ((Fam.start hle9).nil sloK).hold (x := hDef []) (ok := fun _ => False) (fun D hD => by cases hD) (fun j hj => hj.elim)
  have hF0 : MapIs intV [] 0 (fxF fun _ => false) := by rw [← fxF_nil]; exact MapIs.nil
  have hmb : ∀ k, k ∈ [ms, mt] → w3.heap.size ≤ k := fun k hk => by
    rcases List.mem_cons.1 hk with rfl | hk
    · assumption
    · rw [List.mem_singleton.1 hk]; assumption
  have htot : t.setSlots now t.wet (fun _ => false, m) = t.planL now := by unfold ATk.planL; rw [if_neg (by simp [hE]), hplO]; rfl
  refine XC.loopD [7, 8, 51, 52] rfl (fun y : Nat × Qz => [(4, y.2.lv), (53, .int .i64 (y.1 : Nat))])
    (fun y => [(g8, cel 103 [.map (some mf)]), (mf, mapE y.2.esf y.2.nf), (g7, cel 97 [.pointer (some ⟨gp, 0, none⟩)]), (gp, cel 102 [.pointer (some ⟨gb, 0, none⟩), .int .i64 now, .slice Ar t.wet.length cr, .map (some y.2.mt), .map (some y.2.ms)]), (y.2.ms, mapE y.2.est y.2.nst), (y.2.mt, mapE y.2.etk y.2.ntk)])
    (fun y => y.2.W) (fun y => y.2.Ds.map markD)
    (fun y => y.1 ≤ t.wet.length ∧ Below w3.heap.size W0 y.2.W ∧ PzIs t.wet y.2.etk y.2.ntk y.2.est y.2.nst y.2.z.2 ∧ MapIs intV y.2.esf y.2.nf (fxF y.2.z.1) ∧ Fam y.2.W w3.heap.size [g8, mf, g7, gp, y.2.ms, y.2.mt] [⟨_, sloK, y.2.lv, y.2.dn⟩] [hDef y.2.Ds] ∧ (∀ k, k ∈ [g8, mf, g7, gp, y.2.ms, y.2.mt] → k < y.2.W.heap.size) ∧ y.2.Ds.Nodup ∧ (∀ k, k ∈ [y.2.ms, y.2.mt] → w3.heap.size ≤ k) ∧ y.2.dn.length = y.1 ∧ y.2.dn ++ t.setSlots now (t.wet.drop y.1) y.2.z = t.planL now)
    (fun y => t.wet.length - y.1) (0, ⟨W9, mt, ms, etk, ntk, est, nst, [], 0, (fun _ => false, m), .slice none 0 0, [], []⟩) ⟨Nat.zero_le _, hB9, hz, hF0, hF9, fun k hk => S9.keyLt k hk, .nil, hmb, rfl, htot⟩ rfl ZZSUB (fun _ h => h) ?_
  clear hz hpl hplO hB9 hle9 hF9 S9 hBW hmb htot hmt hms
  rintro ⟨k, ⟨W1, mtA, msA, etkA, ntkA, estA, nstA, esfA, nfA, zA, lvA, dnA, DsA⟩⟩ ⟨hk, hB1, hz1, hfA, hF1, hkl1, hndA, hmb1, hdl, hpl1⟩
  simp only at hk hB1 hz1 hfA hF1 hkl1 hndA hmb1 hdl hpl1
  dsimp only [List.cons_append, List.nil_append]
  repeat (first | (refine M0 ?_; first | refine SL ?_ | refine SB fun _ _ => ?_) | (refine M1 ?_; refine SC ?_) | (refine M2 ?_; refine SE ?_))
  refine XC.cond _ rfl (fun h2 => ?_) (fun h2 => ?_)
  rotate_left
  · have hkW : k = t.wet.length := by have := of_decide_eq_false h2; omega
    subst hkW
    rw [List.drop_length] at hpl1
    repeat (first | (refine M0 ?_; first | refine SL ?_ | refine SB fun _ _ => ?_) | (refine M1 ?_; refine SC ?_) | (refine M2 ?_; refine SE ?_))
    have hk6 : ∀ (o1 o2 o3 o4 o5 o6 : Obj) (e : Nat × Obj), e ∈ [(g8, o1), (mf, o2), (g7, o3), (gp, o4), (msA, o5), (mtA, o6)] → e.1 ∈ [g8, mf, g7, gp, msA, mtA] := fun o1 o2 o3 o4 o5 o6 e he => List.mem_map.2 ⟨e, he, rfl⟩
    refine XE.retMs tok rfl Tryz.results8 rfl (by simp only [and_self, and_true]) (fun w9 S9 D hD => ((hF1.sys S9 fun e he => .inl (hk6 _ _ _ _ _ _ e he)).held (hDef DsA) (.head _) D hD).2) hndA (fun e he hm => ?_) (fun w9 w' S9 hM => ?_)
    · exact (hF1.held (hDef DsA) (.head _) e.1 hm).1.2.2.1 (hk6 _ _ _ _ _ _ e he)
    have hF2 := hF1.sys S9 fun e he => .inl (hk6 _ _ _ _ _ _ e he)
    have hDs := fun D hD => (hF2.held (hDef DsA) (.head _) D hD).1
    have hrow := owns_move' (W' := w') (hF2.row _ (.head _)) fun kk hkk => hM.old kk fun hd => (hDs kk hd).2.2.2 _ (.head _) hkk
    have hsz := S9.size
    have hFw : Fam w' w3.heap.size [] [⟨_, sloK, lvA, dnA⟩] [] := by
      refine ⟨?_, fun r hr => by rw [List.mem_singleton.1 hr]; exact hrow, fun _ _ _ _ h => (by cases h), .cons (fun _ h => by cases h) .nil, fun r hr a ha x hx => ?_, fun _ h => by cases h⟩
      · have := hB1.size; rw [hM.size]; omega
      · obtain rfl := List.mem_singleton.1 hr
        cases hx
    obtain ⟨r1, rfl, hls⟩ := hFw.list (.head _)
    simp only [ATk.setSlots, List.append_nil] at hpl1
    have hBb := ((hB1.mono hb3).trans (S9.toBelow.mono hb3))
    refine ⟨_, [hList sloK r1 dnA], rfl, .inr ⟨hE, r1, rfl, by rw [hpl1]⟩, (fun x hx => by
      rw [List.mem_singleton.1 hx]
      exact hls.mono fun j hj => ⟨Nat.le_trans hb3 hj.1, hj.2⟩), hBw0.trans (hBb.trans ⟨hM.os, hM.tape, hM.output, Nat.le_of_eq hM.size.symm, fun j hj => hM.old j fun hd => ?_⟩)⟩
    have := (hDs j hd).1
    omega
  have hkW : k < t.wet.length := by have := of_decide_eq_true h2; omega
  obtain ⟨ad, e1, had, hac⟩ := hwc k hkW
  have e1' : Ar = some ad := e1
  subst e1'
  have hacW : W1.cell? (ad.add (k * 1)) = some (.int .i64 ((t.wet[k] : Nat) : Int)) := (hB1.cell (p := ad.add (k * 1)) (add_lt had)).trans hac
  have hkw : t.wet[k] ∈ t.wet := List.getElem_mem hkW
  obtain ⟨i, hi0⟩ : ∃ i, i = t.wet[k] := ⟨_, rfl⟩
  have hdr : t.wet.drop k = i :: t.wet.drop (k + 1) := by rw [List.drop_eq_getElem_cons hkW, hi0]
  rw [← hi0] at hkw hacW
  rw [hdr, ATk.setSlots] at hpl1
  have hil : i < t.twn.length := List.mem_range.1 (List.mem_filter.1 hkw).1
  repeat (first | (refine M0 ?_; first | refine SL ?_ | refine SB fun _ _ => ?_ | refine Y4 (Ev.load_old tok rfl rfl (add_lt had) hacW) ?_) | (refine M1 ?_; refine SC ?_) | (refine M2 ?_; refine SE ?_))
  rename_i g12 hg12
  refine XL.callr (fst := []) (cap := []) (fun w1 x w2 => ∃ g21 g31 : Nat, x = .func (.func 49) #[] #[.pointer (some ⟨g21, 0, none⟩), .pointer (some ⟨g31, 0, none⟩)] ∧ Sys w1.heap.size w1 [(g31, cel 3 [.int .i64 (i : Nat)]), (g21, cel 97 [.pointer (some ⟨gp, 0, none⟩)])] w2) (ck rfl) rfl rfl rfl (fun w1 S1 => places0_any) (fun wX x w2 S1 hR => ?_)
  obtain ⟨g21, g31, rfl, S2⟩ := hR
  refine ⟨_, w2, (S1.join S2 (List.Sublist.refl _)).rebase (List.Sublist.cons _ (List.sublist_cons_self _ _)), ?_⟩
  dsimp only [List.append, List.nil_append, List.cons_append]
  repeat (first | (refine M0 ?_; first | refine SL ?_ | refine SB fun _ _ => ?_) | (refine M1 ?_; refine SC ?_) | (refine M2 ?_; refine SE ?_))
  refine XC.rangeFuncD (cap := [.pointer (some ⟨g21, 0, none⟩), .pointer (some ⟨g31, 0, none⟩)]) rfl (ck rfl) (fun fn a D w4 hD hf S3 => ?_)
  have hle1 : w3.heap.size ≤ W1.heap.size := Nat.le_trans hw30 hB1.size
  have hQ4 := QF.start (rT := ⟨some ad, t.wet.length, cr⟩) (gb := gb) (now := now) (i := i) (D := D) hB1 hF1 hg12 hle1 S1 rfl S2 hD S3 rfl (.tail _ (.tail _ (.tail _ (.tail _ (.tail _ (.tail _ (.head _)))))))
  obtain ⟨T, hT⟩ : ∃ T, T = t.tryP now i (t.places now t.wet.length i) zA := ⟨_, rfl⟩
  rw [← hT] at hpl1
  have hle4 : w3.heap.size ≤ w4.heap.size := Nat.le_trans hw30 hQ4.bel.size
  have hfS : Fits 83 [] [(1000000 + 7, .slice none 3 0), (7, .pointer (some ⟨g7, 0, none⟩)), (1000000 + 8, .slice none 5 0), (8, .pointer (some ⟨g8, 0, none⟩)), (1000000 + 12, .slice none 6 0), (12, .pointer (some ⟨g12, 0, none⟩))] { tmps := a.tmps, defers := [] } := by
    have h4 := Sub.fits (G := [(1000000 + 7, .slice none 3 0), (7, .pointer (some ⟨g7, 0, none⟩)), (1000000 + 8, .slice none 5 0), (8, .pointer (some ⟨g8, 0, none⟩)), (1000000 + 12, .slice none 6 0), (12, .pointer (some ⟨g12, 0, none⟩))]) ZZSUB hf
    exact ⟨h4.size, rfl, h4.get⟩
  have hleQ : ∀ {W : World} {mt ms : Nat}, QF W0 w3.heap.size D g12 g8 mf g7 gp g21 g31 i gb now ⟨some ad, t.wet.length, cr⟩ ⟨_, sloK, lvA, dnA⟩ DsA W mt ms → w3.heap.size ≤ W.heap.size := fun h => Nat.le_trans hw30 h.bel.size
  clear S1 S2 hF1 hB1 hkl1 hmb1
  refine (places_any (B := w3.heap.size) (l := D + 1) (gp := gp) (g2 := g21) (g3 := g31) (gb := gb) (i := i) (now := now) (v := v) (t := t) (q := q) (r := r) (rT := ⟨some ad, t.wet.length, cr⟩)
    (fun s : Rz => [(D + 1, .loop (recO fn a.tmps #[60] _ _ D s.st s.pe)), (D, .deferred (some [])), (g12, cel 3 [.int .i64 (i : Nat)]), (g8, cel 103 [.map (some mf)]), (mf, mapE s.esf s.nf), (g7, cel 97 [.pointer (some ⟨gp, 0, none⟩)]), (s.ms, mapE s.est s.nst), (s.mt, mapE s.etk s.ntk)])
    (fun s => s.W)
    (fun x s => (s.st = .ready ∧ s.pe = none) ∧ QF W0 w3.heap.size D g12 g8 mf g7 gp g21 g31 i gb now ⟨some ad, t.wet.length, cr⟩ ⟨_, sloK, lvA, dnA⟩ DsA s.W s.mt s.ms ∧ PzIs t.wet s.etk s.ntk s.est s.nst s.z.2 ∧ MapIs intV s.esf s.nf (fxF s.z.1) ∧ (∃ pre, t.places now t.wet.length i = pre ++ x) ∧ t.tryP now i x s.z = T)
    (fun s => (s.st = .done ∧ s.pe = some (.exit 4)) ∧ QF W0 w3.heap.size D g12 g8 mf g7 gp g21 g31 i gb now ⟨some ad, t.wet.length, cr⟩ ⟨_, sloK, lvA, dnA⟩ DsA s.W s.mt s.ms ∧ PzIs t.wet s.etk s.ntk s.est s.nst s.z.2 ∧ MapIs intV s.esf s.nf (fxF s.z.1) ∧ s.z = T)
    ⟨w4, mtA, msA, etkA, ntkA, estA, nstA, esfA, nfA, zA, .ready, none⟩ (S3.rebase (.cons_cons _ (.cons_cons _ (.cons_cons _ (.cons_cons _ (.cons_cons _ (.cons_cons _ (.cons _ (List.Sublist.refl _))))))))) ⟨⟨rfl, rfl⟩, hQ4, hz1, hfA, ⟨[], rfl⟩, hT.symm⟩ hil ?_ ?_ ?_).mono fun e w5 hR => ?_
  · rintro x s ⟨_, hQ, _⟩
    exact ⟨⟨s.mt, s.ms, (hbas0.below hQ.bel).pln hQ.pln⟩, hQ.c21, hQ.c31⟩
  · rintro x s ⟨_, hQ, _⟩ e he
    exact hQ.sep e.1 (List.mem_map.2 ⟨e, he, rfl⟩)
  rotate_left
  · obtain ⟨u, rfl, ⟨W5, mtB, msB, etkB, ntkB, estB, nstB, esfB, nfB, zB, stB, peB⟩, hJ, S5⟩ := hR
    have hJ2 : (stB = .ready ∧ peB = none ∨ stB = .done ∧ peB = some (.exit 4)) ∧ QF W0 w3.heap.size D g12 g8 mf g7 gp g21 g31 i gb now ⟨some ad, t.wet.length, cr⟩ ⟨_, sloK, lvA, dnA⟩ DsA W5 mtB msB ∧ PzIs t.wet etkB ntkB estB nstB zB.2 ∧ MapIs intV esfB nfB (fxF zB.1) ∧ zB = T := by
      rcases hJ with ⟨h1, h2, h3, h4, _, h5⟩ | ⟨h1, h2, h3, h4, h5⟩
      · exact ⟨.inl h1, h2, h3, h4, h5⟩
      · exact ⟨.inr h1, h2, h3, h4, h5⟩
    obtain ⟨hst, hQ, hzB, hfB, rfl⟩ := hJ2
    obtain ⟨S6, hQ6⟩ := hQ.sys (hleQ hQ) S5
    have hle5 := hleQ hQ6
    refine ⟨_, rfl, stB, peB, _, w5, by rcases hst with h | h <;> (rw [h.1]; decide), S6, ?_⟩
    have hzz : ((stF zB.2) (.int .i64 (i : Nat))).getD (.agg #[.int .i64 0, .int .i64 0, .int .i64 0]) = seaV ((zB.2.st i).getD s00) := by rw [stF_at]; cases zB.2.st i <;> rfl
    obtain ⟨sq, hsq⟩ : ∃ sq, sq = (zB.2.st i).getD s00 := ⟨_, rfl⟩
    have hslo : ATk.slotOf i zB.2 = ((i : Int), sq.c, sq.s) := by rw [hsq]; rfl
    rw [← hsq] at hzz
    obtain ⟨sc, sp, sn⟩ := sq
    simp only [seaV] at hzz
    dsimp only [List.cons_append, List.nil_append]
    rcases hst with ⟨rfl, rfl⟩ | ⟨rfl, rfl⟩
    all_goals
      refine XE.hint 7 3 ?_
      refine XE.hint 8 5 ?_
      refine XE.hint 12 6 ?_
      repeat (first | (refine M0 ?_; first | refine SL ?_ | refine SB fun _ _ => ?_) | (refine M1 ?_; refine SC ?_) | (refine M2 ?_; refine SE ?_))
      refine XC.drawR _ [0, 1, 2, 3, 4, 5] [6, 7] mixed (fun _ h => h) rfl (by kernel_rfl) ?_
      repeat (any_goals (first | (refine M0 ?_; first | refine SL ?_ | refine SB fun _ _ => ?_ | refine Y4 (Ev.load_at tok 6 (g := gp) (o := 0) (j := 4) rfl rfl rfl rfl) ?_ | refine Y4 (Ev.look1 tok 7 twnF rfl rfl rfl Tryz.underlying100 rfl hzB.st ⟨_, rfl⟩ hzz) ?_) | (refine M1 ?_; refine SC ?_) | (refine M2 ?_; refine SE ?_) | (refine M3 ?_; first | refine SG ?_ | refine SF ?_ | refine YF (Ev.load_at tok 6 (g := gp) (o := 0) (j := 4) rfl rfl rfl rfl) ?_ | refine YF (Ev.look1 tok 7 twnF rfl rfl rfl Tryz.underlying100 rfl hzB.st ⟨_, rfl⟩ hzz) ?_) | (refine M4 ?_; refine SR ?_) | (refine M5 ?_; first | exact M7 | refine YM ?_ | refine YN ?_ ?_)))
      rename_i g14 hg14
      refine XL.buildSlice tok rfl rfl rfl rfl rfl rfl rfl rfl rfl (fun gn hgn => ?_)
      repeat (first | (refine M0 ?_; first | refine SL ?_ | refine SB fun _ _ => ?_) | (refine M1 ?_; refine SC ?_) | (refine M2 ?_; refine SE ?_))
      refine XL.push (K := sloK) (a := ((i : Int), sc, sp)) (wE := W0) 0 slo_el (by decide) rfl rfl rfl hQ6.fam rfl hQ6.lt hQ6.bel (Nat.le_refl _) rfl (by omega) (by decide) (fun x hx => by cases hx) (fun W6 u6 hF6 hB6 hk6 => ?_)
      simp only [List.set_cons_zero] at hF6
      repeat (first | (refine M0 ?_; first | refine SL ?_ | refine SB fun _ _ => ?_) | (refine M1 ?_; refine SC ?_) | (refine M2 ?_; refine SE ?_))
      refine XE.roundD (s := (k, (⟨W1, mtA, msA, etkA, ntkA, estA, nstA, esfA, nfA, zA, lvA, dnA, DsA⟩ : Qz))) (fun w' S => ⟨(k + 1, ⟨w', mtB, msB, etkB, ntkB, estB, nstB, esfB, nfB, zB, u6, dnA ++ [((i : Int), sc, sp)], D :: DsA⟩), ?_, by simp only; omega, rfl, ZZSUB, S.rebase (.cons _ (.cons _ (.cons _ (.cons _ (.cons _ (List.Sublist.refl _))))))⟩)
      have hF7 := hF6.sys S (fun e he => .inl (List.mem_append_left _ (List.mem_map.2 ⟨e, he, rfl⟩)))
      have hDk : D ∈ [D + 1, D, g12, g8, mf, g7, gp, msB, mtB, g21, g31] := .tail _ (.head _)
      have hD7 := fun E hE => hF7.held (hDef DsA) (.head _) E hE
      have hDn : D ∉ DsA := fun h => (hD7 D h).1.2.2.1 (List.mem_append_right _ hDk)
      have hD6 : D ∉ [g8, mf, g7, gp, msB, mtB] := fun h => by
        have h3 := (List.nodup_append.1 (show ([D + 1, D, g12] ++ ([g8, mf, g7, gp, msB, mtB] ++ [g21, g31])).Nodup from hQ6.nd)).2.2
        exact h3 D (.tail _ (.head _)) D (List.mem_append_left _ h) rfl
      have hDo := S.own (D, .deferred (some [])) (.tail _ (.tail _ (.tail _ (.head _))))
      have hDl := S.lt (e := (D, .deferred (some []))) (.tail _ (.tail _ (.tail _ (.head _))))
      have hF8 := hF7.add (ks' := [g8, mf, g7, gp, msB, mtB]) fun k hk => .inl (List.mem_append_right _ (List.mem_append_right [D + 1, D, g12] (List.mem_append_left [g21, g31] hk)))
      have hF9 := (hF8.hold (x := hDef (D :: DsA)) (ok := Free w' w3.heap.size [g8, mf, g7, gp, msB, mtB] [⟨_, sloK, u6, dnA ++ [((i : Int), sc, sp)]⟩]) (fun E hE => by
        rcases List.mem_cons.1 hE with rfl | hE
        · exact ⟨⟨hDo.1, hDl, hD6, fun r hr h => by
            rw [List.mem_singleton.1 hr] at h
            exact hF7.sep _ (.head _) _ h (List.mem_append_right _ hDk)⟩, hDo.2⟩
        · exact hF8.held (hDef DsA) (.head _) E hE) fun _ h => h).forget (hs' := [hDef (D :: DsA)]) fun x hx => by rw [List.mem_singleton.1 hx]; exact .head _
      refine ⟨hkW, hB6.trans S.toBelow, hzB, hfB, hF9, fun k hk => S.keyLt k (List.mem_append_right [gn, g14, D + 1, D, g12] hk), List.nodup_cons.2 ⟨hDn, hndA⟩, fun k hk => ?_, by simp only [List.length_append, List.length_cons, List.length_nil]; omega, ?_⟩
      · exact hQ6.ge k (List.mem_append_right [D + 1, D, g12, g8, mf, g7, gp] (List.mem_append_left [g21, g31] hk))
      · rw [hslo] at hpl1
        rw [List.append_assoc]
        exact hpl1
  rintro p x ⟨W, mtB, msB, etkB, ntkB, estB, nstB, esfB, nfB, zB, stB, peB⟩ ⟨⟨e1, e2⟩, hQ, hzB, hfB, ⟨pre, hpre⟩, hgo⟩ w1 S1
  simp only at e1 e2 hQ hzB hfB hpre hgo S1
  subst e1 e2
  have hloop := (S1.own _ (.head _)).2
  refine ⟨_, _, _, _, run_yield (args := #[seaV ⟨p.1, p.2, 0⟩]) hloop rfl, ?_⟩
  clear hloop
  obtain ⟨S6, hQ1⟩ := hQ.sys (hleQ hQ) S1
  refine round_of (hfS.oneS rfl) S6 ?_
  dsimp only [List.cons_append, List.nil_append]
  have hpm : p ∈ t.places now t.wet.length i := by rw [hpre]; exact List.mem_append_right _ (.head _)
  have hpre2 : ∃ pre, t.places now t.wet.length i = pre ++ x := ⟨pre ++ [p], by rw [hpre]; simp⟩
  obtain ⟨pc, ps⟩ := p
  obtain ⟨hpc, hps1, hps2⟩ := ATk.places_of hpm
  obtain ⟨hpc0, hpc1⟩ := hO.tchs i hil _ hpc
  obtain ⟨cn, rfl⟩ : ∃ cn : Nat, pc = (cn : Int) := ⟨pc.toNat, (Int.toNat_of_nonneg hpc0).symm⟩
  have hcn : cn < t.cha.length := by omega
  have hps : 0 ≤ ps ∧ ps ≤ 200000 := by unfold ATk.latest at hps2; omega
  simp only [seaV]
  repeat (first | (refine M0 ?_; first | refine SL ?_ | refine SB fun _ _ => ?_) | (refine XI.id ?_; first | refine XI.done ?_ | refine XI.one1 rfl ?_) | (refine XR'.id ?_; first | refine XR'.seq ?_ | refine XR'.region ?_ | refine XR'.block ?_ | refine XR'.skip ?_ | refine XR'.ret ?_ | refine XR'.cond_t rfl ?_ | refine XR'.cond_f rfl ?_ | refine XR'.exit ?_) | (refine M1 ?_; first | refine SC ?_ | refine SD ?_) | (refine M2 ?_; first | refine XE.nextI ?_ | refine XE.nextR ?_ | refine SE ?_))
  rename_i g13 hg13
  refine XE.begin (i := 1) rfl rfl rfl ?_
  repeat (first | (refine M0 ?_; first | refine SL ?_ | refine SB fun _ _ => ?_) | (refine XI.id ?_; first | refine XI.done ?_ | refine XI.one1 rfl ?_) | (refine XR'.id ?_; first | refine XR'.seq ?_ | refine XR'.region ?_ | refine XR'.block ?_ | refine XR'.skip ?_ | refine XR'.ret ?_ | refine XR'.cond_t rfl ?_ | refine XR'.cond_f rfl ?_ | refine XR'.exit ?_) | (refine M1 ?_; first | refine SC ?_ | refine SD ?_) | (refine M2 ?_; first | refine XE.nextI ?_ | refine XE.nextR ?_ | refine SE ?_))
  refine XL.callr (fst := []) (cap := []) (fun w5 vv w6 => vv = .bool (tryL (t.seas now t.wet.length) t.wet i zB.1 zB.2 (t.numbs ((cn : Int), ps))).1 ∧ ∃ mt' ms' etk' ntk' est' nst' esf' nf', PzIs t.wet etk' ntk' est' nst' (tryL (t.seas now t.wet.length) t.wet i zB.1 zB.2 (t.numbs ((cn : Int), ps))).2.2 ∧ MapIs intV esf' nf' (fxF (tryL (t.seas now t.wet.length) t.wet i zB.1 zB.2 (t.numbs ((cn : Int), ps))).2.1) ∧ Kp3 [mtB, msB, gp, mf] w5 w6 ∧ (∀ k, k ∈ [mt', ms'] → k ∈ [mtB, msB] ∨ w5.heap.size ≤ k) ∧ Sys w3.heap.size w6 [(mt', mapE etk' ntk'), (ms', mapE est' nst'), plnO gp gb now ⟨some ad, t.wet.length, cr⟩ mt' ms', (mf, mapE esf' nf')] w6) (ck rfl) rfl rfl rfl (fun w5 S5 => ?_) (fun w5 vv w6 S5 hR => ?_)
  · exact try_any (hbas0.below (hQ1.bel.trans S5.toBelow)) ((S5.rebase (.cons _ (.cons _ (.cons _ (.cons _ (.cons _ (.cons_cons _ (.cons _ (List.Sublist.refl _))))))))).perm (permAt 3 rfl (permAt 2 rfl (permAt 1 rfl (List.Perm.refl _))))) hfB hzB hkw hcn hps
  obtain ⟨rfl, mtC, msC, etkC, ntkC, estC, nstC, esfC, nfC, hzC, hfC, hK, hfr, S7⟩ := hR
  refine ⟨_, w6, Sys.swapP (A := [_, _, _, _, _]) S5 hK hfr S7, ?_⟩
  dsimp only [List.cons_append, List.nil_append]
  rw [ATk.tryP] at hgo
  cases hb : (tryL (t.seas now t.wet.length) t.wet i zB.1 zB.2 (t.numbs ((cn : Int), ps))).1 with
  | true =>
    rw [if_pos hb] at hgo
    repeat (first | (refine M0 ?_; first | refine SL ?_ | refine SB fun _ _ => ?_) | (refine XI.id ?_; first | refine XI.done ?_ | refine XI.one1 rfl ?_) | (refine XR'.id ?_; first | refine XR'.seq ?_ | refine XR'.region ?_ | refine XR'.block ?_ | refine XR'.skip ?_ | refine XR'.ret ?_ | refine XR'.cond_t rfl ?_ | refine XR'.cond_f rfl ?_ | refine XR'.exit ?_) | (refine M1 ?_; first | refine SC ?_ | refine SD ?_) | (refine M2 ?_; first | refine XE.nextI ?_ | refine XE.nextR ?_ | refine SE ?_))
    refine XE.endExit (i := 1) rfl rfl (fun w' S => ?_)
    refine ⟨_, rfl, false, rfl, ⟨w', mtC, msC, etkC, ntkC, estC, nstC, esfC, nfC, (tryL (t.seas now t.wet.length) t.wet i zB.1 zB.2 (t.numbs ((cn : Int), ps))).2, .done, some (.exit 4)⟩, ?_, S.rebase (.cons _ (.cons_cons _ (.cons_cons _ (.cons_cons _ (.cons_cons _ (.cons_cons _ (.cons_cons _ (.cons _ (List.Sublist.refl _)))))))))⟩
    rw [if_neg (by simp)]
    exact ⟨⟨rfl, rfl⟩, hQ1.round (hleQ hQ1) hg13 S5 rfl hK hfr S rfl (.tail _ (.tail _ (.tail _ (.tail _ (.tail _ (.tail _ (.tail _ (.head _)))))))), hzC, hfC, hgo⟩
  | false =>
    rw [if_neg (by rw [hb]; decide)] at hgo
    repeat (first | (refine M0 ?_; first | refine SL ?_ | refine SB fun _ _ => ?_) | (refine XI.id ?_; first | refine XI.done ?_ | refine XI.one1 rfl ?_) | (refine XR'.id ?_; first | refine XR'.seq ?_ | refine XR'.region ?_ | refine XR'.block ?_ | refine XR'.skip ?_ | refine XR'.ret ?_ | refine XR'.cond_t rfl ?_ | refine XR'.cond_f rfl ?_ | refine XR'.exit ?_) | (refine M1 ?_; first | refine SC ?_ | refine SD ?_) | (refine M2 ?_; first | refine XE.nextI ?_ | refine XE.nextR ?_ | refine SE ?_))
    refine XE.endR (i := 1) rfl rfl (fun w' S => ?_)
    refine ⟨_, rfl, true, rfl, ⟨w', mtC, msC, etkC, ntkC, estC, nstC, esfC, nfC, (tryL (t.seas now t.wet.length) t.wet i zB.1 zB.2 (t.numbs ((cn : Int), ps))).2, .ready, none⟩, ?_, S.rebase (.cons _ (.cons_cons _ (.cons_cons _ (.cons_cons _ (.cons_cons _ (.cons_cons _ (.cons_cons _ (.cons _ (List.Sublist.refl _)))))))))⟩
    rw [if_pos rfl]
    exact ⟨⟨rfl, rfl⟩, hQ1.round (hleQ hQ1) hg13 S5 rfl hK hfr S rfl (.tail _ (.tail _ (.tail _ (.tail _ (.tail _ (.tail _ (.tail _ (.head _)))))))), hzC, hfC, hpre2, hgo⟩
end X
namespace X
open Go Go.RowKit Bs
def selK (l : List Nat) (b k : Nat) : List Nat := ((List.range k).filter fun j => b.testBit j).map fun j => l[j]?.getD 0
theorem selK_add (l : List Nat) (b k : Nat) : selK l b (k + 1) = selK l b k ++ if b.testBit k then [l[k]?.getD 0] else [] := by
  unfold selK
  rw [List.range_succ, List.filter_append, List.map_append]
  congr 1
  by_cases h : b.testBit k = true
  · rw [if_pos h, List.filter_cons_of_pos h]; rfl
  · rw [if_neg h, List.filter_cons_of_neg h]; rfl
theorem selK_len (l : List Nat) (b k : Nat) : (selK l b k).length ≤ k := by
  unfold selK
  rw [List.length_map]
  exact Nat.le_trans (List.length_filter_le _ _) (by simp)
theorem selK_mem {l : List Nat} {b k : Nat} (hk : k ≤ l.length) : ∀ i, i ∈ selK l b k → i ∈ l := fun i hi => by
  obtain ⟨j, hj, rfl⟩ := List.mem_map.1 hi
  have := List.mem_range.1 (List.mem_filter.1 hj).1
  rw [List.getElem?_eq_getElem (by omega)]
  exact List.getElem_mem _
theorem bits_ex (p : Nat → Bool) : ∀ n : Nat, ∃ b, b < 2 ^ n ∧ ∀ j, j < n → b.testBit j = p j := by
  intro n
  induction n with
  | zero => exact ⟨0, by simp, fun j h => by omega⟩
  | succ n ih =>
    obtain ⟨b, hb, hj⟩ := ih
    have hp : 2 ^ (n + 1) = 2 ^ n + 2 ^ n := by rw [Nat.pow_succ]; omega
    cases hpn : p n with
    | false =>
      refine ⟨b, by omega, fun j h => ?_⟩
      rcases Nat.lt_or_ge j n with h1 | h1
      · exact hj j h1
      · have : j = n := by omega
        subst this
        rw [hpn, Nat.testBit_lt_two_pow hb]
    | true =>
      refine ⟨2 ^ n + b, by omega, fun j h => ?_⟩
      rcases Nat.lt_or_ge j n with h1 | h1
      · rw [Nat.testBit_two_pow_add_gt h1, hj j h1]
      · have : j = n := by omega
        subst this
        rw [hpn, Nat.testBit_two_pow_add_eq, Nat.testBit_lt_two_pow hb]; rfl
theorem selK_filter (l : List Nat) (q : Nat → Bool) : ∃ b, b < 2 ^ l.length ∧ selK l b l.length = l.filter q := by
  obtain ⟨b, hb, hj⟩ := bits_ex (fun j => q (l[j]?.getD 0)) l.length
  refine ⟨b, hb, ?_⟩
  have hl : l = (List.range l.length).map fun j => l[j]?.getD 0 := by
    apply List.ext_getElem (by simp)
    intro n h1 h2
    simp [h1]
  unfold selK
  conv => rhs; rw [hl]
  rw [List.filter_map]
  congr 1
  apply List.filter_congr
  intro j h
  rw [hj j (List.mem_range.1 h)]
  rfl
theorem slots_0 {t : ATk} {now : Int} (hO : AlOk t) (hnow : 0 ≤ now) (l : List Nat) : 0 ≤ t.slots now l := (ATk.slotsK_in hO hnow l t.cha.length (Nat.le_refl _)).1
theorem bitA (i n : Nat) : decide ((((i >>> n) % 2 : Nat) : Int) = 1) = i.testBit n := by
  rw [Nat.testBit_eq_decide_div_mod_eq, Nat.shiftRight_eq_div_pow]
  simp only [decide_eq_decide]
  omega
theorem Ev.shrA {P : Program} {N : Nat} {B : Nat} {w0 : World} {ds : List Deferred} {F : Fr} {L : Lo} {pu : Prop} {dst : Option Tmp} {ty : TypeId} {p : String} {af : Array Edge} {gd : Option (Nat × Bool)} {x y : Operand} {t u : TypeId} {j : IntKind} {m n : Nat} (hx : evo F x = some (.int .i64 (m : Nat))) (hy : evo F y = some (.int j (n : Nat))) (hn : n ≤ 64) :
    Ev P N B w0 ds pu F L ⟨dst, .binOp .shr t x y u, ty, p, af, gd⟩ (.int .i64 ((m >>> n : Nat) : Int)) := Ev.shrN hx hy hn
def BlkV (t : ATk) (now : Int) (x : Value) (new : List Held) : Prop := ∃ (fv : SV) (fd : List Nat), x = .tuple ⟨[svV fv, .int .i64 (t.atE now)]⟩ ∧ new = [hInts fv (fd.map fun i => ((i : Nat) : Int))] ∧ (t.planE now = 9 → t.atE now = 0 ∧ fd ≠ [])
def FndI (t : ATk) (now : Int) (b : Nat) (fd : List Nat) : Prop := ∀ b', b' < b → t.slots now (selK t.wet b' t.wet.length) < (selK t.wet b' t.wet.length).length → fd ≠ []
theorem FndI.done {t : ATk} {now : Int} {fd : List Nat} (h : FndI t now (2 ^ t.wet.length) fd) (h9 : t.planE now = 9) : fd ≠ [] := by
  obtain ⟨_, q, _, _, h3⟩ := ATk.plan_none h9
  obtain ⟨b, hb, e⟩ := selK_filter t.wet fun i => q.contains i
  exact h b hb (by rw [e]; exact h3)
theorem FndI.next {t : ATk} {now : Int} {b : Nat} {fd : List Nat} (h : FndI t now b fd) (hb : ¬ t.slots now (selK t.wet b t.wet.length) < (selK t.wet b t.wet.length).length ∨ fd ≠ []) : FndI t now (b + 1) fd := fun b' hb' hs => by
  rcases hb with hb | hb
  · by_cases e : b' = b
    · subst e; exact absurd hs hb
    · exact h b' (by omega) hs
  · exact hb
end X
namespace X
open Go Go.RowKit Bs
structure Bz where
  W : World
  fv : SV
  fd : List Nat
set_option maxHeartbeats 32000000 in
set_option maxRecDepth 10000 in
theorem blocked_made {v : ATV} {t : ATk} {now : Int} {w : World} (hL : Laid w) (ht : AtAt w w.heap.size v t) (hl : ∀ x, x ∈ t.twn → x.chs.length ≤ 5000000) :
    Calls Tryz.prog 9 #[atkV v t, .int .i64 now] w (Made w (BlkV t now)) := by
  have hat := fun (w' : World) (hB : Below w.heap.size w w') => at_made (v := v) (t := t) (now := now) (w := w') (hL.below hB) (ht.sys (Sys.ofBelow hB)) hl
  simp only [atkV, atkC] at hat ⊢
  refine enter Tryz.func9 rfl Tryz.ntmps9 rfl ?_; simp only [frame, Nat.zero_add, Nat.reduceAdd]
  repeat (first | (refine M0 ?_; first | refine SL ?_ | refine SB fun _ _ => ?_) | (refine M1 ?_; refine SC ?_) | (refine M2 ?_; refine SE ?_))
  rename_i g2 hg2
  refine XC.scope ?_
  repeat (first | (refine M0 ?_; first | refine SL ?_ | refine SB fun _ _ => ?_) | (refine M1 ?_; refine SC ?_) | (refine M2 ?_; refine SE ?_))
  refine XL.callF (AtV now v t) (ck rfl) rfl rfl (Fam.start (ks := []) (Nat.le_refl w.heap.size)) (fun _ h => by cases h) (Below.refl w.heap.size w) (fun w1 S1 _ _ => hat w1 S1.toBelow) (fun w2 u new hR hF2 hB2 hk2 => ?_)
  rcases hR with ⟨hne, rfl, rfl⟩ | ⟨h0, gb, q, r, rfl, rfl⟩
  · have h9 : t.planE now ≠ 9 := by unfold ATk.planE; rw [if_pos hne]; exact ATk.atE_9 t now
    repeat (first | (refine M0 ?_; first | refine SL ?_ | refine SB fun _ _ => ?_) | (refine M1 ?_; refine SC ?_) | (refine M2 ?_; refine SE ?_))
    refine XC.cond _ rfl (fun h1 => ?_) (fun h1 => absurd hne (by simpa using h1))
    repeat (first | (refine M0 ?_; first | refine SL ?_ | refine SB fun _ _ => ?_) | (refine M1 ?_; refine SC ?_) | (refine M2 ?_; refine SE ?_))
    refine XE.noGoto_ret ?_
    refine XE.retg tok Tryz.results9 rfl (by simp only [and_self, and_true]) (fun w' S => ?_)
    exact ⟨_, [hInts ⟨none, 0, 0⟩ []], rfl, ⟨⟨none, 0, 0⟩, [], rfl, rfl, fun h => absurd h h9⟩, (fun x hx => by rw [List.mem_singleton.1 hx]; exact ⟨ReadsP.nil, Nat.zero_le _⟩), hB2.trans S.toBelow⟩
  obtain ⟨hal, hnow⟩ := atE_0 h0
  have hO := alOk_of hal
  have h8 := hO.n8
  repeat (first | (refine M0 ?_; first | refine SL ?_ | refine SB fun _ _ => ?_) | (refine M1 ?_; refine SC ?_) | (refine M2 ?_; refine SE ?_))
  refine XL.callF (WetV t) (ck rfl) rfl rfl hF2 hk2 hB2 (fun w1 S1 hF1 _ => wet_made ((hF1.held (hBrd gb v t q r) (.head _)).mono fun j hj => hj.2.1) (by omega)) (fun w3 u new hR hF3 hB3 hk3 => ?_)
  obtain ⟨rT, rfl, rfl⟩ := hR
  repeat (first | (refine M0 ?_; first | refine SL ?_ | refine SB fun _ _ => ?_) | (refine M1 ?_; refine SC ?_) | (refine M2 ?_; refine SE ?_))
  refine XC.label ?_
  repeat (first | (refine M0 ?_; first | refine SL ?_ | refine SB fun _ _ => ?_) | (refine M1 ?_; refine SC ?_) | (refine M2 ?_; refine SE ?_))
  have hwl : rT.n = (t.wet.map fun i => ((i : Nat) : Int)).length := IntsAt.len (show IntsAt w3 _ rT (t.wet.map fun i => ((i : Nat) : Int)) from hF3.held (hInts rT (t.wet.map fun i => ((i : Nat) : Int))) (.head _))
  rw [List.length_map] at hwl
  have hW8 : t.wet.length ≤ t.twn.length := by
    unfold ATk.wet
    exact Nat.le_trans (List.length_filter_le _ _) (by simp)
  obtain ⟨Ar, nr, cr⟩ := rT
  simp only at hwl
  subst hwl
  simp only [svV]
  refine XC.rebase (List.nil_sublist _) (fun W0 S0 => ?_)
  have hF0 : Fam W0 w.heap.size [] [] [hInts ⟨none, 0, 0⟩ (([] : List Nat).map fun i => ((i : Nat) : Int)), hInts ⟨Ar, t.wet.length, cr⟩ (t.wet.map fun i => ((i : Nat) : Int)), hBrd gb v t q r] := ((hF3.sys S0 fun e he => .inl (by rw [List.mem_singleton.1 he]; exact .head _)).add (ks' := []) fun k hk => by cases hk).hold (x := hInts ⟨none, 0, 0⟩ (([] : List Nat).map fun i => ((i : Nat) : Int))) (ok := fun _ => False) ⟨ReadsP.nil, Nat.zero_le _⟩ fun _ h => h.elim
  have hB0 : Below w.heap.size w W0 := hB3.trans S0.toBelow
  have hn8 : t.wet.length ≤ 8 := by omega
  have h256 : 2 ^ t.wet.length ≤ 256 := Nat.pow_le_pow_right (n := 2) (by decide) hn8
  have hFn1 : FndI t now 1 [] := fun b' hb' hs => by
    have : b' = 0 := by omega
    subst this
    have h1 : selK t.wet 0 t.wet.length = [] := by unfold selK; simp
    rw [h1] at hs
    have := slots_0 (t := t) hO hnow.1 []
    simp at hs
    omega
  clear S0 hF3 hF2 hat hB3 hB2 hk2 hk3
  refine XC.loopk [1, 6, 7] rfl (fun y : Nat × Bz => [(4, .slice y.2.fv.A y.2.fv.n y.2.fv.c), (8, .int .i64 (y.1 : Nat))]) (fun _ => []) (fun y => y.2.W)
    (fun y => 1 ≤ y.1 ∧ y.1 ≤ 2 ^ t.wet.length ∧ Below w.heap.size w y.2.W ∧ Fam y.2.W w.heap.size [] [] [hInts y.2.fv (y.2.fd.map fun i => ((i : Nat) : Int)), hInts ⟨Ar, t.wet.length, cr⟩ (t.wet.map fun i => ((i : Nat) : Int)), hBrd gb v t q r] ∧ (y.2.fd = [] → y.2.fv = ⟨none, 0, 0⟩) ∧ FndI t now y.1 y.2.fd)
    (fun y => 2 ^ t.wet.length - y.1) (1, ⟨W0, ⟨none, 0, 0⟩, []⟩) ⟨Nat.le_refl _, Nat.one_le_two_pow, hB0, hF0, fun _ => rfl, hFn1⟩ ZZSUB (fun _ h => h) ?_
  rintro ⟨b, ⟨W1, fv, fd⟩⟩ ⟨hb1, hb2, hB1, hF1, hfn, hFn⟩
  simp only at hb1 hb2 hB1 hF1 hfn hFn
  obtain ⟨M, hM⟩ : ∃ M, M = 2 ^ t.wet.length := ⟨_, rfl⟩
  dsimp only [List.cons_append, List.nil_append]
  repeat (first | (refine M0 ?_; first | refine SL ?_ | refine SB fun _ _ => ?_ | refine Y4 (Ev.shl1 (n := t.wet.length) rfl (by omega)) ?_) | (refine M1 ?_; refine SC ?_) | (refine M2 ?_; refine SE ?_))
  rw [← hM] at hb2 h256 ⊢
  refine XC.cond _ rfl (fun h2 => ?_) (fun h2 => ?_)
  rotate_left
  · have hbM : b = M := by have := of_decide_eq_false h2; omega
    subst hbM
    repeat (first | (refine M0 ?_; first | refine SL ?_ | refine SB fun _ _ => ?_) | (refine M1 ?_; refine SC ?_) | (refine M2 ?_; refine SE ?_))
    refine XE.noGoto_ret ?_
    refine XE.retg tok Tryz.results9 rfl (by simp only [and_self, and_true]) (fun w' S => ?_)
    have hF2 := hF1.sys S fun e he => by cases he
    exact ⟨_, [hInts fv (fd.map fun i => ((i : Nat) : Int))], rfl, ⟨fv, fd, by rw [h0]; rfl, rfl, fun h => ⟨h0, FndI.done (by rw [← hM]; exact hFn) h⟩⟩, (fun x hx => by rw [List.mem_singleton.1 hx]; exact hF2.get (.head _)), hB1.trans S.toBelow⟩
  have hbM : b < M := by have := of_decide_eq_true h2; omega
  repeat (first | (refine M0 ?_; first | refine SL ?_ | refine SB fun _ _ => ?_) | (refine M1 ?_; refine SC ?_) | (refine M2 ?_; refine SE ?_))
  refine XC.loopk [1, 4, 6, 7, 8, 31, 32] rfl (fun y : Nat × World × Value => [(9, y.2.2), (33, .int .i64 (y.1 : Nat))]) (fun _ => []) (fun y => y.2.1)
    (fun y => y.1 ≤ t.wet.length ∧ Below w.heap.size w y.2.1 ∧ Fam y.2.1 w.heap.size [] [⟨Int, intK, y.2.2, (selK t.wet b y.1).map fun i => ((i : Nat) : Int)⟩] [hInts fv (fd.map fun i => ((i : Nat) : Int)), hInts ⟨Ar, t.wet.length, cr⟩ (t.wet.map fun i => ((i : Nat) : Int)), hBrd gb v t q r])
    (fun y => t.wet.length - y.1) (0, W1, .slice none 0 0) ⟨Nat.zero_le _, hB1, hF1.nil intK⟩ ZZSUB (fun _ h => h) ?_
  clear hB1 hF1
  rintro ⟨k, W2, sv⟩ ⟨hk, hB1, hF1⟩
  simp only at hk hB1 hF1
  dsimp only [List.cons_append, List.nil_append]
  repeat (first | (refine M0 ?_; first | refine SL ?_ | refine SB fun _ _ => ?_) | (refine M1 ?_; refine SC ?_) | (refine M2 ?_; refine SE ?_))
  refine XC.cond _ rfl (fun h3 => ?_) (fun h3 => ?_)
  · have hkn : k < t.wet.length := by have := of_decide_eq_true h3; omega
    have hI : IntsAt W2 _ ⟨Ar, t.wet.length, cr⟩ (t.wet.map fun i => ((i : Nat) : Int)) := hF1.held (hInts ⟨Ar, t.wet.length, cr⟩ (t.wet.map fun i => ((i : Nat) : Int))) (.tail _ (.head _))
    obtain ⟨ad, rfl, had, hac⟩ := IntsAt.at_ (n := t.wet.length) (c := cr) (A := Ar) hI (by rw [List.length_map]; omega)
    have hac1 := hac k (by rw [List.length_map]; exact hkn)
    have hget : at0 (t.wet.map fun i => ((i : Nat) : Int)) k = ((t.wet[k]?.getD 0 : Nat) : Int) := by simp [at0, hkn]
    rw [hget] at hac1
    have hwk : t.wet[k]?.getD 0 ∈ t.wet := by rw [List.getElem?_eq_getElem hkn]; exact List.getElem_mem hkn
    have hbk : b >>> k < 4611686018427387904 := by
      have := Nat.shiftRight_le b k
      omega
    have hadl : (ad.add (k * 1)).block < W2.heap.size := by rw [add_block]; exact had.2.1
    repeat (first | (refine M0 ?_; first | refine SL ?_ | refine SB fun _ _ => ?_ | refine Y4 (Ev.load_far tok rfl rfl hadl (fun e he => by cases he) hac1) ?_ | refine Y4 (Ev.shrA (m := b) (n := k) rfl rfl (by omega)) ?_ | refine Y4 (Ev.and1 rfl hbk) ?_) | (refine M1 ?_; refine SC ?_) | (refine M2 ?_; refine SE ?_))
    rw [bitA]
    have hlen := selK_len t.wet b k
    have hadd := selK_add t.wet b k
    cases hbt : b.testBit k with
    | true =>
      rw [hbt, if_pos rfl] at hadd
      have hl1 : ((selK t.wet b k).map fun i => ((i : Nat) : Int)).length + 1 ≤ 10000000 := by rw [List.length_map]; omega
      have hks : ∀ k, k ∈ ([] : List Nat) → k < W2.heap.size := fun k hk => by cases hk
      repeat (first | (refine M0 ?_; first | refine SL ?_ | refine SB fun _ _ => ?_) | (refine M1 ?_; refine SC ?_) | (refine M2 ?_; refine SE ?_))
      refine XL.buildSlice tok rfl rfl rfl rfl rfl rfl rfl rfl rfl (fun gn hgn => ?_)
      repeat (first | (refine M0 ?_; first | refine SL ?_ | refine SB fun _ _ => ?_) | (refine M1 ?_; refine SC ?_) | (refine M2 ?_; refine SE ?_))
      refine XL.push (K := intK) (a := ((t.wet[k]?.getD 0 : Nat) : Int)) (wE := w) 0 intK_el (by decide) rfl rfl rfl hF1 rfl hks hB1 (Nat.le_refl _) rfl hl1 (by decide) (fun x hx => by cases hx) (fun W3 u3 hF3 hB3 hk3 => ?_)
      simp only [List.set_cons_zero] at hF3
      repeat (first | (refine M0 ?_; first | refine SL ?_ | refine SB fun _ _ => ?_) | (refine M1 ?_; refine SC ?_) | (refine M2 ?_; refine SE ?_))
      refine XE.roundW (s := (k, W2, sv)) (fun w6 S6 => ⟨(k + 1, w6, u3), ⟨hkn, hB3.trans S6.toBelow, ?_⟩, by simp only; omega, ZZSUB, S6.rebase (List.nil_sublist _)⟩)
      simp only [hadd, List.map_append, List.map_cons, List.map_nil]
      exact (hF3.sys S6 fun e he => .inl (List.mem_append_left _ (List.mem_map.2 ⟨e, he, rfl⟩))).add fun k hk => by cases hk
    | false =>
      rw [hbt, if_neg (by simp), List.append_nil] at hadd
      repeat (first | (refine M0 ?_; first | refine SL ?_ | refine SB fun _ _ => ?_) | (refine M1 ?_; refine SC ?_) | (refine M2 ?_; refine SE ?_))
      refine XE.roundW (s := (k, W2, sv)) (fun w6 S6 => ⟨(k + 1, w6, sv), ⟨hkn, hB1.trans S6.toBelow, ?_⟩, by simp only; omega, ZZSUB, S6.rebase (List.nil_sublist _)⟩)
      simp only [hadd]
      exact hF1.sys S6 fun e he => by cases he
  have hkn : k = t.wet.length := by have := of_decide_eq_false h3; omega
  subst hkn
  obtain ⟨sl, hsl⟩ : ∃ sl, sl = selK t.wet b t.wet.length := ⟨_, rfl⟩
  have hslm : ∀ i, i ∈ sl → i < t.twn.length := fun i hi => by
    rw [hsl] at hi
    exact List.mem_range.1 (List.mem_filter.1 (selK_mem (Nat.le_refl _) i hi)).1
  have hsl8 : sl.length ≤ 8 := by have := selK_len t.wet b t.wet.length; rw [← hsl] at this; omega
  rw [← hsl] at hF1
  obtain ⟨⟨As, ns, cs⟩, rfl, hsn⟩ := hF1.sv (.head _)
  simp only [List.length_map] at hsn
  subst hsn
  have hFz := hF1.freeze
  have hIs : IntsAt W2 (Lt W2.heap.size) ⟨As, sl.length, cs⟩ (sl.map fun i => ((i : Nat) : Int)) := (ListAt.ints (show ListAt intK W2 _ ⟨As, sl.length, cs⟩ (sl.map fun i => ((i : Nat) : Int)) from hFz.held (hList intK ⟨As, sl.length, cs⟩ (sl.map fun i => ((i : Nat) : Int))) (.head _))).mono fun j hj => hj.2.1
  have hFs : Fam W2 w.heap.size [] [] [hInts ⟨As, sl.length, cs⟩ (sl.map fun i => ((i : Nat) : Int)), hInts fv (fd.map fun i => ((i : Nat) : Int)), hInts ⟨Ar, t.wet.length, cr⟩ (t.wet.map fun i => ((i : Nat) : Int)), hBrd gb v t q r] :=
    (hFz.hold (x := hInts ⟨As, sl.length, cs⟩ (sl.map fun i => ((i : Nat) : Int))) (ListAt.ints (show ListAt intK W2 _ ⟨As, sl.length, cs⟩ (sl.map fun i => ((i : Nat) : Int)) from hFz.held (hList intK ⟨As, sl.length, cs⟩ (sl.map fun i => ((i : Nat) : Int))) (.head _))) fun _ h => h).forget fun x hx => by
      rcases List.mem_cons.1 hx with rfl | hx
      · exact .head _
      · exact .tail _ (.tail _ hx)
  have hIf : IntsAt W2 (Lt W2.heap.size) fv (fd.map fun i => ((i : Nat) : Int)) := (show IntsAt W2 _ fv (fd.map fun i => ((i : Nat) : Int)) from hFs.held (hInts fv (fd.map fun i => ((i : Nat) : Int))) (.tail _ (.head _))).mono fun j hj => hj.2.1
  have hBr : BrdAt W2 (Lt W2.heap.size) gb v t q r := (show BrdAt W2 _ gb v t q r from hFs.held (hBrd gb v t q r) (.tail _ (.tail _ (.tail _ (.head _))))).mono fun j hj => hj.2.1
  simp only [svV]
  have hslc : ∀ (W : World), Below w.heap.size w W → Fam W w.heap.size [] [] [hInts ⟨As, sl.length, cs⟩ (sl.map fun i => ((i : Nat) : Int)), hInts fv (fd.map fun i => ((i : Nat) : Int)), hInts ⟨Ar, t.wet.length, cr⟩ (t.wet.map fun i => ((i : Nat) : Int)), hBrd gb v t q r] → ∀ w5, Sys w.heap.size W [] w5 →
      Calls Tryz.prog 31 #[.pointer (some ⟨gb, 0, none⟩), .int .i64 now, .slice As sl.length cs] w5 fun e w' => e = .returned (.int .i64 (t.slots now sl)) ∧ Below w5.heap.size w5 w' := fun W hBW hFW w5 S5 => by
    have hF5 := hFW.sys S5 fun e he => by cases he
    have hB5 := hBW.trans S5.toBelow
    exact slots_any (rT := ⟨As, sl.length, cs⟩) ((show BrdAt w5 _ gb v t q r from hF5.held (hBrd gb v t q r) (.tail _ (.tail _ (.tail _ (.head _))))).mono fun j hj => hj.2.1) ((ht.below hB5).more hB5.size) hO hl hnow ((show IntsAt w5 _ ⟨As, sl.length, cs⟩ (sl.map fun i => ((i : Nat) : Int)) from hF5.held (hInts ⟨As, sl.length, cs⟩ (sl.map fun i => ((i : Nat) : Int))) (.head _)).mono fun j hj => hj.2.1) hslm (by omega)
  by_cases hfd : fd = []
  · have hfv := hfn hfd
    subst hfd hfv
    repeat (first | (refine M0 ?_; first | refine SL ?_ | refine SB fun _ _ => ?_ | refine Y4 (Ev.eqNil tok rfl rfl rfl) ?_) | (refine M1 ?_; refine SC ?_) | (refine M2 ?_; refine SE ?_))
    repeat (first | (refine M0 ?_; first | refine SL ?_ | refine SB fun _ _ => ?_ | refine Y4 (Ev.call (f := 31) (ck rfl) rfl (fun w5 S5 => hslc W2 hB1 hFs w5 S5)) ?_) | (refine M1 ?_; refine SC ?_) | (refine M2 ?_; refine SE ?_))
    refine XC.cond _ rfl (fun h5 => ?_) (fun h5 => ?_)
    · have hge : (sl.length : Int) ≤ t.slots now sl := of_decide_eq_true h5
      repeat (first | (refine M0 ?_; first | refine SL ?_ | refine SB fun _ _ => ?_) | (refine M1 ?_; refine SC ?_) | (refine M2 ?_; refine SE ?_))
      refine XE.roundW (s := (b, (⟨W1, ⟨none, 0, 0⟩, ([] : List Nat)⟩ : Bz))) (fun w6 S6 => ⟨(b + 1, ⟨w6, ⟨none, 0, 0⟩, ([] : List Nat)⟩), ⟨by omega, hbM, Below.trans hB1 S6.toBelow, (Fam.sys hFs S6 fun e he => by cases he).forget (fun x hx => .tail _ hx), hfn, hFn.next (.inl (by rw [← hsl]; omega))⟩, by simp only; omega, ZZSUB, S6.rebase (List.nil_sublist _)⟩)
    · have hlt : t.slots now sl < (sl.length : Int) := by have := of_decide_eq_false h5; omega
      have hsne : sl ≠ [] := fun e => by
        have h0s := slots_0 (t := t) hO hnow.1 sl
        rw [e] at hlt h0s
        simp at hlt
        omega
      repeat (first | (refine M0 ?_; first | refine SL ?_ | refine SB fun _ _ => ?_) | (refine M1 ?_; refine SC ?_) | (refine M2 ?_; refine SE ?_))
      refine XE.roundW (s := (b, (⟨W1, ⟨none, 0, 0⟩, ([] : List Nat)⟩ : Bz))) (fun w6 S6 => ⟨(b + 1, ⟨w6, ⟨As, sl.length, cs⟩, sl⟩), ⟨by omega, hbM, Below.trans hB1 S6.toBelow, (Fam.sys hFs S6 fun e he => by cases he).forget (fun x hx => ?_), fun e => absurd e hsne, fun _ _ _ => hsne⟩, by simp only; omega, ZZSUB, S6.rebase (List.nil_sublist _)⟩)
      rcases List.mem_cons.1 hx with rfl | hx
      · exact .head _
      · exact .tail _ (.tail _ hx)
  · have hfp : 0 < (fd.map fun i => ((i : Nat) : Int)).length := by rw [List.length_map]; exact List.length_pos_iff.2 hfd
    obtain ⟨Af, nf, cf⟩ := fv
    have hfl := hIf.len
    simp only [List.length_map] at hfl
    subst hfl
    obtain ⟨adf, rfl, _, _⟩ := IntsAt.at_ (A := Af) (n := fd.length) (c := cf) hIf hfp
    simp only
    repeat (first | (refine M0 ?_; first | refine SL ?_ | refine SB fun _ _ => ?_ | refine Y4 (Ev.eqNil tok rfl rfl rfl) ?_) | (refine M1 ?_; refine SC ?_) | (refine M2 ?_; refine SE ?_))
    by_cases hlt0 : (sl.length : Int) < (fd.length : Int)
    · rw [show decide ((sl.length : Int) < (fd.length : Int)) = true from decide_eq_true hlt0]
      repeat (first | (refine M0 ?_; first | refine SL ?_ | refine SB fun _ _ => ?_ | refine Y4 (Ev.call (f := 31) (ck rfl) rfl (fun w5 S5 => hslc W2 hB1 hFs w5 S5)) ?_) | (refine M1 ?_; refine SC ?_) | (refine M2 ?_; refine SE ?_))
      refine XC.cond _ rfl (fun h5 => ?_) (fun h5 => ?_)
      · have hge : (sl.length : Int) ≤ t.slots now sl := of_decide_eq_true h5
        repeat (first | (refine M0 ?_; first | refine SL ?_ | refine SB fun _ _ => ?_) | (refine M1 ?_; refine SC ?_) | (refine M2 ?_; refine SE ?_))
        refine XE.roundW (s := (b, (⟨W1, ⟨some adf, fd.length, cf⟩, fd⟩ : Bz))) (fun w6 S6 => ⟨(b + 1, ⟨w6, ⟨some adf, fd.length, cf⟩, fd⟩), ⟨by omega, hbM, Below.trans hB1 S6.toBelow, (Fam.sys hFs S6 fun e he => by cases he).forget (fun x hx => .tail _ hx), hfn, hFn.next (.inl (by rw [← hsl]; omega))⟩, by simp only; omega, ZZSUB, S6.rebase (List.nil_sublist _)⟩)
      · have hlt : t.slots now sl < (sl.length : Int) := by have := of_decide_eq_false h5; omega
        have hsne : sl ≠ [] := fun e => by
          have h0s := slots_0 (t := t) hO hnow.1 sl
          rw [e] at hlt h0s
          simp at hlt
          omega
        repeat (first | (refine M0 ?_; first | refine SL ?_ | refine SB fun _ _ => ?_) | (refine M1 ?_; refine SC ?_) | (refine M2 ?_; refine SE ?_))
        refine XE.roundW (s := (b, (⟨W1, ⟨some adf, fd.length, cf⟩, fd⟩ : Bz))) (fun w6 S6 => ⟨(b + 1, ⟨w6, ⟨As, sl.length, cs⟩, sl⟩), ⟨by omega, hbM, Below.trans hB1 S6.toBelow, (Fam.sys hFs S6 fun e he => by cases he).forget (fun x hx => ?_), fun e => absurd e hsne, fun _ _ _ => hsne⟩, by simp only; omega, ZZSUB, S6.rebase (List.nil_sublist _)⟩)
        rcases List.mem_cons.1 hx with rfl | hx
        · exact .head _
        · exact .tail _ (.tail _ hx)
    · rw [show decide ((sl.length : Int) < (fd.length : Int)) = false from decide_eq_false hlt0]
      repeat (first | (refine M0 ?_; first | refine SL ?_ | refine SB fun _ _ => ?_) | (refine M1 ?_; refine SC ?_) | (refine M2 ?_; refine SE ?_))
      by_cases heq0 : (sl.length : Int) = (fd.length : Int)
      · rw [show decide ((sl.length : Int) = (fd.length : Int)) = true from decide_eq_true heq0]
        repeat (first | (refine M0 ?_; first | refine SL ?_ | refine SB fun _ _ => ?_) | (refine M1 ?_; refine SC ?_) | (refine M2 ?_; refine SE ?_))
        refine XL.callr (fst := []) (cap := []) (fun w5 vv w6 => ∃ z : Int, vv = .int .i64 z ∧ Below w5.heap.size w5 w6) (ck rfl) rfl rfl rfl (fun w5 S5 => ?_) (fun w5 vv w6 S5 hR => ?_)
        · have hF5 := hFs.sys S5 fun e he => by cases he
          exact (compareI_any (q := ⟨As, sl.length, cs⟩) (r := ⟨some adf, fd.length, cf⟩) ((show IntsAt w5 _ ⟨As, sl.length, cs⟩ (sl.map fun i => ((i : Nat) : Int)) from hF5.held (hInts ⟨As, sl.length, cs⟩ (sl.map fun i => ((i : Nat) : Int))) (.head _)).mono fun j hj => hj.2.1) ((show IntsAt w5 _ ⟨some adf, fd.length, cf⟩ (fd.map fun i => ((i : Nat) : Int)) from hF5.held (hInts ⟨some adf, fd.length, cf⟩ (fd.map fun i => ((i : Nat) : Int))) (.tail _ (.head _))).mono fun j hj => hj.2.1) (by rw [List.length_map]; omega)).mono fun e w' ⟨z, h1, h2⟩ => ⟨_, h1, z, rfl, h2⟩
        obtain ⟨z, rfl, hb6⟩ := hR
        have hF6 := (hFs.sys S5 fun e he => by cases he).below hb6
        have hB6 : Below w.heap.size w w6 := hB1.trans (S5.toBelow.trans (hb6.mono (Nat.le_trans S5.base S5.size)))
        refine ⟨[], w6, S5.made hb6, ?_⟩
        by_cases hz0 : z < 0
        · repeat (first | (refine M0 ?_; first | refine SL ?_ | refine SB fun _ _ => ?_) | (refine M1 ?_; refine SC ?_) | (refine M2 ?_; refine SE ?_))
          rw [show decide (z < 0) = true from decide_eq_true hz0]
          repeat (first | (refine M0 ?_; first | refine SL ?_ | refine SB fun _ _ => ?_ | refine Y4 (Ev.call (f := 31) (ck rfl) rfl (fun w5 S5 => hslc w6 hB6 hF6 w5 S5)) ?_) | (refine M1 ?_; refine SC ?_) | (refine M2 ?_; refine SE ?_))
          refine XC.cond _ rfl (fun h5 => ?_) (fun h5 => ?_)
          · have hge : (sl.length : Int) ≤ t.slots now sl := of_decide_eq_true h5
            repeat (first | (refine M0 ?_; first | refine SL ?_ | refine SB fun _ _ => ?_) | (refine M1 ?_; refine SC ?_) | (refine M2 ?_; refine SE ?_))
            refine XE.roundW (s := (b, (⟨W1, ⟨some adf, fd.length, cf⟩, fd⟩ : Bz))) (fun w6 S6 => ⟨(b + 1, ⟨w6, ⟨some adf, fd.length, cf⟩, fd⟩), ⟨by omega, hbM, Below.trans hB6 S6.toBelow, (Fam.sys hF6 S6 fun e he => by cases he).forget (fun x hx => .tail _ hx), hfn, hFn.next (.inl (by rw [← hsl]; omega))⟩, by simp only; omega, ZZSUB, S6.rebase (List.nil_sublist _)⟩)
          · have hlt : t.slots now sl < (sl.length : Int) := by have := of_decide_eq_false h5; omega
            have hsne : sl ≠ [] := fun e => by
              have h0s := slots_0 (t := t) hO hnow.1 sl
              rw [e] at hlt h0s
              simp at hlt
              omega
            repeat (first | (refine M0 ?_; first | refine SL ?_ | refine SB fun _ _ => ?_) | (refine M1 ?_; refine SC ?_) | (refine M2 ?_; refine SE ?_))
            refine XE.roundW (s := (b, (⟨W1, ⟨some adf, fd.length, cf⟩, fd⟩ : Bz))) (fun w6 S6 => ⟨(b + 1, ⟨w6, ⟨As, sl.length, cs⟩, sl⟩), ⟨by omega, hbM, Below.trans hB6 S6.toBelow, (Fam.sys hF6 S6 fun e he => by cases he).forget (fun x hx => ?_), fun e => absurd e hsne, fun _ _ _ => hsne⟩, by simp only; omega, ZZSUB, S6.rebase (List.nil_sublist _)⟩)
            rcases List.mem_cons.1 hx with rfl | hx
            · exact .head _
            · exact .tail _ (.tail _ hx)
        · repeat (first | (refine M0 ?_; first | refine SL ?_ | refine SB fun _ _ => ?_) | (refine M1 ?_; refine SC ?_) | (refine M2 ?_; refine SE ?_))
          rw [show decide (z < 0) = false from decide_eq_false hz0]
          repeat (first | (refine M0 ?_; first | refine SL ?_ | refine SB fun _ _ => ?_) | (refine M1 ?_; refine SC ?_) | (refine M2 ?_; refine SE ?_))
          refine XE.roundW (s := (b, (⟨W1, ⟨some adf, fd.length, cf⟩, fd⟩ : Bz))) (fun w6 S6 => ⟨(b + 1, ⟨w6, ⟨some adf, fd.length, cf⟩, fd⟩), ⟨by omega, hbM, Below.trans hB6 S6.toBelow, (Fam.sys hF6 S6 fun e he => by cases he).forget (fun x hx => .tail _ hx), hfn, hFn.next (.inr hfd)⟩, by simp only; omega, ZZSUB, S6.rebase (List.nil_sublist _)⟩)
      · rw [show decide ((sl.length : Int) = (fd.length : Int)) = false from decide_eq_false heq0]
        repeat (first | (refine M0 ?_; first | refine SL ?_ | refine SB fun _ _ => ?_) | (refine M1 ?_; refine SC ?_) | (refine M2 ?_; refine SE ?_))
        refine XE.roundW (s := (b, (⟨W1, ⟨some adf, fd.length, cf⟩, fd⟩ : Bz))) (fun w6 S6 => ⟨(b + 1, ⟨w6, ⟨some adf, fd.length, cf⟩, fd⟩), ⟨by omega, hbM, Below.trans hB1 S6.toBelow, (Fam.sys hFs S6 fun e he => by cases he).forget (fun x hx => .tail _ hx), hfn, hFn.next (.inr hfd)⟩, by simp only; omega, ZZSUB, S6.rebase (List.nil_sublist _)⟩)
end X
namespace X
open Go Go.RowKit Bs
set_option maxHeartbeats 8000000 in
theorem Floods_own {p : BV} {b : Bas} {q r : SV} {s : Sta} {ts : List Tick} {w : World} (hL : Laid w) (hb : BasAt w w.heap.size p b) (hq : IntsAt w (Lt w.heap.size) q s.fil) (ht : TksAt w (Lt w.heap.size) r ts) :
    Calls Tryz.prog 24 #[basV p b, staV q s, svV r] w fun e w' => ∃ r : SV, e = .returned (.tuple ⟨[svV r, .int .i64 (runE b s ts)]⟩) ∧ Below w.heap.size w w' ∧ w'.ownsRow w.heap.size 3 1 (svV r) (floods b s ts).length (ints (floods b s ts)) := by
  obtain ⟨A, n, c, A2, n2, c2⟩ := p
  have hn2 := hb.n2_eq
  simp only at hn2
  subst hn2
  simp only [basV, basC, staV, staC, svV]
  refine enter Tryz.func24 rfl Tryz.ntmps24 rfl ?_; simp only [frame, Nat.zero_add, Nat.reduceAdd]
  repeat (first | (refine M0 ?_; first | refine SL ?_ | refine SB fun _ _ => ?_) | (refine M1 ?_; first | refine SC ?_ | refine SD ?_) | (refine M2 ?_; refine SE ?_) | (refine M3 ?_; first | refine SG ?_ | refine SF ?_) | (refine M4 ?_; refine SR ?_) | (refine M5 ?_; first | exact M7 | refine YM ?_ | refine YN ?_ ?_))
  rename_i g3 hg3 g4 hg4
  refine XL.callF (MomV b s ts) (ck rfl) rfl rfl (Fam.start (ks := []) (Nat.le_refl w.heap.size)) (fun _ h => by cases h) (Below.refl w.heap.size w) (fun w1 S1 _ _ => run_made (p := ⟨A, n, c, A2, b.pols.length, c2⟩) (q := q) (r := r) (hL.below S1.toBelow) (hb.sys S1) (hq.arg S1) (ht.arg S1)) (fun w2 v new hR hF2 hB2 hk2 => ?_)
  obtain ⟨rm, ms, rfl, rfl, hlen, e1, e2⟩ := hR
  simp only [svV]
  repeat (first | (refine M0 ?_; first | refine SL ?_ | refine SB fun _ _ => ?_) | (refine M1 ?_; first | refine SC ?_ | refine SD ?_) | (refine M2 ?_; refine SE ?_) | (refine M3 ?_; first | refine SG ?_ | refine SF ?_) | (refine M4 ?_; refine SR ?_) | (refine M5 ?_; first | exact M7 | refine YM ?_ | refine YN ?_ ?_))
  refine XC.cond _ rfl (fun h0 => ?_) (fun h0 => ?_)
  · have hE : runE b s ts ≠ 0 := by simpa using h0
    repeat (first | (refine M0 ?_; first | refine SL ?_ | refine SB fun _ _ => ?_) | (refine M1 ?_; first | refine SC ?_ | refine SD ?_) | (refine M2 ?_; refine SE ?_) | (refine M3 ?_; first | refine SG ?_ | refine SF ?_) | (refine M4 ?_; refine SR ?_) | (refine M5 ?_; first | exact M7 | refine YM ?_ | refine YN ?_ ?_))
    refine XE.retg tok Tryz.results24 rfl (by simp only [and_self, and_true]) (fun w' S => ?_)
    exact ⟨⟨none, 0, 0⟩, rfl, hB2.trans S.toBelow, by rw [floods_n hE]; exact World.ownsRow_nil _ _ _ _⟩
  have hE : runE b s ts = 0 := by simpa using h0
  obtain ⟨hs0, h300, herr⟩ := runE_0 hE
  have ho := (staOk_of hs0).1
  have hm6 := ho.m6
  repeat (first | (refine M0 ?_; first | refine SL ?_ | refine SB fun _ _ => ?_) | (refine M1 ?_; first | refine SC ?_ | refine SD ?_) | (refine M2 ?_; refine SE ?_) | (refine M3 ?_; first | refine SG ?_ | refine SF ?_) | (refine M4 ?_; refine SR ?_) | (refine M5 ?_; first | exact M7 | refine YM ?_ | refine YN ?_ ?_))
  refine XC.rebase (List.nil_sublist _) (fun W0 S0 => ?_)
  refine XC.loopk [8, 24] rfl (fun s' : Nat × World × Value => [(10, s'.2.2), (25, .int .i64 (s'.1 : Nat))]) (fun _ => []) (fun s' => s'.2.1)
    (fun s' => s'.1 ≤ b.pols.length ∧ Fam s'.2.1 w.heap.size [] [⟨Int, intK, s'.2.2, (List.range s'.1).map (firstF (runF b s ts))⟩] [hList momK rm ms] ∧ Below w.heap.size w s'.2.1)
    (fun s' => b.pols.length - s'.1) (0, W0, .slice none 0 0) ⟨Nat.zero_le _, ((hF2.sys S0 ZZHL).add (ks' := []) fun k hk => by cases hk).nil intK, hB2.trans S0.toBelow⟩ ZZSUB (fun _ h => h) ?_
  rintro ⟨k, W, v⟩ ⟨hk, hF, hBW⟩
  simp only at hk hF hBW
  dsimp only [List.cons_append, List.nil_append]
  repeat (first | (refine M0 ?_; first | refine SL ?_ | refine SB fun _ _ => ?_) | (refine M1 ?_; first | refine SC ?_ | refine SD ?_) | (refine M2 ?_; refine SE ?_) | (refine M3 ?_; first | refine SG ?_ | refine SF ?_) | (refine M4 ?_; refine SR ?_) | (refine M5 ?_; first | exact M7 | refine YM ?_ | refine YN ?_ ?_))
  refine XC.cond _ rfl (fun h1 => ?_) (fun h1 => ?_)
  · have hkn : k < b.pols.length := by simpa using h1
    have hks : ∀ k, k ∈ ([] : List Nat) → k < W.heap.size := fun k hk => by cases hk
    have hl1 : ((List.range k).map (firstF (runF b s ts))).length + 1 ≤ 10000000 := by simp; omega
    have ha1 : ∀ x, x ∈ intK.sl (firstF (runF b s ts) k) → x ∈ [hList momK rm ms] := fun x hx => by cases hx
    repeat (first | (refine M0 ?_; first | refine SL ?_ | refine SB fun _ _ => ?_) | (refine M1 ?_; first | refine SC ?_ | refine SD ?_) | (refine M2 ?_; refine SE ?_) | (refine M3 ?_; first | refine SG ?_ | refine SF ?_) | (refine M4 ?_; refine SR ?_) | (refine M5 ?_; first | exact M7 | refine YM ?_ | refine YN ?_ ?_))
    rename_i g11 hg11
    repeat (first | (refine M0 ?_; first | refine SL ?_ | refine SB fun _ _ => ?_ | refine Y4 (Ev.makeFunc rfl rfl) ?_) | (refine M1 ?_; first | refine SC ?_ | refine SD ?_) | (refine M2 ?_; refine SE ?_) | (refine M3 ?_; first | refine SG ?_ | refine SF ?_ | refine YF (Ev.makeFunc rfl rfl) ?_) | (refine M4 ?_; refine SR ?_) | (refine M5 ?_; first | exact M7 | refine YM ?_ | refine YN ?_ ?_))
    refine XL.step _ (Ev.call (f := 46) (ck rfl) rfl (fun w5 S5 => (index_gen (f := 47) (cap := [.pointer (some ⟨g11, 0, none⟩)]) (P := fun m => decide (0 < m.f.t k)) (r := rm) (ms := ms) (ck rfl) (Held.lt (x := hList momK rm ms) ((hF.sys S5 ZZHL).get (.head _))) (by omega) (fun m hm w6 hb6 => by
      have h5 : ListAt momK w5 (Lt w5.heap.size) rm ms := Held.lt (x := hList momK rm ms) ((hF.sys S5 ZZHL).get (.head _))
      have h6 : IntsAt w5 (Lt w5.heap.size) m.r m.f.taken := h5.ins m hm (hInts _ _) (.tail _ (.head _))
      have h7 := S5.own (g11, _) (.head _)
      refine floods1_any (m := m) (gi := g11) (i := k) ((hb6.block g11 (S5.lt (.head _))).trans h7.2) ((h6.below hb6).mono fun j hj => Nat.lt_of_lt_of_le hj hb6.size) ?_
      rw [flo_len (b := b) (s := s) (ts := ts) (by rw [← e2]; exact List.mem_map.2 ⟨m, hm, rfl⟩)]
      exact hkn) :))) rfl ?_
    rw [idxV_first e2 k]
    repeat (first | (refine M0 ?_; first | refine SL ?_ | refine SB fun _ _ => ?_ | refine XL.buildSlice tok rfl rfl rfl rfl rfl rfl rfl rfl rfl (fun _ _ => ?_) | (refine XL.at_push 26 ?_; refine XL.push (K := intK) (a := firstF (runF b s ts) k) (wE := w) 0 intK_el (by decide) rfl rfl rfl (by assumption) rfl (by assumption) (by assumption) (Nat.le_refl _) rfl hl1 (by decide) ha1 (fun _ _ _ _ _ => ?_))) | (refine M1 ?_; first | refine SC ?_ | refine SD ?_) | (refine M2 ?_; refine SE ?_) | (refine M3 ?_; first | refine SG ?_ | refine SF ?_) | (refine M4 ?_; refine SR ?_) | (refine M5 ?_; first | exact M7 | refine YM ?_ | refine YN ?_ ?_))
    refine XE.roundW (s := (k, W, v)) (fun w6 S6 => ⟨(k + 1, w6, _), ⟨hkn, ?_, ?_⟩, by simp only; omega, ZZSUB, S6.rebase (List.nil_sublist _)⟩)
    · rw [range_add]
      exact Fam.add (Fam.sys (by assumption) S6 ZZHL) fun k hk => by cases hk
    · exact Below.trans (by assumption) S6.toBelow
  · have hkn : k = b.pols.length := by have : ¬ (k < b.pols.length) := by simpa using h1
                                       omega
    subst hkn
    repeat (first | (refine M0 ?_; first | refine SL ?_ | refine SB fun _ _ => ?_) | (refine M1 ?_; first | refine SC ?_ | refine SD ?_) | (refine M2 ?_; refine SE ?_) | (refine M3 ?_; first | refine SG ?_ | refine SF ?_) | (refine M4 ?_; refine SR ?_) | (refine M5 ?_; first | exact M7 | refine YM ?_ | refine YN ?_ ?_))
    refine XE.retg tok Tryz.results24 rfl (by simp only [and_self, and_true]) (fun w' S => ?_)
    have hF6 := hF.sys S (fun e he => by cases he)
    obtain ⟨r1, rfl, _⟩ := hF6.sv (.head _)
    have h5 := hF6.row _ (.head _)
    simp only [ints_flat'] at h5
    exact ⟨r1, by rw [hE]; rfl, hBW.trans S.toBelow, by rw [floods_0 hE]; exact h5⟩
theorem Fam.dropA {W : World} {b0 : Nat} {ks : List Nat} {rs : List RowX} {hs : List Held} {r : RowX} {g : Nat} (h : Fam W b0 ks (r :: rs) hs) (hg : r.v.ownBlock = some g) : Fam W b0 (g :: ks) rs hs := by
  have hf : ∀ j, Free W b0 ks (r :: rs) j → Free W b0 (g :: ks) rs j := fun j hj => ⟨hj.1, hj.2.1, fun hm => by
    rcases List.mem_cons.1 hm with rfl | hm
    · exact hj.2.2.2 r (.head _) hg
    · exact hj.2.2.1 hm, fun x hx => hj.2.2.2 x (.tail _ hx)⟩
  refine ⟨h.base, fun x hx => h.row x (.tail _ hx), fun x hx k hk hm => ?_, (List.pairwise_cons.1 h.two).2, fun x hx a ha y hy => y.mono (h.ins x (.tail _ hx) a ha y hy) hf, fun y hy => y.mono (h.held y hy) hf⟩
  rcases List.mem_cons.1 hm with rfl | hm
  · exact (List.pairwise_cons.1 h.two).1 x hx _ hg hk
  · exact h.sep x (.tail _ hx) k hk hm
theorem Fam.undropA {W : World} {b0 : Nat} {ks : List Nat} {rs : List RowX} {hs : List Held} {g : Nat} {α : Type} {K : Kind α} {v : Value} {l : List α} (h : Fam W b0 (g :: ks) rs hs) (hrow : W.ownsRow b0 K.ty K.m v l.length (l.flatMap K.c)) (hg : v.ownBlock = some g) (hk : g ∉ ks) (hsl : ∀ a, K.sl a = []) : Fam W b0 ks (⟨α, K, v, l⟩ :: rs) hs := by
  have hf : ∀ j, Free W b0 (g :: ks) rs j → Free W b0 ks (⟨α, K, v, l⟩ :: rs) j := fun j hj => ⟨hj.1, hj.2.1, fun hm => hj.2.2.1 (.tail _ hm), fun x hx e => by
    rcases List.mem_cons.1 hx with rfl | hx
    · rw [hg] at e
      cases e
      exact hj.2.2.1 (.head _)
    · exact hj.2.2.2 x hx e⟩
  refine ⟨h.base, fun x hx => ?_, fun x hx k hk2 hm => ?_, .cons (fun x hx k hk2 hk3 => ?_) h.two, fun x hx a ha y hy => ?_, fun y hy => y.mono (h.held y hy) hf⟩
  · rcases List.mem_cons.1 hx with rfl | hx
    · exact hrow
    · exact h.row x hx
  · rcases List.mem_cons.1 hx with rfl | hx
    · rw [hg] at hk2
      cases hk2
      exact hk hm
    · exact h.sep x hx k hk2 (.tail _ hm)
  · rw [hg] at hk2
    cases hk2
    exact h.sep x hx _ hk3 (.head _)
  · rcases List.mem_cons.1 hx with rfl | hx
    · rw [hsl a] at hy; cases hy
    · exact y.mono (h.ins x hx a ha y hy) hf
theorem firstF_in {fs : List Flo} {i : Nat} (h : fs.length ≤ 300) : -1 ≤ firstF fs i ∧ firstF fs i ≤ 300 := by
  unfold firstF
  split
  · rename_i k hk
    have := (List.findIdx?_eq_some_iff_getElem.1 hk).1
    omega
  · omega
theorem floods_in {b : Bs.Bas} {s : Sta} {ts : List Tick} {n : Int} (h : n ∈ floods b s ts) : -1 ≤ n ∧ n ≤ 300 := by
  unfold floods at h
  split at h
  · cases h
  · rename_i h0
    obtain ⟨i, _, rfl⟩ := List.mem_map.1 h
    have hE : runE b s ts = 0 := by simpa using h0
    refine firstF_in ?_
    have h3 := (runE_0 hE).2.1
    rw [(run_0 hE).2]
    simp [momsAt]
    omega
end X
end Go.Proofs.YtgddcbpbadookaaGreatDoor
