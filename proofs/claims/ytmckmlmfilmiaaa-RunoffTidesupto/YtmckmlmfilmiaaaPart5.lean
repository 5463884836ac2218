/-
  What Windows lists; has (runoff).
-/
import Derived.Test.YtmckmlmfilmiaaaPart4
import Derived.Test.YtmckmlmfilmiaaaPart3
set_option linter.unusedVariables false
set_option linter.unusedSimpArgs false
namespace Go.Proofs.Ytmckmlmfilmiaaa.Bs
open Go.Proofs.Ytmckmlmfilmiaaa.X
set_option linter.unusedVariables false
theorem mem_winS {lv x : Int} {l : List Spn} : ∀ {k : Nat}, x ∈ winS lv l k ↔ ∃ i : Nat, i < k ∧ x = i ∧ (spn l i).hi < lv := by
  intro k
  induction k with
  | zero => simp [winS]
  | succ k ih =>
    by_cases h : (spn l k).hi < lv
    · rw [winS_y h, List.mem_append, ih, List.mem_singleton]
      refine ⟨fun h1 => h1.elim (fun ⟨i, a, b, c⟩ => ⟨i, by omega, b, c⟩) (fun e => ⟨k, by omega, e, h⟩), fun ⟨i, a, b, c⟩ => ?_⟩
      by_cases e : i = k
      · subst e; exact .inr b
      · exact .inl ⟨i, by omega, b, c⟩
    · rw [winS_n h, ih]
      refine ⟨fun ⟨i, a, b, c⟩ => ⟨i, by omega, b, c⟩, fun ⟨i, a, b, c⟩ => ?_⟩
      by_cases e : i = k
      · subst e; exact absurd c h
      · exact ⟨i, by omega, b, c⟩
theorem mem_winP {lv x : Int} {l : List Spn} : ∀ {k : Nat}, x ∈ winP lv l k ↔ ∃ i : Nat, i < k ∧ x = i ∧ (spn l i).lo < lv := by
  intro k
  induction k with
  | zero => simp [winP]
  | succ k ih =>
    by_cases h : (spn l k).lo < lv
    · rw [winP_y h, List.mem_append, ih, List.mem_singleton]
      refine ⟨fun h1 => h1.elim (fun ⟨i, a, b, c⟩ => ⟨i, by omega, b, c⟩) (fun e => ⟨k, by omega, e, h⟩), fun ⟨i, a, b, c⟩ => ?_⟩
      by_cases e : i = k
      · subst e; exact .inr b
      · exact .inl ⟨i, by omega, b, c⟩
    · rw [winP_n h, ih]
      refine ⟨fun ⟨i, a, b, c⟩ => ⟨i, by omega, b, c⟩, fun ⟨i, a, b, c⟩ => ?_⟩
      by_cases e : i = k
      · subst e; exact absurd c h
      · exact ⟨i, by omega, b, c⟩
theorem winS_at {lv : Int} {l : List Spn} {n j : Nat} (hj : j < n) : ((j : Int) ∈ winS lv l n) ↔ (spn l j).hi < lv := by
  rw [mem_winS]
  exact ⟨fun ⟨i, a, b, c⟩ => by have : i = j := by omega
                                subst this; exact c, fun h => ⟨j, hj, rfl, h⟩⟩
theorem winP_at {lv : Int} {l : List Spn} {n j : Nat} (hj : j < n) : ((j : Int) ∈ winP lv l n) ↔ (spn l j).lo < lv := by
  rw [mem_winP]
  exact ⟨fun ⟨i, a, b, c⟩ => by have : i = j := by omega
                                subst this; exact c, fun h => ⟨j, hj, rfl, h⟩⟩
end Go.Proofs.Ytmckmlmfilmiaaa.Bs
namespace Go.Proofs.Ytmckmlmfilmiaaa.X
open Go Go.RowKit Go.Proofs.Ytmckmlmfilmiaaa.Bs
set_option linter.unusedVariables false
theorem has_any {q : SV} {l : List Int} {n : Int} {w : World} (hq : IntsAt w (Lt w.heap.size) q l) :
    Calls Try.prog 29 #[svV q, .int .i64 n] w fun e w' => e = .returned (.bool (decide (n ∈ l))) ∧ Below w.heap.size w w' := by
  obtain ⟨A, m, c⟩ := q
  have lq := hq.len
  have mq := hq.max
  simp only at lq mq
  subst lq
  simp only [svV]
  refine enter Try.func29 rfl Try.ntmps29 rfl ?_; simp only [frame, Nat.zero_add, Nat.reduceAdd]
  repeat (first | (refine M0 ?_; first | refine SL ?_ | refine SB fun _ _ => ?_) | (refine M1 ?_; refine SC ?_) | (refine M2 ?_; refine SE ?_))
  refine XC.loopk [0, 1] rfl (fun k : Nat => [(5, .int .i64 (k : Nat))]) (fun _ => []) (fun _ => w) (fun k => k ≤ l.length ∧ ∀ j, j < k → at0 l j ≠ n) (fun k => l.length - k) 0 ⟨Nat.zero_le _, fun j h => absurd h (by omega)⟩ ZZSUB (fun _ h => h) ?_
  rintro k ⟨hk, h0⟩
  dsimp only [List.cons_append, List.nil_append]
  repeat (first | (refine M0 ?_; first | refine SL ?_ | refine SB fun _ _ => ?_) | (refine M1 ?_; refine SC ?_) | (refine M2 ?_; refine SE ?_))
  refine XC.cond _ rfl (fun h2 => ?_) (fun h2 => ?_)
  rotate_left
  · have hkn : k = l.length := by have := of_decide_eq_false h2; omega
    subst hkn
    repeat (first | (refine M0 ?_; first | refine SL ?_ | refine SB fun _ _ => ?_) | (refine M1 ?_; refine SC ?_) | (refine M2 ?_; refine SE ?_))
    refine XE.retg tok Try.results29 rfl (by simp only [and_self, and_true]) (fun w' S => ?_)
    rw [decide_eq_false (fun hm => by
      obtain ⟨j, hj, e⟩ := List.mem_iff_getElem.1 hm
      exact h0 j hj (by unfold at0; rw [List.getElem?_eq_getElem hj, e]; rfl))]
    exact ⟨rfl, S.toBelow⟩
  have hkn : k < l.length := by have := of_decide_eq_true h2; omega
  obtain ⟨ad, rfl, hlt, hc⟩ := hq.at_ (by omega)
  have hck := hc k hkn
  repeat (first | (refine M0 ?_; first | refine SL ?_ | refine SB fun _ _ => ?_ | refine Y4 (Ev.load_old tok rfl rfl (add_lt hlt) hck) ?_) | (refine M1 ?_; refine SC ?_) | (refine M2 ?_; refine SE ?_))
  refine XC.cond _ rfl (fun h3 => ?_) (fun h3 => ?_)
  · repeat (first | (refine M0 ?_; first | refine SL ?_ | refine SB fun _ _ => ?_) | (refine M1 ?_; refine SC ?_) | (refine M2 ?_; refine SE ?_))
    refine XE.retg tok Try.results29 rfl (by simp only [and_self, and_true]) (fun w' S => ?_)
    have he : at0 l k = n := of_decide_eq_true h3
    rw [decide_eq_true (show n ∈ l by
      rw [← he]
      unfold at0
      rw [List.getElem?_eq_getElem hkn]
      exact List.getElem_mem hkn)]
    exact ⟨rfl, S.toBelow⟩
  · repeat (first | (refine M0 ?_; first | refine SL ?_ | refine SB fun _ _ => ?_) | (refine M1 ?_; refine SC ?_) | (refine M2 ?_; refine SE ?_))
    exact XE.round (s := k) (k + 1) ⟨hkn, fun j hj => by
      by_cases e : j = k
      · rw [e]; exact of_decide_eq_false h3
      · exact h0 j (by omega)⟩ (by omega) ZZSUB (fun _ h => h)
end Go.Proofs.Ytmckmlmfilmiaaa.X
