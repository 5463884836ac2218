/-
  The walk of the iterator of all.
-/
import Derived.Test.YtoiepgcjinccpaaDoorBs16
namespace Go.Proofs.YtoiepgcjinccpaaDoor.X
open Go Go.RowKit Go.Proofs.YtoiepgcjinccpaaDoor.Bs
set_option linter.unusedVariables false
section
variable {base B : Nat} {ks : List Nat} {row : Option Nat} {W W' W2 : World} {v : Value} {ms : List Mom} {L : Lo}
theorem Grew.refl : Grew ks row W W := ⟨Nat.le_refl _, fun _ _ _ _ => rfl⟩
theorem Grew.trans (h : Grew ks row W W') (k : Grew ks row W' W2) : Grew ks row W W2 := ⟨Nat.le_trans h.size k.size, fun j h1 h2 h3 => (k.old j (Nat.lt_of_lt_of_le h1 h.size) h2 h3).trans (h.old j h1 h2 h3)⟩
/-- all of L's blocks that W knows are among these. -/
theorem Grew.sys {w : World} (S : Sys B W L w) (hL : ∀ e, e ∈ L → e.1 ∈ ks ∨ W.heap.size ≤ e.1) : Grew ks row W w := ⟨S.size, fun j h1 h2 h3 => S.old j h1 fun e he e1 => by
  rcases hL e he with h | h
  · exact h2 (e1 ▸ h)
  · omega⟩
/-- what stands but for L's blocks (no row among what is kept). -/
theorem Own.move (h : Grew ks row W W') : ∀ j, Own base ks row W j → W'.heap[j]? = W.heap[j]? := fun j hj => h.old j hj.2.1 hj.2.2.1 hj.2.2.2
theorem Own.le (h : W.heap.size ≤ W'.heap.size) : ∀ j, Own base ks row W j → Own base ks row W' j := fun j hj => ⟨hj.1, Nat.lt_of_lt_of_le hj.2.1 h, hj.2.2⟩
/-- the row stays, no block of ks is written but those that are not the row. -/
theorem MomsAt.move (hm : MomsAt W base ks v ms) (h : Grew ks none W W') : MomsAt W' base ks v ms := by
  have h' : Grew ks v.ownBlock W W' := ⟨h.size, fun j h1 h2 _ => h.old j h1 h2 (by simp)⟩
  refine ⟨⟨hm.row.1, ?_⟩, hm.sep, fun k hk => ⟨(hm.lt k hk).1, Nat.lt_of_lt_of_le (hm.lt k hk).2 h.size⟩, fun m hmm => ?_⟩
  · rcases hm.row.2 with h1 | ⟨g, cap, cur, rfl, hb, hg, h1⟩
    · exact .inl h1
    · refine .inr ⟨g, cap, cur, rfl, hb, ?_, h1⟩
      rw [h.old g (Array.getElem?_eq_some_iff.1 hg).1 (hm.sep g rfl) (by simp)]
      exact hg
  · obtain ⟨h1, h2⟩ := hm.ins m hmm
    exact ⟨(h1.keep (Own.move h')).mono (Own.le h.size), (h2.keep (Own.move h')).mono (Own.le h.size)⟩
theorem MomsAt.nil : MomsAt W base ks (.slice none 0 0) [] := ⟨World.ownsRow_nil _ _ _ _, fun k hk => by simp [Value.ownBlock] at hk, fun k hk => by simp [Value.ownBlock] at hk, fun m hm => by cases hm⟩
/-- one more. -/
theorem MomsAt.more {v' : Value} {m : Mom} (hm : MomsAt W base ks v ms) (hb : base ≤ W.heap.size) (hrow : W'.ownsRow base 103 7 v' (ms.length + 1) (ms.flatMap Mom.c ++ m.c)) (hv : ∀ k, v'.ownBlock = some k → v.ownBlock = some k ∨ W.heap.size ≤ k ∧ k ∉ ks)
    (h : Grew ks v.ownBlock W W') (h1 : IntsAt W (Own base ks v.ownBlock W) m.q m.s.fil) (h2 : IntsAt W (Own base ks v.ownBlock W) m.r m.f.taken) : MomsAt W' base ks v' (ms ++ [m]) := by
  have hcl : ∀ j, Own base ks v.ownBlock W j → Own base ks v'.ownBlock W' j := fun j hj => ⟨hj.1, Nat.lt_of_lt_of_le hj.2.1 h.size, hj.2.2.1, fun e => by
    rcases hv j e with h3 | h3
    · exact hj.2.2.2 h3
    · have := hj.2.1; omega⟩
  refine ⟨by simpa using hrow, fun k hk => ?_, fun k hk => hrow.lt k hk, fun m' hm' => ?_⟩
  · rcases hv k hk with h3 | h3
    · exact hm.sep k h3
    · exact h3.2
  · rcases List.mem_append.1 hm' with h3 | h3
    · obtain ⟨a1, a2⟩ := hm.ins m' h3
      exact ⟨(a1.keep (Own.move h)).mono hcl, (a2.keep (Own.move h)).mono hcl⟩
    · rw [List.mem_singleton] at h3
      subst h3
      exact ⟨(h1.keep (Own.move h)).mono hcl, (h2.keep (Own.move h)).mono hcl⟩
end
theorem Sys.keyLt {B : Nat} {w0 w : World} {L : Lo} (S : Sys B w0 L w) : ∀ j, j ∈ L.map (·.1) → j < w.heap.size := fun j hj => by
  obtain ⟨e, he, rfl⟩ := List.mem_map.1 hj
  exact S.lt he
theorem grew3 {B : Nat} {ks : List Nat} {row : Option Nat} {W w1 w2 w3 : World} {L1 L3 : Lo} (S1 : Sys B W L1 w1) (hB : Below w1.heap.size w1 w2) (S3 : Sys B w2 L3 w3) (h1 : ∀ k, k ∈ L1.map (·.1) → k ∈ ks ∨ W.heap.size ≤ k) (h3 : ∀ k, k ∈ L3.map (·.1) → k ∈ ks ∨ W.heap.size ≤ k) : Grew ks row W w3 :=
  ⟨Nat.le_trans S1.size (Nat.le_trans hB.size S3.size), fun j hj hk _ => by
    have a1 : w1.heap[j]? = W.heap[j]? := S1.old j hj fun e he e1 => by
      rcases h1 e.1 (List.mem_map.2 ⟨e, he, rfl⟩) with h | h
      · exact hk (e1 ▸ h)
      · omega
    have hj1 := Nat.lt_of_lt_of_le hj S1.size
    rw [S3.old j (Nat.lt_of_lt_of_le hj1 hB.size) fun e he e1 => by
      rcases h3 e.1 (List.mem_map.2 ⟨e, he, rfl⟩) with h | h
      · exact hk (e1 ▸ h)
      · omega, hB.block j hj1, a1]⟩
theorem fail_con : conB (Tryd.prog.underlying 143) = true := by kernel_rfl
/-- what the iterator leaves. -/
def IterR (B l D gl gs gb g8 g7 g6 : Nat) (r1 r2 : Loop) (ol ob : Obj) (b : Bas) (s : Sta) (ts : List Tick) (e x : Value) (w w' : World) : Prop :=
  (badAt b s ts = none ∧ ∃ W v ms os, Sys B W (L8 l D gl gs gb g8 g7 g6 r1 ol os ob v e x) w' ∧ Below B w W ∧ MomsAt W B (K8 l D gl gs gb g8 g7 g6) v ms ∧ ms.map Mom.p = momsAt b s ts ts.length) ∨
  (∃ k, badAt b s ts = some k ∧ ∃ W v os gf, Sys B W (L8 l D gl gs gb g8 g7 g6 r2 ol os ob v (.iface 143 (.pointer (some ⟨gf, 0, none⟩))) (.slice none 0 0)) w' ∧ Below B w W ∧ B ≤ gf ∧ gf ∉ K8 l D gl gs gb g8 g7 g6 ∧ W.heap[gf]? = some (cel 147 [.int .i64 (k : Nat), .int .i64 (errAt b s ts k)]))
set_option maxHeartbeats 8000000 in
theorem iter_any {B l D gl gs gb g8 g7 g6 : Nat} {w : World} {fn : FuncId} {a : Act} {assign body : Code} {c : Code} {e x : Value} {p : BV} {b : Bas} {q r : SV} {s : Sta} {ts : List Tick}
    (hc : Tryd.f91.body = some c) (hr : rfOf c = some (assign, body))
    (hf : Fits 25 [] [(6, .pointer (some ⟨g6, 0, none⟩)), (7, .pointer (some ⟨g7, 0, none⟩)), (8, .pointer (some ⟨g8, 0, none⟩))] a)
    (S0 : Sys B w (L8 l D gl gs gb g8 g7 g6 (recO fn a.tmps #[15, 16] assign body D .ready none) (cel 41 [svV r]) (cel 28 (staC q s)) (cel 25 (basC p b)) (.slice none 0 0) e x) w)
    (hb : BasAt w B p b) (hq : IntsAt w (Lt B) q s.fil) (ht : TksAt w (Lt B) r ts) (ho : Ok b) (hs : StaOk b s) (hn : ts.length ≤ 300) :
    Calls Tryd.prog 129 #[.func (.yield l) #[] #[], .pointer (some ⟨gl, 0, none⟩), .pointer (some ⟨gb, 0, none⟩), .pointer (some ⟨gs, 0, none⟩)] w fun e1 w' => ∃ u, e1 = .returned u ∧
      IterR B l D gl gs gb g8 g7 g6 (recO fn a.tmps #[15, 16] assign body D .ready none) (recO fn a.tmps #[15, 16] assign body D .done (some .ret)) (cel 41 [svV r]) (cel 25 (basC p b)) b s ts e x w w' := by
  obtain ⟨A, n, cc⟩ := r
  have hn1 := ht.len
  simp only at hn1
  subst hn1
  simp only [staC, basC, svV] at S0 ⊢
  have hlits : ∃ r1, recO fn a.tmps #[15, 16] assign body D .ready none = r1 ∧ ∃ r2, recO fn a.tmps #[15, 16] assign body D .done (some .ret) = r2 := ⟨_, rfl, _, rfl⟩
  obtain ⟨r1, hr1, r2, hr2⟩ := hlits
  rw [hr1] at S0
  rw [hr1, hr2]
  refine enterL Tryd.func129 rfl Tryd.ntmps129 rfl (S0) ?_; simp only [frame, Nat.zero_add, Nat.reduceAdd]
  refine XC.hint 1 5 ?_
  refine XC.hint 2 3 ?_
  refine XC.hint 3 4 ?_
  repeat (first | (refine M0 ?_; first | refine O0 ?_ | refine z1 tok rfl ?_ | refine O1 rfl ?_ rfl | refine O2 rfl ?_ | refine O3 rfl ?_ rfl | refine O4 rfl rfl rfl (fun _ _ => ?_) | refine O5 tok rfl rfl rfl (fun _ _ => ?_) | refine U0 _ (U2 rfl) rfl ?_ | refine U0 _ (U3 tok rfl rfl rfl rfl rfl) rfl ?_ | refine z3 tok rfl ?_ | refine U0 _ (U4 rfl rfl) rfl ?_ | refine U0 _ (U5 rfl rfl) rfl ?_) | (refine M1 ?_; first | refine J0 ?_ | refine J1 ?_ | refine J2 mixed rfl (by kernel_rfl) ?_ | refine J3 mixed rfl rfl (by kernel_rfl) ?_ | refine J4 ?_ | refine J5 ?_ | refine J6 ?_ | refine J7 ?_ | refine J8 rfl ?_ | refine J9 rfl ?_) | (refine M2 ?_; first | refine I0 ?_ | refine I1 ?_ | refine I2 ?_ | refine I3 ?_ | refine I4 ?_ | refine I5 ?_ | refine I6 rfl ?_ | refine I7 ?_ | refine I8 ?_ | refine z4 ?_) | (refine M3 ?_; first | refine O6 ?_ | refine z2 tok rfl ?_ | refine O8 rfl ?_ | refine O7 rfl ?_ rfl | refine O9 rfl ?_ rfl | refine U1 _ (U4 rfl rfl) rfl ?_ | refine U1 _ (U5 rfl rfl) rfl ?_ | refine U1 _ (U2 rfl) rfl ?_ | refine U1 _ (U3 tok rfl rfl rfl rfl rfl) rfl ?_) | (refine M4 ?_; first | refine M6 ?_ | refine U6 rfl (by kernel_rfl) ?_ | refine U7 (by kernel_rfl) ?_) | (refine M5 ?_; first | exact M7 | refine U8 rfl ?_ | refine U9 rfl rfl ?_ ?_))
  refine XC.loopk [0, 2, 3, 10, 11] rfl (fun s' : Nat × World × Value × List Mom × SV => [(12, .int .i64 (s'.1 : Nat))])
    (fun s' => L8 l D gl gs gb g8 g7 g6 r1 (cel 41 [.slice A ts.length cc]) (cel 28 (staC s'.2.2.2.2 (staAt b s ts s'.1))) (cel 25 (basC p b)) s'.2.2.1 e x) (fun s' => s'.2.1)
    (fun s' => s'.1 ≤ ts.length ∧ (∀ j, j < s'.1 → errAt b s ts j = 0) ∧ Below B w s'.2.1 ∧ B ≤ s'.2.1.heap.size ∧ MomsAt s'.2.1 B (K8 l D gl gs gb g8 g7 g6) s'.2.2.1 s'.2.2.2.1 ∧ s'.2.2.2.1.map Mom.p = momsAt b s ts s'.1 ∧
      IntsAt s'.2.1 (Own 0 (K8 l D gl gs gb g8 g7 g6) s'.2.2.1.ownBlock s'.2.1) s'.2.2.2.2 (staAt b s ts s'.1).fil)
    (fun s' => ts.length - s'.1) (0, w, .slice none 0 0, [], q) ⟨Nat.zero_le _, fun j hj => absurd hj (by simp), Below.refl _ _, S0.base, MomsAt.nil, rfl, ?_⟩ (by repeat (first | exact Sub.nil | refine Sub.cons rfl ?_)) (fun _ h => h) ?_
  · refine hq.mono fun j hj => ⟨Nat.zero_le _, Nat.lt_of_lt_of_le hj S0.base, fun hk => ?_, by simp [Value.ownBlock]⟩
    have hj' : j < B := hj
    have : ∀ e', e' ∈ L8 l D gl gs gb g8 g7 g6 r1 (cel 41 [.slice A ts.length cc]) (cel 28 (staC q s)) (cel 25 (basC p b)) (.slice none 0 0) e x → B ≤ e'.1 := fun e' he' => (S0.own e' he').1
    obtain ⟨e', he', e2⟩ := List.mem_map.1 (show j ∈ (L8 l D gl gs gb g8 g7 g6 r1 (cel 41 [.slice A ts.length cc]) (cel 28 (staC q s)) (cel 25 (basC p b)) (.slice none 0 0) e x).map (·.1) from hk)
    have := this e' he'
    omega
  rintro ⟨k, W, v, ms, qk⟩ ⟨hk, h0, hBW, hBsz, hm, hmp, hqk⟩
  simp only at hk h0 hBW hBsz hm hmp hqk
  simp only [staC, basC]
  dsimp only [List.cons_append, List.nil_append]
  repeat (first | (refine M0 ?_; first | refine O0 ?_ | refine z1 tok rfl ?_ | refine O1 rfl ?_ rfl | refine O2 rfl ?_ | refine O3 rfl ?_ rfl | refine O4 rfl rfl rfl (fun _ _ => ?_) | refine O5 tok rfl rfl rfl (fun _ _ => ?_) | refine U0 _ (U2 rfl) rfl ?_ | refine U0 _ (U3 tok rfl rfl rfl rfl rfl) rfl ?_ | refine z3 tok rfl ?_ | refine U0 _ (U4 rfl rfl) rfl ?_ | refine U0 _ (U5 rfl rfl) rfl ?_) | (refine M1 ?_; first | refine J0 ?_ | refine J1 ?_ | refine J2 mixed rfl (by kernel_rfl) ?_ | refine J3 mixed rfl rfl (by kernel_rfl) ?_ | refine J4 ?_ | refine J5 ?_ | refine J6 ?_ | refine J7 ?_ | refine J8 rfl ?_ | refine J9 rfl ?_) | (refine M2 ?_; first | refine I0 ?_ | refine I1 ?_ | refine I2 ?_ | refine I3 ?_ | refine I4 ?_ | refine I5 ?_ | refine I6 rfl ?_ | refine I7 ?_ | refine I8 ?_ | refine z4 ?_) | (refine M3 ?_; first | refine O6 ?_ | refine z2 tok rfl ?_ | refine O8 rfl ?_ | refine O7 rfl ?_ rfl | refine O9 rfl ?_ rfl | refine U1 _ (U4 rfl rfl) rfl ?_ | refine U1 _ (U5 rfl rfl) rfl ?_ | refine U1 _ (U2 rfl) rfl ?_ | refine U1 _ (U3 tok rfl rfl rfl rfl rfl) rfl ?_) | (refine M4 ?_; first | refine M6 ?_ | refine U6 rfl (by kernel_rfl) ?_ | refine U7 (by kernel_rfl) ?_) | (refine M5 ?_; first | exact M7 | refine U8 rfl ?_ | refine U9 rfl rfl ?_ ?_))
  refine XC.cond _ rfl (fun h1 => ?_) (fun h1 => ?_)
  · have hkn : k < ts.length := by simpa using h1
    obtain ⟨ad, rfl, hlt, _⟩ := ht.rd.at_ (by simp only; omega)
    have hcell := (ht.below hBW).tick hkn
    have hbW := hb.below hBW
    have hsk := staAt_ok ho hs k h0
    repeat (first | (refine M0 ?_; first | refine O0 ?_ | refine z1 tok rfl ?_ | refine O1 rfl ?_ rfl | refine O2 rfl ?_ | refine O3 rfl ?_ rfl | refine U0 _ (Ev.load_old_agg tok (tickC (tk ts k)) rfl rfl rfl (add_lt hlt) hcell) rfl ?_ | refine O4 rfl rfl rfl (fun _ _ => ?_) | refine O5 tok rfl rfl rfl (fun _ _ => ?_) | refine U0 _ (U2 rfl) rfl ?_ | refine U0 _ (U3 tok rfl rfl rfl rfl rfl) rfl ?_ | refine z3 tok rfl ?_ | refine U0 _ (U4 rfl rfl) rfl ?_ | refine U0 _ (U5 rfl rfl) rfl ?_) | (refine M1 ?_; first | refine J0 ?_ | refine J1 ?_ | refine J2 mixed rfl (by kernel_rfl) ?_ | refine J3 mixed rfl rfl (by kernel_rfl) ?_ | refine J4 ?_ | refine J5 ?_ | refine J6 ?_ | refine J7 ?_ | refine J8 rfl ?_ | refine J9 rfl ?_) | (refine M2 ?_; first | refine I0 ?_ | refine I1 ?_ | refine I2 ?_ | refine I3 ?_ | refine I4 ?_ | refine I5 ?_ | refine I6 rfl ?_ | refine I7 ?_ | refine I8 ?_ | refine z4 ?_) | (refine M3 ?_; first | refine O6 ?_ | refine z2 tok rfl ?_ | refine O8 rfl ?_ | refine O7 rfl ?_ rfl | refine O9 rfl ?_ rfl | refine U1 _ (Ev.load_old_agg tok (tickC (tk ts k)) rfl rfl rfl (add_lt hlt) hcell) rfl ?_ | refine U1 _ (U4 rfl rfl) rfl ?_ | refine U1 _ (U5 rfl rfl) rfl ?_ | refine U1 _ (U2 rfl) rfl ?_ | refine U1 _ (U3 tok rfl rfl rfl rfl rfl) rfl ?_) | (refine M4 ?_; first | refine M6 ?_ | refine U6 rfl (by kernel_rfl) ?_ | refine U7 (by kernel_rfl) ?_) | (refine M5 ?_; first | exact M7 | refine U8 rfl ?_ | refine U9 rfl rfl ?_ ?_))
    rename_i gt hgt
    have hk1 : ∀ j, j ∈ (gt :: K8 l D gl gs gb g8 g7 g6) → j ∈ K8 l D gl gs gb g8 g7 g6 ∨ W.heap.size ≤ j := fun j hj => by
      rcases List.mem_cons.1 hj with rfl | hj
      · exact .inr hgt
      · exact .inl hj
    refine XL.call (fst := []) (cap := []) (ck rfl) rfl rfl rfl (List.Sublist.refl _) (fun w1 v w2 => StepR b (staAt b s ts k) (tk ts k) w1 v w2)
      (fun w1 S1 => (step_any (p := p) (q := qk) (hbW.sys S1) (hqk.sys S1 ?_) ho hsk).mono fun e w' ⟨v, h, h4⟩ => ⟨v, h, h4, h4.choose_spec.choose_spec.2.2.2⟩) (fun w1 v2 w2 S1 hR hB S2 => ?_)
    · exact fun j hj => ⟨hj.2.1, fun e' he' e2 => by
        rcases hk1 e'.1 (List.mem_map.2 ⟨e', he', rfl⟩) with h | h
        · exact hj.2.2.1 (e2 ▸ h)
        · have := hj.2.1; omega⟩
    obtain ⟨q2, rf, rfl, hq2, hrf, _⟩ := hR
    simp only [staV, staC, floV, floC]
    repeat (first | (refine M0 ?_; first | refine O0 ?_ | refine z1 tok rfl ?_ | refine O1 rfl ?_ rfl | refine O2 rfl ?_ | refine O3 rfl ?_ rfl | refine O4 rfl rfl rfl (fun _ _ => ?_) | refine O5 tok rfl rfl rfl (fun _ _ => ?_) | refine U0 _ (U2 rfl) rfl ?_ | refine U0 _ (U3 tok rfl rfl rfl rfl rfl) rfl ?_ | refine z3 tok rfl ?_ | refine U0 _ (U4 rfl rfl) rfl ?_ | refine U0 _ (U5 rfl rfl) rfl ?_) | (refine M1 ?_; first | refine J0 ?_ | refine J1 ?_ | refine J2 mixed rfl (by kernel_rfl) ?_ | refine J3 mixed rfl rfl (by kernel_rfl) ?_ | refine J4 ?_ | refine J5 ?_ | refine J6 ?_ | refine J7 ?_ | refine J8 rfl ?_ | refine J9 rfl ?_) | (refine M2 ?_; first | refine I0 ?_ | refine I1 ?_ | refine I2 ?_ | refine I3 ?_ | refine I4 ?_ | refine I5 ?_ | refine I6 rfl ?_ | refine I7 ?_ | refine I8 ?_ | refine z4 ?_) | (refine M3 ?_; first | refine O6 ?_ | refine z2 tok rfl ?_ | refine O8 rfl ?_ | refine O7 rfl ?_ rfl | refine O9 rfl ?_ rfl | refine U1 _ (U4 rfl rfl) rfl ?_ | refine U1 _ (U5 rfl rfl) rfl ?_ | refine U1 _ (U2 rfl) rfl ?_ | refine U1 _ (U3 tok rfl rfl rfl rfl rfl) rfl ?_) | (refine M4 ?_; first | refine M6 ?_ | refine U6 rfl (by kernel_rfl) ?_ | refine U7 (by kernel_rfl) ?_) | (refine M5 ?_; first | exact M7 | refine U8 rfl ?_ | refine U9 rfl rfl ?_ ?_))
    rename_i gc hgc ga hga
    have hBB : Below B w w2 := hBW.trans S2.toBelow
    refine XC.cond _ rfl (fun h2 => ?_) (fun h2 => ?_)
    · repeat (first | (refine M0 ?_; first | refine O0 ?_ | refine z1 tok rfl ?_ | refine O1 rfl ?_ rfl | refine O2 rfl ?_ | refine O3 rfl ?_ rfl | refine U0 _ (Ev.makeI fail_con rfl) rfl ?_ | refine O4 rfl rfl rfl (fun _ _ => ?_) | refine O5 tok rfl rfl rfl (fun _ _ => ?_) | refine U0 _ (U2 rfl) rfl ?_ | refine U0 _ (U3 tok rfl rfl rfl rfl rfl) rfl ?_ | refine z3 tok rfl ?_ | refine U0 _ (U4 rfl rfl) rfl ?_ | refine U0 _ (U5 rfl rfl) rfl ?_) | (refine XI.id ?_; first | refine XI.done ?_ | refine XI.one1 rfl ?_) | (refine XR'.id ?_; first | refine XR'.seq ?_ | refine XR'.region ?_ | refine XR'.block ?_ | refine XR'.skip ?_ | refine XR'.ret ?_ | refine XR'.cond_t rfl ?_ | refine XR'.cond_f rfl ?_) | (refine M1 ?_; first | refine XC.regionI (id := 5) 1 ?_ | refine J0 ?_ | refine J1 ?_ | refine J2 mixed rfl (by kernel_rfl) ?_ | refine J3 mixed rfl rfl (by kernel_rfl) ?_ | refine J4 ?_ | refine J5 ?_ | refine J6 ?_ | refine J7 ?_ | refine J8 rfl ?_ | refine J9 rfl ?_) | (refine M2 ?_; first | refine XE.nextI ?_ | refine XE.nextR ?_ | refine I1 ?_ | refine I2 ?_ | refine I3 ?_ | refine I4 ?_ | refine I5 ?_ | refine I6 rfl ?_ | refine I7 ?_ | refine I8 ?_ | refine z4 ?_ | refine I0 ?_))
      refine XI.rebase (L' := L8 l D gl gs gb g8 g7 g6 r1 (cel 41 [.slice (some ad) ts.length cc]) (cel 28 (staC qk (staAt b s ts k))) (cel 25 (basC p b)) v e x) ?_ (fun w3 S3 => ?_)
      · simp only [staC, basC]
        repeat (first | exact List.Sublist.refl _ | refine List.Sublist.cons _ ?_)
      rename_i gf hgf
      have hgfK : gf ∉ K8 l D gl gs gb g8 g7 g6 := fun h => by
        have := S1.keyLt gf (List.mem_cons_of_mem gt h)
        have := hB.size
        omega
      have hgfo := (S3.own _ List.mem_cons_self).2
      refine XI.yield (vs := [.agg ⟨zmC⟩, .iface 143 (.pointer (some ⟨gf, 0, none⟩))]) rfl rfl rfl (fun _ v5 w5 => v5 = .bool false ∧ Sys B w3 (L8 l D gl gs gb g8 g7 g6 r2 (cel 41 [.slice (some ad) ts.length cc]) (cel 28 (staC qk (staAt b s ts k))) (cel 25 (basC p b)) v (.iface 143 (.pointer (some ⟨gf, 0, none⟩))) (.slice none 0 0)) w5)
        (fun w4 S4 => ?_) (fun w4 v5 w5 S4 ⟨e5, S5⟩ => ⟨_, _, S5, ?_⟩)
      · rw [← hr1] at S4
        obtain ⟨a1, a2⟩ := round_err (n := 0) (gf := gf) hc hr hf S4
        rw [hr2] at a2
        exact ⟨_, _, _, _, a1, a2⟩
      subst e5
      repeat (first | (refine M0 ?_; first | refine O0 ?_ | refine z1 tok rfl ?_ | refine O1 rfl ?_ rfl | refine O2 rfl ?_ | refine O3 rfl ?_ rfl | refine O4 rfl rfl rfl (fun _ _ => ?_) | refine O5 tok rfl rfl rfl (fun _ _ => ?_) | refine U0 _ (U2 rfl) rfl ?_ | refine U0 _ (U3 tok rfl rfl rfl rfl rfl) rfl ?_ | refine z3 tok rfl ?_ | refine U0 _ (U4 rfl rfl) rfl ?_ | refine U0 _ (U5 rfl rfl) rfl ?_) | (refine XI.id ?_; first | refine XI.done ?_ | refine XI.one1 rfl ?_) | (refine XR'.id ?_; first | refine XR'.seq ?_ | refine XR'.region ?_ | refine XR'.block ?_ | refine XR'.skip ?_ | refine XR'.ret ?_ | refine XR'.cond_t rfl ?_ | refine XR'.cond_f rfl ?_) | (refine M1 ?_; first | refine J0 ?_ | refine J1 ?_ | refine J2 mixed rfl (by kernel_rfl) ?_ | refine J3 mixed rfl rfl (by kernel_rfl) ?_ | refine J4 ?_ | refine J5 ?_ | refine J6 ?_ | refine J7 ?_ | refine J8 rfl ?_ | refine J9 rfl ?_) | (refine M2 ?_; first | refine XE.nextI ?_ | refine XE.nextR ?_ | refine I1 ?_ | refine I2 ?_ | refine I3 ?_ | refine I4 ?_ | refine I5 ?_ | refine I6 rfl ?_ | refine I7 ?_ | refine I8 ?_ | refine z4 ?_ | refine I0 ?_))
      refine XE.ret0 Tryd.results129 (fun w' S => ?_)
      exact ⟨_, rfl, .inr ⟨k, badAt_some hkn h0 (of_decide_eq_true h2), w3, v, _, gf, S, hBB.trans S3.toBelow, (S3.own _ List.mem_cons_self).1, hgfK, hgfo⟩⟩
    · repeat (first | (refine M0 ?_; first | refine O0 ?_ | refine z1 tok rfl ?_ | refine O1 rfl ?_ rfl | refine O2 rfl ?_ | refine O3 rfl ?_ rfl | refine O4 rfl rfl rfl (fun _ _ => ?_) | refine O5 tok rfl rfl rfl (fun _ _ => ?_) | refine U0 _ (U2 rfl) rfl ?_ | refine U0 _ (U3 tok rfl rfl rfl rfl rfl) rfl ?_ | refine z3 tok rfl ?_ | refine U0 _ (U4 rfl rfl) rfl ?_ | refine U0 _ (U5 rfl rfl) rfl ?_) | (refine XI.id ?_; first | refine XI.done ?_ | refine XI.one1 rfl ?_) | (refine XR'.id ?_; first | refine XR'.seq ?_ | refine XR'.region ?_ | refine XR'.block ?_ | refine XR'.skip ?_ | refine XR'.ret ?_ | refine XR'.cond_t rfl ?_ | refine XR'.cond_f rfl ?_) | (refine M1 ?_; first | refine XC.regionI (id := 7) 1 ?_ | refine J0 ?_ | refine J1 ?_ | refine J2 mixed rfl (by kernel_rfl) ?_ | refine J3 mixed rfl rfl (by kernel_rfl) ?_ | refine J4 ?_ | refine J5 ?_ | refine J6 ?_ | refine J7 ?_ | refine J8 rfl ?_ | refine J9 rfl ?_) | (refine M2 ?_; first | refine XE.nextI ?_ | refine XE.nextR ?_ | refine I1 ?_ | refine I2 ?_ | refine I3 ?_ | refine I4 ?_ | refine I5 ?_ | refine I6 rfl ?_ | refine I7 ?_ | refine I8 ?_ | refine z4 ?_ | refine I0 ?_))
      refine XI.rebase (L' := L8 l D gl gs gb g8 g7 g6 r1 (cel 41 [.slice (some ad) ts.length cc]) (cel 28 (staC q2 (outS b (staAt b s ts k) (tk ts k)))) (cel 25 (basC p b)) v e x) ?_ (fun w3 S3 => ?_)
      · simp only [staC, basC]
        repeat (first | exact List.Sublist.refl _ | refine List.Sublist.cons _ ?_)
      have hk3 : ∀ j, j ∈ (ga :: gc :: gt :: K8 l D gl gs gb g8 g7 g6) → j ∈ K8 l D gl gs gb g8 g7 g6 ∨ W.heap.size ≤ j := fun j hj => by
        have := S1.size
        have := hB.size
        rcases List.mem_cons.1 hj with rfl | hj
        · exact .inr (by omega)
        rcases List.mem_cons.1 hj with rfl | hj
        · exact .inr (by omega)
        exact hk1 j hj
      have hE : errAt b s ts k = 0 := show stepE b (staAt b s ts k) (tk ts k) = 0 by simpa using h2
      have hG : Grew (K8 l D gl gs gb g8 g7 g6) none W w3 := grew3 S1 hB S3 hk1 hk3
      have hm3 := hm.move hG
      have hmade : ∀ j, Btw w1.heap.size w2.heap.size j → Own B (K8 l D gl gs gb g8 g7 g6) v.ownBlock w3 j ∧ w3.heap[j]? = w2.heap[j]? := fun j hj => by
        have a1 := S1.size
        have a3 := S3.size
        refine ⟨⟨Nat.le_trans hBsz (Nat.le_trans a1 hj.1), Nat.lt_of_lt_of_le hj.2 a3, fun h => ?_, fun h => ?_⟩, S3.old j hj.2 fun e' he' e2 => ?_⟩
        · have := S1.keyLt j (List.mem_cons_of_mem gt h)
          have := hj.1
          omega
        · have := (hm.lt j h).2
          have := hj.1
          omega
        · have hj3 : j ∈ (ga :: gc :: gt :: K8 l D gl gs gb g8 g7 g6) := List.mem_map.2 ⟨e', he', e2⟩
          have := hj.1
          have := hj.2
          rcases List.mem_cons.1 hj3 with rfl | hj3
          · omega
          rcases List.mem_cons.1 hj3 with rfl | hj3
          · omega
          have := S1.keyLt j hj3
          omega
      have hq3 : IntsAt w3 (Own B (K8 l D gl gs gb g8 g7 g6) v.ownBlock w3) q2 (outS b (staAt b s ts k) (tk ts k)).fil := (hq2.keep fun j hj => (hmade j hj).2).mono fun j hj => (hmade j hj).1
      have hf3 : IntsAt w3 (Own B (K8 l D gl gs gb g8 g7 g6) v.ownBlock w3) rf (outF b (staAt b s ts k) (tk ts k)).taken := (hrf.keep fun j hj => (hmade j hj).2).mono fun j hj => (hmade j hj).1
      have hml : ms.length = k := by
        have := congrArg List.length hmp
        simpa [momsAt] using this
      have hB3 : B ≤ w3.heap.size := Nat.le_trans hBsz hG.size
      obtain ⟨m, hmd⟩ : ∃ m : Mom, m = ⟨outS b (staAt b s ts k) (tk ts k), outF b (staAt b s ts k) (tk ts k), q2, rf⟩ := ⟨_, rfl⟩
      refine XI.yield (vs := [.agg ⟨m.c⟩, .nilIface]) rfl (by subst hmd; rfl) rfl (fun _ v5 w5 => v5 = .bool true ∧ ∃ v' W', Sys B W' (L8 l D gl gs gb g8 g7 g6 r1 (cel 41 [.slice (some ad) ts.length cc]) (cel 28 (staC q2 (outS b (staAt b s ts k) (tk ts k)))) (cel 25 (basC p b)) v' e x) w5 ∧
          W'.ownsRow B 103 7 v' (ms.length + 1) (ms.flatMap Mom.c ++ m.c) ∧ (∀ k, v'.ownBlock = some k → v.ownBlock = some k ∨ w3.heap.size ≤ k ∧ k ∉ K8 l D gl gs gb g8 g7 g6) ∧ Grew (K8 l D gl gs gb g8 g7 g6) v.ownBlock w3 W' ∧ Below B w3 W')
        (fun w4 S4 => ?_) (fun w4 v5 w5 S4 ⟨e5, v', W', S5, hrow, hv', hG', hBel⟩ => ⟨_, _, S5, ?_⟩)
      · rw [← hr1] at S4 ⊢
        obtain ⟨a1, a2⟩ := round_ok (n := 0) (m := m) hc hr hf S4 hm3 hB3 (Nat.le_refl _) (by omega)
        exact ⟨_, _, _, _, a1, a2⟩
      subst e5
      repeat (first | (refine M0 ?_; first | refine O0 ?_ | refine z1 tok rfl ?_ | refine O1 rfl ?_ rfl | refine O2 rfl ?_ | refine O3 rfl ?_ rfl | refine O4 rfl rfl rfl (fun _ _ => ?_) | refine O5 tok rfl rfl rfl (fun _ _ => ?_) | refine U0 _ (U2 rfl) rfl ?_ | refine U0 _ (U3 tok rfl rfl rfl rfl rfl) rfl ?_ | refine z3 tok rfl ?_ | refine U0 _ (U4 rfl rfl) rfl ?_ | refine U0 _ (U5 rfl rfl) rfl ?_) | (refine XI.id ?_; first | refine XI.done ?_ | refine XI.one1 rfl ?_) | (refine XR'.id ?_; first | refine XR'.seq ?_ | refine XR'.region ?_ | refine XR'.block ?_ | refine XR'.skip ?_ | refine XR'.ret ?_ | refine XR'.cond_t rfl ?_ | refine XR'.cond_f rfl ?_) | (refine M1 ?_; first | refine J0 ?_ | refine J1 ?_ | refine J2 mixed rfl (by kernel_rfl) ?_ | refine J3 mixed rfl rfl (by kernel_rfl) ?_ | refine J4 ?_ | refine J5 ?_ | refine J6 ?_ | refine J7 ?_ | refine J8 rfl ?_ | refine J9 rfl ?_) | (refine M2 ?_; first | refine XE.nextI ?_ | refine XE.nextR ?_ | refine I1 ?_ | refine I2 ?_ | refine I3 ?_ | refine I4 ?_ | refine I5 ?_ | refine I6 rfl ?_ | refine I7 ?_ | refine I8 ?_ | refine z4 ?_ | refine I0 ?_))
      refine XE.roundW (s := (k, W, v, ms, qk)) (fun w6 S6 => ⟨(k + 1, W', v', ms ++ [m], q2), ⟨hkn, fun j hj => ?_, hBB.trans (S3.toBelow.trans hBel), Nat.le_trans hB3 hG'.size, ?_, ?_, ?_⟩, ?_, (by repeat (first | exact Sub.nil | refine Sub.cons rfl ?_)), S6⟩)
      · rcases Nat.lt_or_ge j k with h | h
        · exact h0 j h
        · have : j = k := by omega
          rw [this]; exact hE
      · subst hmd
        exact hm3.more hB3 hrow hv' hG' hq3 hf3
      · subst hmd
        rw [List.map_append, hmp, momsAt_succ]
        rfl
      · refine (hq3.keep (Own.move hG')).mono fun j hj => ⟨Nat.zero_le _, Nat.lt_of_lt_of_le hj.2.1 hG'.size, hj.2.2.1, fun h => ?_⟩
        rcases hv' j h with h3 | h3
        · exact hj.2.2.2 h3
        · have := hj.2.1; omega
      · simp only
        omega
  · repeat (first | (refine M0 ?_; first | refine O0 ?_ | refine z1 tok rfl ?_ | refine O1 rfl ?_ rfl | refine O2 rfl ?_ | refine O3 rfl ?_ rfl | refine O4 rfl rfl rfl (fun _ _ => ?_) | refine O5 tok rfl rfl rfl (fun _ _ => ?_) | refine U0 _ (U2 rfl) rfl ?_ | refine U0 _ (U3 tok rfl rfl rfl rfl rfl) rfl ?_ | refine z3 tok rfl ?_ | refine U0 _ (U4 rfl rfl) rfl ?_ | refine U0 _ (U5 rfl rfl) rfl ?_) | (refine M1 ?_; first | refine J0 ?_ | refine J1 ?_ | refine J2 mixed rfl (by kernel_rfl) ?_ | refine J3 mixed rfl rfl (by kernel_rfl) ?_ | refine J4 ?_ | refine J5 ?_ | refine J6 ?_ | refine J7 ?_ | refine J8 rfl ?_ | refine J9 rfl ?_) | (refine M2 ?_; first | refine I0 ?_ | refine I1 ?_ | refine I2 ?_ | refine I3 ?_ | refine I4 ?_ | refine I5 ?_ | refine I6 rfl ?_ | refine I7 ?_ | refine I8 ?_ | refine z4 ?_) | (refine M3 ?_; first | refine O6 ?_ | refine z2 tok rfl ?_ | refine O8 rfl ?_ | refine O7 rfl ?_ rfl | refine O9 rfl ?_ rfl | refine U1 _ (U4 rfl rfl) rfl ?_ | refine U1 _ (U5 rfl rfl) rfl ?_ | refine U1 _ (U2 rfl) rfl ?_ | refine U1 _ (U3 tok rfl rfl rfl rfl rfl) rfl ?_) | (refine M4 ?_; first | refine M6 ?_ | refine U6 rfl (by kernel_rfl) ?_ | refine U7 (by kernel_rfl) ?_) | (refine M5 ?_; first | exact M7 | refine U8 rfl ?_ | refine U9 rfl rfl ?_ ?_))
    have hkn : k = ts.length := by have : ¬ (k < ts.length) := by simpa using h1
                                   omega
    subst hkn
    refine XE.end0 Tryd.results129 (fun w' S => ?_)
    refine ⟨_, rfl, .inl ⟨badAt_none h0, W, v, ms, _, S, hBW, hm, hmp⟩⟩
end Go.Proofs.YtoiepgcjinccpaaDoor.X
