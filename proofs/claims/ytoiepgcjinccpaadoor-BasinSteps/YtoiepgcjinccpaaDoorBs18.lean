/-
  The walk of all.
-/
import Derived.Test.YtoiepgcjinccpaaDoorBs17
namespace Go.Proofs.YtoiepgcjinccpaaDoor.X
open Go Go.RowKit Go.Proofs.YtoiepgcjinccpaaDoor.Bs
set_option linter.unusedVariables false
theorem Sys.join {B : Nat} {w0 w w' : World} {L L2 L3 : Lo} (S : Sys B w0 L w) (S' : Sys w.heap.size w L2 w') (hs : List.Sublist L3 L) : Sys B w (L2 ++ L3) w' := by
  have hlt : ∀ e, e ∈ L3 → e.1 < w.heap.size := fun e he => S.lt (hs.subset he)
  refine ⟨S'.os, S'.tape, S'.output, S'.size, Nat.le_trans S.base S.size, fun k hk hn => S'.old k hk fun e he => hn e (List.mem_append_left _ he), fun e he => ?_, ?_⟩
  · rcases List.mem_append.1 he with h | h
    · exact ⟨Nat.le_trans (Nat.le_trans S.base S.size) (S'.own e h).1, (S'.own e h).2⟩
    · refine ⟨(S.own e (hs.subset h)).1, ?_⟩
      rw [S'.old e.1 (hlt e h) fun e' he' e1 => by have := (S'.own e' he').1; have := hlt e h; omega]
      exact (S.own e (hs.subset h)).2
  · rw [List.map_append]
    refine List.nodup_append.2 ⟨S'.nd, S.nd.sublist (hs.map _), fun x hx y hy e => ?_⟩
    obtain ⟨e1, he1, rfl⟩ := List.mem_map.1 hx
    obtain ⟨e2, he2, rfl⟩ := List.mem_map.1 hy
    have := (S'.own e1 he1).1
    have := hlt e2 he2
    omega
/-- a list of moments in memory. -/
structure MomRow (w : World) (ok : Nat → Prop) (r : SV) (ms : List Mom) : Prop where
  rd : ReadsP w ok 7 r.A r.n (ms.flatMap Mom.c)
  max : r.n ≤ 1000
  ins : ∀ m, m ∈ ms → IntsAt w ok m.q m.s.fil ∧ IntsAt w ok m.r m.f.taken
/-- what all answers. -/
def AllR (b : Bas) (s : Sta) (ts : List Tick) (w : World) (v : Value) (w' : World) : Prop :=
  ((badAt b s ts = none ∧ ∃ r ms, v = .tuple ⟨[svV r, .nilIface]⟩ ∧ MomRow w' (Btw w.heap.size w'.heap.size) r ms ∧ ms.map Mom.p = momsAt b s ts ts.length) ∨
   (∃ k gf, badAt b s ts = some k ∧ v = .tuple ⟨[.slice none 0 0, .iface 143 (.pointer (some ⟨gf, 0, none⟩))]⟩ ∧ w.heap.size ≤ gf ∧ w'.heap[gf]? = some (cel 147 [.int .i64 (k : Nat), .int .i64 (errAt b s ts k)]))) ∧ Below w.heap.size w w'
set_option maxHeartbeats 8000000 in
set_option maxRecDepth 10000 in
theorem all_any {p : BV} {b : Bas} {q r : SV} {s : Sta} {ts : List Tick} {w : World} (hb : BasAt w w.heap.size p b) (hq : IntsAt w (Lt w.heap.size) q s.fil) (ht : TksAt w (Lt w.heap.size) r ts) (ho : Ok b) (hs : StaOk b s) (hn : ts.length ≤ 300) :
    Calls Tryd.prog 91 #[basV p b, staV q s, svV r] w fun e w' => ∃ v, e = .returned v ∧ AllR b s ts w v w' := by
  simp only [basV, basC, staV, staC, svV]
  refine enterM Tryd.func91 rfl Tryd.ntmps91 rfl ?_; simp only [frame, Nat.zero_add, Nat.reduceAdd]
  repeat (first | (refine M0 ?_; first | refine O0 ?_ | refine z1 tok rfl ?_ | refine O1 rfl ?_ rfl | refine O2 rfl ?_ | refine O3 rfl ?_ rfl | refine O4 rfl rfl rfl (fun _ _ => ?_) | refine O5 tok rfl rfl rfl (fun _ _ => ?_) | refine U0 _ (U2 rfl) rfl ?_ | refine U0 _ (U3 tok rfl rfl rfl rfl rfl) rfl ?_ | refine z3 tok rfl ?_ | refine U0 _ (U4 rfl rfl) rfl ?_ | refine U0 _ (U5 rfl rfl) rfl ?_) | (refine M1 ?_; first | refine J0 ?_ | refine J1 ?_ | refine J2 mixed rfl (by kernel_rfl) ?_ | refine J3 mixed rfl rfl (by kernel_rfl) ?_ | refine J4 ?_ | refine J5 ?_ | refine J6 ?_ | refine J7 ?_ | refine J8 rfl ?_ | refine J9 rfl ?_) | (refine M2 ?_; first | refine I0 ?_ | refine I1 ?_ | refine I2 ?_ | refine I3 ?_ | refine I4 ?_ | refine I5 ?_ | refine I6 rfl ?_ | refine I7 ?_ | refine I8 ?_ | refine z4 ?_) | (refine M3 ?_; first | refine O6 ?_ | refine z2 tok rfl ?_ | refine O8 rfl ?_ | refine O7 rfl ?_ rfl | refine O9 rfl ?_ rfl | refine U1 _ (U4 rfl rfl) rfl ?_ | refine U1 _ (U5 rfl rfl) rfl ?_ | refine U1 _ (U2 rfl) rfl ?_ | refine U1 _ (U3 tok rfl rfl rfl rfl rfl) rfl ?_) | (refine M4 ?_; first | refine M6 ?_ | refine U6 rfl (by kernel_rfl) ?_ | refine U7 (by kernel_rfl) ?_) | (refine M5 ?_; first | exact M7 | refine U8 rfl ?_ | refine U9 rfl rfl ?_ ?_))
  rename_i g3 hg3 g4 hg4 g6 hg6 g7 hg7 g8 hg8
  refine XL.callr (fst := []) (cap := []) (fun w1 v w2 => ∃ gb gs gl, v = .func (.func 129) #[] #[.pointer (some ⟨gl, 0, none⟩), .pointer (some ⟨gb, 0, none⟩), .pointer (some ⟨gs, 0, none⟩)] ∧
      Sys w1.heap.size w1 [(gl, cel 41 [svV r]), (gs, cel 28 (staC q s)), (gb, cel 25 (basC p b))] w2) (ck rfl) rfl rfl rfl
    (fun w1 S1 => moments_any (p := p) (b := b) (q := q) (r := r) (s := s) (x := .nilIface) (y := .nilIface) (z := .nilIface)) (fun w1 v w2 S1 hR => ?_)
  obtain ⟨gb, gs, gl, rfl, S2⟩ := hR
  refine ⟨[(gl, cel 41 [svV r]), (gs, cel 28 (staC q s)), (gb, cel 25 (basC p b)), (g8, cel 99 [.slice none 0 0]), (g7, cel 140 [.nilIface]), (g6, cel 99 [.slice none 0 0])], w1, ?_, ?_⟩
  · exact S1.join (L3 := [(g8, cel 99 [.slice none 0 0]), (g7, cel 140 [.nilIface]), (g6, cel 99 [.slice none 0 0])]) S2 (by repeat (first | exact List.nil_sublist _ | refine List.Sublist.cons_cons _ ?_))
  refine XL.done (XE.next (XC.hint 6 0 (XC.hint 7 1 (XC.hint 8 2 ?_))))
  refine XC.block ?_
  have hB1 := S1.toBelow
  refine XC.rangeFunc (cap := [.pointer (some ⟨gl, 0, none⟩), .pointer (some ⟨gb, 0, none⟩), .pointer (some ⟨gs, 0, none⟩)]) rfl (ck rfl) (fun fn a D w3 hD hf S3 => ?_)
  have hB3 : Below w.heap.size w w3 := hB1.trans S3.toBelow
  have hf3 : Fits 25 [] [(6, .pointer (some ⟨g6, 0, none⟩)), (7, .pointer (some ⟨g7, 0, none⟩)), (8, .pointer (some ⟨g8, 0, none⟩))] a := Sub.fits (by repeat (first | exact Sub.nil | refine Sub.cons rfl ?_)) hf
  refine (iter_any (p := p) (b := b) (q := q) (r := r) (s := s) (ts := ts) (c := _) rfl rfl hf3 (S3.rebase (List.Sublist.refl _)) (hb.below hB3) (hq.below hB3) (ht.below hB3) ho hs hn).mono fun e w4 ⟨u, hu, hI⟩ => ⟨u, hu, ?_⟩
  rcases hI with ⟨hbad, W, v, ms, os, S4, hBW, hm, hmp⟩ | ⟨k, hbad, W, v, os, gf, S4, hBW, hgB, hgK, hgf⟩
  · refine .inl ⟨_, W, S4, ?_⟩
    obtain ⟨rv, rfl, hrn⟩ := owns_sv hm.row
    simp only [svV]
    repeat (first | (refine M0 ?_; first | refine O0 ?_ | refine z1 tok rfl ?_ | refine O1 rfl ?_ rfl | refine O2 rfl ?_ | refine O3 rfl ?_ rfl | refine O4 rfl rfl rfl (fun _ _ => ?_) | refine O5 tok rfl rfl rfl (fun _ _ => ?_) | refine U0 _ (U2 rfl) rfl ?_ | refine U0 _ (U3 tok rfl rfl rfl rfl rfl) rfl ?_ | refine z3 tok rfl ?_ | refine U0 _ (U4 rfl rfl) rfl ?_ | refine U0 _ (U5 rfl rfl) rfl ?_) | (refine M1 ?_; first | refine J0 ?_ | refine J1 ?_ | refine J2 mixed rfl (by kernel_rfl) ?_ | refine J3 mixed rfl rfl (by kernel_rfl) ?_ | refine J4 ?_ | refine J5 ?_ | refine J6 ?_ | refine J7 ?_ | refine J8 rfl ?_ | refine J9 rfl ?_) | (refine M2 ?_; first | refine I0 ?_ | refine I1 ?_ | refine I2 ?_ | refine I3 ?_ | refine I4 ?_ | refine I5 ?_ | refine I6 rfl ?_ | refine I7 ?_ | refine I8 ?_ | refine z4 ?_) | (refine M3 ?_; first | refine O6 ?_ | refine z2 tok rfl ?_ | refine O8 rfl ?_ | refine O7 rfl ?_ rfl | refine O9 rfl ?_ rfl | refine U1 _ (U4 rfl rfl) rfl ?_ | refine U1 _ (U5 rfl rfl) rfl ?_ | refine U1 _ (U2 rfl) rfl ?_ | refine U1 _ (U3 tok rfl rfl rfl rfl rfl) rfl ?_) | (refine M4 ?_; first | refine M6 ?_ | refine U6 rfl (by kernel_rfl) ?_ | refine U7 (by kernel_rfl) ?_) | (refine M5 ?_; first | exact M7 | refine U8 rfl ?_ | refine U9 rfl rfl ?_ ?_))
    refine XE.retM tok (D := D) (i := 1) Tryd.results91 rfl rfl rfl (by simp only [and_self, and_true]) (fun w' S => ?_)
    have hm' := hm.move (Grew.sys S fun e' he' => .inl (show e'.1 ∈ K8 (D + 1) D gl gs gb g8 g7 g6 from List.mem_map.2 ⟨e', he', rfl⟩))
    obtain ⟨a1, a2, _, _⟩ := ReadsP.own hm'.row
    have hml : ms.length = ts.length := by
      have := congrArg List.length hmp
      simpa [momsAt] using this
    refine ⟨_, rfl, .inl ⟨hbad, rv, ms, rfl, ⟨by rw [a2]; exact a1, by omega, fun m hmm => ?_⟩, hmp⟩, hB3.trans (hBW.trans S.toBelow)⟩
    obtain ⟨i1, i2⟩ := hm'.ins m hmm
    exact ⟨i1.mono fun j hj => ⟨hj.1, hj.2.1⟩, i2.mono fun j hj => ⟨hj.1, hj.2.1⟩⟩
  · refine .inr ⟨_, W, S4, ?_⟩
    repeat (first | (refine M0 ?_; first | refine O0 ?_ | refine z1 tok rfl ?_ | refine O1 rfl ?_ rfl | refine O2 rfl ?_ | refine O3 rfl ?_ rfl | refine O4 rfl rfl rfl (fun _ _ => ?_) | refine O5 tok rfl rfl rfl (fun _ _ => ?_) | refine U0 _ (U2 rfl) rfl ?_ | refine U0 _ (U3 tok rfl rfl rfl rfl rfl) rfl ?_ | refine z3 tok rfl ?_ | refine U0 _ (U4 rfl rfl) rfl ?_ | refine U0 _ (U5 rfl rfl) rfl ?_) | (refine M1 ?_; first | refine J0 ?_ | refine J1 ?_ | refine J2 mixed rfl (by kernel_rfl) ?_ | refine J3 mixed rfl rfl (by kernel_rfl) ?_ | refine J4 ?_ | refine J5 ?_ | refine J6 ?_ | refine J7 ?_ | refine J8 rfl ?_ | refine J9 rfl ?_) | (refine M2 ?_; first | refine I0 ?_ | refine I1 ?_ | refine I2 ?_ | refine I3 ?_ | refine I4 ?_ | refine I5 ?_ | refine I6 rfl ?_ | refine I7 ?_ | refine I8 ?_ | refine z4 ?_) | (refine M3 ?_; first | refine O6 ?_ | refine z2 tok rfl ?_ | refine O8 rfl ?_ | refine O7 rfl ?_ rfl | refine O9 rfl ?_ rfl | refine U1 _ (U4 rfl rfl) rfl ?_ | refine U1 _ (U5 rfl rfl) rfl ?_ | refine U1 _ (U2 rfl) rfl ?_ | refine U1 _ (U3 tok rfl rfl rfl rfl rfl) rfl ?_) | (refine M4 ?_; first | refine M6 ?_ | refine U6 rfl (by kernel_rfl) ?_ | refine U7 (by kernel_rfl) ?_) | (refine M5 ?_; first | exact M7 | refine U8 rfl ?_ | refine U9 rfl rfl ?_ ?_))
    refine XE.retM tok (D := D) (i := 1) Tryd.results91 rfl rfl rfl (by simp only [and_self, and_true]) (fun w' S => ?_)
    refine ⟨_, rfl, .inr ⟨k, gf, hbad, rfl, hgB, ?_⟩, hB3.trans (hBW.trans S.toBelow)⟩
    rw [S.old gf (Array.getElem?_eq_some_iff.1 hgf).1 fun e' he' e2 => hgK (e2 ▸ (show e'.1 ∈ K8 (D + 1) D gl gs gb g8 g7 g6 from List.mem_map.2 ⟨e', he', rfl⟩))]
    exact hgf
end Go.Proofs.YtoiepgcjinccpaaDoor.X
