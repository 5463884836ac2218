/-
  How ticks and moments lie in memory; the walk of moments.
-/
import Derived.Test.YtoiepgcjinccpaaDoorBsDef5
namespace Go.Proofs.YtoiepgcjinccpaaDoor.X
open Go Go.RowKit Go.Proofs.YtoiepgcjinccpaaDoor.Bs
set_option linter.unusedVariables false
theorem tickC_len (t : Tick) : (tickC t).length = 3 := rfl
structure TksAt (w : World) (ok : Nat → Prop) (q : SV) (ts : List Tick) : Prop where
  rd : ReadsP w ok 3 q.A q.n (ts.flatMap tickC)
  max : q.n ≤ 9223372036854775807
def momC (q r : SV) (s : Sta) (f : Flo) : List Value := staC q s ++ floC r f
section
variable {w w' w0 : World} {ok ok' : Nat → Prop} {B : Nat} {q : SV} {ts : List Tick} {L : Lo}
theorem TksAt.len (h : TksAt w ok q ts) : q.n = ts.length := by have := h.rd.len; rw [flat_len tickC 3 tickC_len] at this; omega
theorem TksAt.keep (h : TksAt w ok q ts) (hk : ∀ k, ok k → w'.heap[k]? = w.heap[k]?) : TksAt w' ok q ts := ⟨h.rd.keep hk, h.max⟩
theorem TksAt.below (h : TksAt w (Lt B) q ts) (hb : Below B w w') : TksAt w' (Lt B) q ts := h.keep fun k hk => hb.block k hk
theorem TksAt.mono (h : TksAt w ok q ts) (hk : ∀ k, ok k → ok' k) : TksAt w ok' q ts := ⟨h.rd.mono hk, h.max⟩
theorem TksAt.arg (h : TksAt w0 (Lt B) q ts) (S : Sys B w0 L w) : TksAt w (Lt w.heap.size) q ts := ⟨h.rd.arg S, h.max⟩
theorem TksAt.sys (h : TksAt w0 ok q ts) (S : Sys B w0 L w) (hk : Keep ok w0 L) : TksAt w (Lt w.heap.size) q ts := ⟨h.rd.sys S hk, h.max⟩
theorem TksAt.tick {ad : Addr} {n c : Nat} (h : TksAt w ok ⟨some ad, n, c⟩ ts) {k : Nat} (hk : k < ts.length) : ∀ j u, (tickC (tk ts k))[j]? = some u → w.cell? ((ad.add (k * 3)).add j) = some u := fun j u hj => by
  have hn := h.len
  obtain ⟨ad', e, _, h1⟩ := h.rd.at_ (by simp only at hn ⊢; omega)
  cases e
  have hj3 : j < 3 := (List.getElem?_eq_some_iff.1 hj).1
  have e2 := flat_at tickC 3 tickC_len ts k j (tk ts k) (by unfold tk; rw [List.getElem?_eq_getElem hk]; rfl) hj3
  have := h1 (k * 3 + j) u (e2.trans hj)
  rw [add_add]
  exact this
end
theorem moments_any {x y z : Value} {p : BV} {b : Bas} {q r : SV} {s : Sta} {w : World} :
    Calls Tryd.prog 119 #[basV p b, staV q s, svV r] w fun e w' => ∃ v, e = .returned v ∧ ∃ gb gs gl, v = .func (.func 129) #[] #[.pointer (some ⟨gl, 0, none⟩), .pointer (some ⟨gb, 0, none⟩), .pointer (some ⟨gs, 0, none⟩)] ∧
      Sys w.heap.size w [(gl, cel 41 [svV r]), (gs, cel 28 (staC q s)), (gb, cel 25 (basC p b))] w' := by
  simp only [basV, basC, staV, staC, svV]
  refine enter Tryd.func119 rfl Tryd.ntmps119 rfl ?_; simp only [frame, Nat.zero_add, Nat.reduceAdd]
  repeat (first | (refine M0 ?_; first | refine O0 ?_ | refine z1 tok rfl ?_ | refine O1 rfl ?_ rfl | refine O2 rfl ?_ | refine O3 rfl ?_ rfl | refine O4 rfl rfl rfl (fun _ _ => ?_) | refine O5 tok rfl rfl rfl (fun _ _ => ?_) | refine U0 _ (U2 rfl) rfl ?_ | refine U0 _ (U3 tok rfl rfl rfl rfl rfl) rfl ?_ | refine z3 tok rfl ?_ | refine U0 _ (U4 rfl rfl) rfl ?_ | refine U0 _ (U5 rfl rfl) rfl ?_) | (refine M1 ?_; first | refine J0 ?_ | refine J1 ?_ | refine J2 mixed rfl (by kernel_rfl) ?_ | refine J3 mixed rfl rfl (by kernel_rfl) ?_ | refine J4 ?_ | refine J5 ?_ | refine J6 ?_ | refine J7 ?_ | refine J8 rfl ?_ | refine J9 rfl ?_) | (refine M2 ?_; first | refine I0 ?_ | refine I1 ?_ | refine I2 ?_ | refine I3 ?_ | refine I4 ?_ | refine I5 ?_ | refine I6 rfl ?_ | refine I7 ?_ | refine I8 ?_ | refine z4 ?_) | (refine M3 ?_; first | refine O6 ?_ | refine z2 tok rfl ?_ | refine O8 rfl ?_ | refine O7 rfl ?_ rfl | refine O9 rfl ?_ rfl | refine U1 _ (U4 rfl rfl) rfl ?_ | refine U1 _ (U5 rfl rfl) rfl ?_ | refine U1 _ (U2 rfl) rfl ?_ | refine U1 _ (U3 tok rfl rfl rfl rfl rfl) rfl ?_) | (refine M4 ?_; first | refine M6 ?_ | refine U6 rfl (by kernel_rfl) ?_ | refine U7 (by kernel_rfl) ?_) | (refine M5 ?_; first | exact M7 | refine U8 rfl ?_ | refine U9 rfl rfl ?_ ?_))
  refine XL.step _ (Ev.makeFunc rfl rfl) rfl ?_
  repeat (first | (refine M0 ?_; first | refine O0 ?_ | refine z1 tok rfl ?_ | refine O1 rfl ?_ rfl | refine O2 rfl ?_ | refine O3 rfl ?_ rfl | refine O4 rfl rfl rfl (fun _ _ => ?_) | refine O5 tok rfl rfl rfl (fun _ _ => ?_) | refine U0 _ (U2 rfl) rfl ?_ | refine U0 _ (U3 tok rfl rfl rfl rfl rfl) rfl ?_ | refine z3 tok rfl ?_ | refine U0 _ (U4 rfl rfl) rfl ?_ | refine U0 _ (U5 rfl rfl) rfl ?_) | (refine M1 ?_; first | refine J0 ?_ | refine J1 ?_ | refine J2 mixed rfl (by kernel_rfl) ?_ | refine J3 mixed rfl rfl (by kernel_rfl) ?_ | refine J4 ?_ | refine J5 ?_ | refine J6 ?_ | refine J7 ?_ | refine J8 rfl ?_ | refine J9 rfl ?_) | (refine M2 ?_; first | refine I0 ?_ | refine I1 ?_ | refine I2 ?_ | refine I3 ?_ | refine I4 ?_ | refine I5 ?_ | refine I6 rfl ?_ | refine I7 ?_ | refine I8 ?_ | refine z4 ?_) | (refine M3 ?_; first | refine O6 ?_ | refine z2 tok rfl ?_ | refine O8 rfl ?_ | refine O7 rfl ?_ rfl | refine O9 rfl ?_ rfl | refine U1 _ (U4 rfl rfl) rfl ?_ | refine U1 _ (U5 rfl rfl) rfl ?_ | refine U1 _ (U2 rfl) rfl ?_ | refine U1 _ (U3 tok rfl rfl rfl rfl rfl) rfl ?_) | (refine M4 ?_; first | refine M6 ?_ | refine U6 rfl (by kernel_rfl) ?_ | refine U7 (by kernel_rfl) ?_) | (refine M5 ?_; first | exact M7 | refine U8 rfl ?_ | refine U9 rfl rfl ?_ ?_))
  refine XE.retg tok Tryd.results119 rfl (by simp only [and_self, and_true]) (fun w' S => ?_)
  exact ⟨_, rfl, _, _, _, rfl, S⟩
end Go.Proofs.YtoiepgcjinccpaaDoor.X
