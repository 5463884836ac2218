/-
  The walks of CheckState (both texts), and of the water's methods: spill, least, river, over, leak, off.
-/
import Derived.Test.YtoiepgcjinccpaaDoorPart2
import Derived.Test.YtoiepgcjinccpaaDoorPart1
import Derived.WalkSpells
import Derived.RangeFuncIn
import Derived.RangeFuncRecord
import Derived.RangeFuncLeaves
import Derived.RangeFuncCalls
import Derived.TacticsIn
set_option linter.unusedVariables false
set_option linter.unusedSimpArgs false
namespace Go.Proofs.YtoiepgcjinccpaaDoor.X
open Go Go.RowKit Go.Proofs.YtoiepgcjinccpaaDoor.Bs
set_option linter.unusedVariables false
theorem polRoom {w : World} {B : Nat} {A : Option Addr} {n c n2 c2 : Nat} {ad : Addr} {b : Bas} (hb : BasAt w B ⟨A, n, c, some ad, n2, c2⟩ b) {i : Nat} (hi : i < b.pols.length) : w.cell? ((ad.add (i * 4)).add 3) = some (.int .i64 (b.pol i).room) := hb.pol hi 3 _ rfl

set_option maxHeartbeats 4000000 in
theorem checkState_any {p : BV} {b : Bas} {q : SV} {s : Sta} {w : World} (hb : BasAt w w.heap.size p b) (hs : IntsAt w (Lt w.heap.size) q s.fil) :
    Calls Tryd.prog 19 #[basV p b, staV q s] w fun e w' => e = .returned (.int .i64 (staErr b s)) ∧ Below w.heap.size w w' := by
  obtain ⟨A, n, c, A2, n2, c2⟩ := p
  obtain ⟨A3, n3, c3⟩ := q
  have hn := hb.n_eq
  have hn2 := hb.n2_eq
  have hn3 := hs.len
  have hl2 := hb.len2
  have hl3 := hs.max
  simp only at hn hn2 hn3 hl2 hl3
  subst hn hn2 hn3
  simp only [basV, basC, staV, staC]
  refine enter Tryd.func19 rfl Tryd.ntmps19 rfl ?_; simp only [frame, Nat.zero_add, Nat.reduceAdd]
  repeat (first | (refine M0 ?_; first | refine O0 ?_ | refine z1 tok rfl ?_ | refine O1 rfl ?_ rfl | refine O2 rfl ?_ | refine O3 rfl ?_ rfl | refine U0 _ (Ev.call (f := 50) (ck rfl) rfl (fun w S => (valid_any (hb.sys S) :))) rfl ?_ | refine O4 rfl rfl rfl (fun _ _ => ?_) | refine O5 tok rfl rfl rfl (fun _ _ => ?_) | refine U0 _ (U2 rfl) rfl ?_ | refine U0 _ (U3 tok rfl rfl rfl rfl rfl) rfl ?_ | refine z3 tok rfl ?_ | refine U0 _ (U4 rfl rfl) rfl ?_ | refine U0 _ (U5 rfl rfl) rfl ?_) | (refine M1 ?_; first | refine J0 ?_ | refine J1 ?_ | refine J2 mixed rfl (by kernel_rfl) ?_ | refine J3 mixed rfl rfl (by kernel_rfl) ?_ | refine J4 ?_ | refine J5 ?_ | refine J6 ?_ | refine J7 ?_ | refine J8 rfl ?_ | refine J9 rfl ?_) | (refine M2 ?_; first | refine I0 ?_ | refine I1 ?_ | refine I2 ?_ | refine I3 ?_ | refine I4 ?_ | refine I5 ?_ | refine I6 rfl ?_ | refine I7 ?_ | refine I8 ?_ | refine z4 ?_) | (refine M3 ?_; first | refine O6 ?_ | refine z2 tok rfl ?_ | refine O8 rfl ?_ | refine O7 rfl ?_ rfl | refine O9 rfl ?_ rfl | refine U1 _ (Ev.call (f := 50) (ck rfl) rfl (fun w S => (valid_any (hb.sys S) :))) rfl ?_ | refine U1 _ (U4 rfl rfl) rfl ?_ | refine U1 _ (U5 rfl rfl) rfl ?_ | refine U1 _ (U2 rfl) rfl ?_ | refine U1 _ (U3 tok rfl rfl rfl rfl rfl) rfl ?_) | (refine M4 ?_; first | refine M6 ?_ | refine U6 rfl (by kernel_rfl) ?_ | refine U7 (by kernel_rfl) ?_) | (refine M5 ?_; first | exact M7 | refine U8 rfl ?_ | refine U9 rfl rfl ?_ ?_))
  refine XC.cond _ rfl (fun h0 => ?_) (fun h0 => ?_)
  · repeat (first | (refine M0 ?_; first | refine O0 ?_ | refine z1 tok rfl ?_ | refine O1 rfl ?_ rfl | refine O2 rfl ?_ | refine O3 rfl ?_ rfl | refine O4 rfl rfl rfl (fun _ _ => ?_) | refine O5 tok rfl rfl rfl (fun _ _ => ?_) | refine U0 _ (U2 rfl) rfl ?_ | refine U0 _ (U3 tok rfl rfl rfl rfl rfl) rfl ?_ | refine z3 tok rfl ?_ | refine U0 _ (U4 rfl rfl) rfl ?_ | refine U0 _ (U5 rfl rfl) rfl ?_) | (refine M1 ?_; first | refine J0 ?_ | refine J1 ?_ | refine J2 mixed rfl (by kernel_rfl) ?_ | refine J3 mixed rfl rfl (by kernel_rfl) ?_ | refine J4 ?_ | refine J5 ?_ | refine J6 ?_ | refine J7 ?_ | refine J8 rfl ?_ | refine J9 rfl ?_) | (refine M2 ?_; first | refine I0 ?_ | refine I1 ?_ | refine I2 ?_ | refine I3 ?_ | refine I4 ?_ | refine I5 ?_ | refine I6 rfl ?_ | refine I7 ?_ | refine I8 ?_ | refine z4 ?_) | (refine M3 ?_; first | refine O6 ?_ | refine z2 tok rfl ?_ | refine O8 rfl ?_ | refine O7 rfl ?_ rfl | refine O9 rfl ?_ rfl | refine U1 _ (U4 rfl rfl) rfl ?_ | refine U1 _ (U5 rfl rfl) rfl ?_ | refine U1 _ (U2 rfl) rfl ?_ | refine U1 _ (U3 tok rfl rfl rfl rfl rfl) rfl ?_) | (refine M4 ?_; first | refine M6 ?_ | refine U6 rfl (by kernel_rfl) ?_ | refine U7 (by kernel_rfl) ?_) | (refine M5 ?_; first | exact M7 | refine U8 rfl ?_ | refine U9 rfl rfl ?_ ?_))
    refine XE.retg tok Tryd.results19 rfl (by simp only [and_self, and_true]) (fun w' S => ?_)
    exact ⟨by rw [staErr_c (by simpa using h0)]; rfl, S.toBelow⟩
  have hc : chkE b = 0 := by simpa using h0
  have ho := (ok_of hc).rowsOk
  have h2 := ho.n2
  obtain ⟨ad, rfl, hlt⟩ := hb.rows.addr (by simp only; omega)
  repeat (first | (refine M0 ?_; first | refine O0 ?_ | refine z1 tok rfl ?_ | refine O1 rfl ?_ rfl | refine O2 rfl ?_ | refine O3 rfl ?_ rfl | refine O4 rfl rfl rfl (fun _ _ => ?_) | refine O5 tok rfl rfl rfl (fun _ _ => ?_) | refine U0 _ (U2 rfl) rfl ?_ | refine U0 _ (U3 tok rfl rfl rfl rfl rfl) rfl ?_ | refine z3 tok rfl ?_ | refine U0 _ (U4 rfl rfl) rfl ?_ | refine U0 _ (U5 rfl rfl) rfl ?_) | (refine M1 ?_; first | refine J0 ?_ | refine J1 ?_ | refine J2 mixed rfl (by kernel_rfl) ?_ | refine J3 mixed rfl rfl (by kernel_rfl) ?_ | refine J4 ?_ | refine J5 ?_ | refine J6 ?_ | refine J7 ?_ | refine J8 rfl ?_ | refine J9 rfl ?_) | (refine M2 ?_; first | refine I0 ?_ | refine I1 ?_ | refine I2 ?_ | refine I3 ?_ | refine I4 ?_ | refine I5 ?_ | refine I6 rfl ?_ | refine I7 ?_ | refine I8 ?_ | refine z4 ?_) | (refine M3 ?_; first | refine O6 ?_ | refine z2 tok rfl ?_ | refine O8 rfl ?_ | refine O7 rfl ?_ rfl | refine O9 rfl ?_ rfl | refine U1 _ (U4 rfl rfl) rfl ?_ | refine U1 _ (U5 rfl rfl) rfl ?_ | refine U1 _ (U2 rfl) rfl ?_ | refine U1 _ (U3 tok rfl rfl rfl rfl rfl) rfl ?_) | (refine M4 ?_; first | refine M6 ?_ | refine U6 rfl (by kernel_rfl) ?_ | refine U7 (by kernel_rfl) ?_) | (refine M5 ?_; first | exact M7 | refine U8 rfl ?_ | refine U9 rfl rfl ?_ ?_))
  refine XC.cond _ rfl (fun h1 => ?_) (fun h1 => ?_)
  · repeat (first | (refine M0 ?_; first | refine O0 ?_ | refine z1 tok rfl ?_ | refine O1 rfl ?_ rfl | refine O2 rfl ?_ | refine O3 rfl ?_ rfl | refine O4 rfl rfl rfl (fun _ _ => ?_) | refine O5 tok rfl rfl rfl (fun _ _ => ?_) | refine U0 _ (U2 rfl) rfl ?_ | refine U0 _ (U3 tok rfl rfl rfl rfl rfl) rfl ?_ | refine z3 tok rfl ?_ | refine U0 _ (U4 rfl rfl) rfl ?_ | refine U0 _ (U5 rfl rfl) rfl ?_) | (refine M1 ?_; first | refine J0 ?_ | refine J1 ?_ | refine J2 mixed rfl (by kernel_rfl) ?_ | refine J3 mixed rfl rfl (by kernel_rfl) ?_ | refine J4 ?_ | refine J5 ?_ | refine J6 ?_ | refine J7 ?_ | refine J8 rfl ?_ | refine J9 rfl ?_) | (refine M2 ?_; first | refine I0 ?_ | refine I1 ?_ | refine I2 ?_ | refine I3 ?_ | refine I4 ?_ | refine I5 ?_ | refine I6 rfl ?_ | refine I7 ?_ | refine I8 ?_ | refine z4 ?_) | (refine M3 ?_; first | refine O6 ?_ | refine z2 tok rfl ?_ | refine O8 rfl ?_ | refine O7 rfl ?_ rfl | refine O9 rfl ?_ rfl | refine U1 _ (U4 rfl rfl) rfl ?_ | refine U1 _ (U5 rfl rfl) rfl ?_ | refine U1 _ (U2 rfl) rfl ?_ | refine U1 _ (U3 tok rfl rfl rfl rfl rfl) rfl ?_) | (refine M4 ?_; first | refine M6 ?_ | refine U6 rfl (by kernel_rfl) ?_ | refine U7 (by kernel_rfl) ?_) | (refine M5 ?_; first | exact M7 | refine U8 rfl ?_ | refine U9 rfl rfl ?_ ?_))
    refine XE.retg tok Tryd.results19 rfl (by simp only [and_self, and_true]) (fun w' S => ?_)
    exact ⟨by rw [staErr_2 hc (by simp only [ne_eq, decide_eq_true_eq] at h1; omega)]; rfl, S.toBelow⟩
  have hl : s.fil.length = b.pols.length := by simp only [ne_eq, decide_eq_false_iff_not, Decidable.not_not] at h1; omega
  repeat (first | (refine M0 ?_; first | refine O0 ?_ | refine z1 tok rfl ?_ | refine O1 rfl ?_ rfl | refine O2 rfl ?_ | refine O3 rfl ?_ rfl | refine U0 _ (Ev.load_old tok rfl rfl (add_lt2 hlt) (hb.rowVol (i := 0) (by omega))) rfl ?_ | refine U0 _ (Ev.call (f := 51) (ck rfl) rfl (fun w _ => out_any _ _ _ w)) rfl ?_ | refine O4 rfl rfl rfl (fun _ _ => ?_) | refine O5 tok rfl rfl rfl (fun _ _ => ?_) | refine U0 _ (U2 rfl) rfl ?_ | refine U0 _ (U3 tok rfl rfl rfl rfl rfl) rfl ?_ | refine z3 tok rfl ?_ | refine U0 _ (U4 rfl rfl) rfl ?_ | refine U0 _ (U5 rfl rfl) rfl ?_) | (refine M1 ?_; first | refine J0 ?_ | refine J1 ?_ | refine J2 mixed rfl (by kernel_rfl) ?_ | refine J3 mixed rfl rfl (by kernel_rfl) ?_ | refine J4 ?_ | refine J5 ?_ | refine J6 ?_ | refine J7 ?_ | refine J8 rfl ?_ | refine J9 rfl ?_) | (refine M2 ?_; first | refine I0 ?_ | refine I1 ?_ | refine I2 ?_ | refine I3 ?_ | refine I4 ?_ | refine I5 ?_ | refine I6 rfl ?_ | refine I7 ?_ | refine I8 ?_ | refine z4 ?_) | (refine M3 ?_; first | refine O6 ?_ | refine z2 tok rfl ?_ | refine O8 rfl ?_ | refine O7 rfl ?_ rfl | refine O9 rfl ?_ rfl | refine U1 _ (Ev.load_old tok rfl rfl (add_lt2 hlt) (hb.rowVol (i := 0) (by omega))) rfl ?_ | refine U1 _ (Ev.call (f := 51) (ck rfl) rfl (fun w _ => out_any _ _ _ w)) rfl ?_ | refine U1 _ (U4 rfl rfl) rfl ?_ | refine U1 _ (U5 rfl rfl) rfl ?_ | refine U1 _ (U2 rfl) rfl ?_ | refine U1 _ (U3 tok rfl rfl rfl rfl rfl) rfl ?_) | (refine M4 ?_; first | refine M6 ?_ | refine U6 rfl (by kernel_rfl) ?_ | refine U7 (by kernel_rfl) ?_) | (refine M5 ?_; first | exact M7 | refine U8 rfl ?_ | refine U9 rfl rfl ?_ ?_))
  refine XC.cond _ rfl (fun h3 => ?_) (fun h3 => ?_)
  · repeat (first | (refine M0 ?_; first | refine O0 ?_ | refine z1 tok rfl ?_ | refine O1 rfl ?_ rfl | refine O2 rfl ?_ | refine O3 rfl ?_ rfl | refine O4 rfl rfl rfl (fun _ _ => ?_) | refine O5 tok rfl rfl rfl (fun _ _ => ?_) | refine U0 _ (U2 rfl) rfl ?_ | refine U0 _ (U3 tok rfl rfl rfl rfl rfl) rfl ?_ | refine z3 tok rfl ?_ | refine U0 _ (U4 rfl rfl) rfl ?_ | refine U0 _ (U5 rfl rfl) rfl ?_) | (refine M1 ?_; first | refine J0 ?_ | refine J1 ?_ | refine J2 mixed rfl (by kernel_rfl) ?_ | refine J3 mixed rfl rfl (by kernel_rfl) ?_ | refine J4 ?_ | refine J5 ?_ | refine J6 ?_ | refine J7 ?_ | refine J8 rfl ?_ | refine J9 rfl ?_) | (refine M2 ?_; first | refine I0 ?_ | refine I1 ?_ | refine I2 ?_ | refine I3 ?_ | refine I4 ?_ | refine I5 ?_ | refine I6 rfl ?_ | refine I7 ?_ | refine I8 ?_ | refine z4 ?_) | (refine M3 ?_; first | refine O6 ?_ | refine z2 tok rfl ?_ | refine O8 rfl ?_ | refine O7 rfl ?_ rfl | refine O9 rfl ?_ rfl | refine U1 _ (U4 rfl rfl) rfl ?_ | refine U1 _ (U5 rfl rfl) rfl ?_ | refine U1 _ (U2 rfl) rfl ?_ | refine U1 _ (U3 tok rfl rfl rfl rfl rfl) rfl ?_) | (refine M4 ?_; first | refine M6 ?_ | refine U6 rfl (by kernel_rfl) ?_ | refine U7 (by kernel_rfl) ?_) | (refine M5 ?_; first | exact M7 | refine U8 rfl ?_ | refine U9 rfl rfl ?_ ?_))
    refine XE.retg tok Tryd.results19 rfl (by simp only [and_self, and_true]) (fun w' S => ?_)
    exact ⟨by rw [staErr_7 hc hl (.inl h3)]; rfl, S.toBelow⟩
  repeat (first | (refine M0 ?_; first | refine O0 ?_ | refine z1 tok rfl ?_ | refine O1 rfl ?_ rfl | refine O2 rfl ?_ | refine O3 rfl ?_ rfl | refine O4 rfl rfl rfl (fun _ _ => ?_) | refine O5 tok rfl rfl rfl (fun _ _ => ?_) | refine U0 _ (U2 rfl) rfl ?_ | refine U0 _ (U3 tok rfl rfl rfl rfl rfl) rfl ?_ | refine z3 tok rfl ?_ | refine U0 _ (U4 rfl rfl) rfl ?_ | refine U0 _ (U5 rfl rfl) rfl ?_) | (refine M1 ?_; first | refine J0 ?_ | refine J1 ?_ | refine J2 mixed rfl (by kernel_rfl) ?_ | refine J3 mixed rfl rfl (by kernel_rfl) ?_ | refine J4 ?_ | refine J5 ?_ | refine J6 ?_ | refine J7 ?_ | refine J8 rfl ?_ | refine J9 rfl ?_) | (refine M2 ?_; first | refine I0 ?_ | refine I1 ?_ | refine I2 ?_ | refine I3 ?_ | refine I4 ?_ | refine I5 ?_ | refine I6 rfl ?_ | refine I7 ?_ | refine I8 ?_ | refine z4 ?_) | (refine M3 ?_; first | refine O6 ?_ | refine z2 tok rfl ?_ | refine O8 rfl ?_ | refine O7 rfl ?_ rfl | refine O9 rfl ?_ rfl | refine U1 _ (U4 rfl rfl) rfl ?_ | refine U1 _ (U5 rfl rfl) rfl ?_ | refine U1 _ (U2 rfl) rfl ?_ | refine U1 _ (U3 tok rfl rfl rfl rfl rfl) rfl ?_) | (refine M4 ?_; first | refine M6 ?_ | refine U6 rfl (by kernel_rfl) ?_ | refine U7 (by kernel_rfl) ?_) | (refine M5 ?_; first | exact M7 | refine U8 rfl ?_ | refine U9 rfl rfl ?_ ?_))
  refine XC.loopk [2, 32, 33] rfl (fun k : Nat => [(34, .int .i64 (k : Nat))]) (fun _ => _) (fun _ => w) (fun k => k ≤ s.fil.length ∧ ∀ j, j < k → outB (s.f j) 0 (b.pol j).room = false) (fun k => s.fil.length - k) 0 ⟨Nat.zero_le _, fun j hj => by omega⟩ (by repeat (first | exact Sub.nil | refine Sub.cons rfl ?_)) (fun _ h => h) ?_
  rintro k ⟨hk, hok⟩
  dsimp only [List.cons_append, List.nil_append]
  repeat (first | (refine M0 ?_; first | refine O0 ?_ | refine z1 tok rfl ?_ | refine O1 rfl ?_ rfl | refine O2 rfl ?_ | refine O3 rfl ?_ rfl | refine O4 rfl rfl rfl (fun _ _ => ?_) | refine O5 tok rfl rfl rfl (fun _ _ => ?_) | refine U0 _ (U2 rfl) rfl ?_ | refine U0 _ (U3 tok rfl rfl rfl rfl rfl) rfl ?_ | refine z3 tok rfl ?_ | refine U0 _ (U4 rfl rfl) rfl ?_ | refine U0 _ (U5 rfl rfl) rfl ?_) | (refine M1 ?_; first | refine J0 ?_ | refine J1 ?_ | refine J2 mixed rfl (by kernel_rfl) ?_ | refine J3 mixed rfl rfl (by kernel_rfl) ?_ | refine J4 ?_ | refine J5 ?_ | refine J6 ?_ | refine J7 ?_ | refine J8 rfl ?_ | refine J9 rfl ?_) | (refine M2 ?_; first | refine I0 ?_ | refine I1 ?_ | refine I2 ?_ | refine I3 ?_ | refine I4 ?_ | refine I5 ?_ | refine I6 rfl ?_ | refine I7 ?_ | refine I8 ?_ | refine z4 ?_) | (refine M3 ?_; first | refine O6 ?_ | refine z2 tok rfl ?_ | refine O8 rfl ?_ | refine O7 rfl ?_ rfl | refine O9 rfl ?_ rfl | refine U1 _ (U4 rfl rfl) rfl ?_ | refine U1 _ (U5 rfl rfl) rfl ?_ | refine U1 _ (U2 rfl) rfl ?_ | refine U1 _ (U3 tok rfl rfl rfl rfl rfl) rfl ?_) | (refine M4 ?_; first | refine M6 ?_ | refine U6 rfl (by kernel_rfl) ?_ | refine U7 (by kernel_rfl) ?_) | (refine M5 ?_; first | exact M7 | refine U8 rfl ?_ | refine U9 rfl rfl ?_ ?_))
  refine XC.cond _ rfl (fun h4 => ?_) (fun h4 => ?_)
  · have hlk : k < s.fil.length := by simpa using h4
    obtain ⟨ad2, rfl, hlt2⟩ := hb.pols.addr (by simp only; omega)
    obtain ⟨ad3, rfl, hlt3, hc3⟩ := hs.at_ (by omega)
    repeat (any_goals (first | (refine M0 ?_; first | refine O0 ?_ | refine z1 tok rfl ?_ | refine O1 rfl ?_ rfl | refine O2 rfl ?_ | refine O3 rfl ?_ rfl | (refine XL.split _ _ rfl (fun h => ?_) (fun h => ?_) <;> rw [h]) | refine U0 _ (Ev.load_old tok rfl rfl (add_lt hlt3) (hc3 k hlk)) rfl ?_ | refine U0 _ (Ev.load_old tok rfl rfl (add_lt2 hlt2) (polRoom hb (i := k) (by omega))) rfl ?_ | refine U0 _ (Ev.call (f := 51) (ck rfl) rfl (fun w _ => out_any _ _ _ w)) rfl ?_ | refine O4 rfl rfl rfl (fun _ _ => ?_) | refine O5 tok rfl rfl rfl (fun _ _ => ?_) | refine U0 _ (U2 rfl) rfl ?_ | refine U0 _ (U3 tok rfl rfl rfl rfl rfl) rfl ?_ | refine z3 tok rfl ?_ | refine U0 _ (U4 rfl rfl) rfl ?_ | refine U0 _ (U5 rfl rfl) rfl ?_) | (refine M1 ?_; first | refine J0 ?_ | refine J1 ?_ | refine J2 mixed rfl (by kernel_rfl) ?_ | refine J3 mixed rfl rfl (by kernel_rfl) ?_ | refine J4 ?_ | refine J5 ?_ | refine J6 ?_ | refine J7 ?_ | refine J8 rfl ?_ | refine J9 rfl ?_ | refine XC.cond _ rfl (fun h => ?_) (fun h => ?_)) | (refine M2 ?_; first | refine I0 ?_ | refine I1 ?_ | refine I2 ?_ | refine I3 ?_ | refine I4 ?_ | refine I5 ?_ | refine I6 rfl ?_ | refine I7 ?_ | refine I8 ?_ | refine z4 ?_) | (refine M3 ?_; first | refine O6 ?_ | refine z2 tok rfl ?_ | refine O8 rfl ?_ | refine O7 rfl ?_ rfl | refine O9 rfl ?_ rfl | (refine Fw.split _ _ rfl (fun h => ?_) (fun h => ?_) <;> rw [h]) | refine U1 _ (Ev.load_old tok rfl rfl (add_lt hlt3) (hc3 k hlk)) rfl ?_ | refine U1 _ (Ev.load_old tok rfl rfl (add_lt2 hlt2) (polRoom hb (i := k) (by omega))) rfl ?_ | refine U1 _ (Ev.call (f := 51) (ck rfl) rfl (fun w _ => out_any _ _ _ w)) rfl ?_ | refine U1 _ (U4 rfl rfl) rfl ?_ | refine U1 _ (U5 rfl rfl) rfl ?_ | refine U1 _ (U2 rfl) rfl ?_ | refine U1 _ (U3 tok rfl rfl rfl rfl rfl) rfl ?_) | (refine M4 ?_; first | refine M6 ?_ | refine U6 rfl (by kernel_rfl) ?_ | refine U7 (by kernel_rfl) ?_) | (refine M5 ?_; first | exact M7 | refine U8 rfl ?_ | refine U9 rfl rfl ?_ ?_)))
    · refine XE.retg tok Tryd.results19 rfl (by simp only [and_self, and_true]) (fun w' S => ?_)
      exact ⟨by rw [staErr_7 hc hl (.inr ⟨k, by omega, h⟩)]; rfl, S.toBelow⟩
    · refine XE.round (k + 1) ⟨hlk, fun j hj => ?_⟩ (by omega) (by repeat (first | exact Sub.nil | refine Sub.cons rfl ?_)) (fun _ h => by first | exact h | exact h.pop (by assumption) | exact (h.pop (by assumption)).pop (by assumption) | exact ((h.pop (by assumption)).pop (by assumption)).pop (by assumption) | exact (((h.pop (by assumption)).pop (by assumption)).pop (by assumption)).pop (by assumption) | exact Sys.anchor (by assumption) h (by simp) (by simp))
      rcases Nat.lt_succ_iff_lt_or_eq.1 hj with hj | rfl
      · exact hok j hj
      · exact h
  · have hge : k = s.fil.length := by simp at h4; omega
    subst hge
    repeat (first | (refine M0 ?_; first | refine O0 ?_ | refine z1 tok rfl ?_ | refine O1 rfl ?_ rfl | refine O2 rfl ?_ | refine O3 rfl ?_ rfl | refine O4 rfl rfl rfl (fun _ _ => ?_) | refine O5 tok rfl rfl rfl (fun _ _ => ?_) | refine U0 _ (U2 rfl) rfl ?_ | refine U0 _ (U3 tok rfl rfl rfl rfl rfl) rfl ?_ | refine z3 tok rfl ?_ | refine U0 _ (U4 rfl rfl) rfl ?_ | refine U0 _ (U5 rfl rfl) rfl ?_) | (refine M1 ?_; first | refine J0 ?_ | refine J1 ?_ | refine J2 mixed rfl (by kernel_rfl) ?_ | refine J3 mixed rfl rfl (by kernel_rfl) ?_ | refine J4 ?_ | refine J5 ?_ | refine J6 ?_ | refine J7 ?_ | refine J8 rfl ?_ | refine J9 rfl ?_) | (refine M2 ?_; first | refine I0 ?_ | refine I1 ?_ | refine I2 ?_ | refine I3 ?_ | refine I4 ?_ | refine I5 ?_ | refine I6 rfl ?_ | refine I7 ?_ | refine I8 ?_ | refine z4 ?_) | (refine M3 ?_; first | refine O6 ?_ | refine z2 tok rfl ?_ | refine O8 rfl ?_ | refine O7 rfl ?_ rfl | refine O9 rfl ?_ rfl | refine U1 _ (U4 rfl rfl) rfl ?_ | refine U1 _ (U5 rfl rfl) rfl ?_ | refine U1 _ (U2 rfl) rfl ?_ | refine U1 _ (U3 tok rfl rfl rfl rfl rfl) rfl ?_) | (refine M4 ?_; first | refine M6 ?_ | refine U6 rfl (by kernel_rfl) ?_ | refine U7 (by kernel_rfl) ?_) | (refine M5 ?_; first | exact M7 | refine U8 rfl ?_ | refine U9 rfl rfl ?_ ?_))
    refine XE.retg tok Tryd.results19 rfl (by simp only [and_self, and_true]) (fun w' S => ?_)
    refine ⟨?_, S.toBelow⟩
    rw [staErr_0 hc hl]
    · rfl
    · rintro (hx | ⟨i, hi, hx⟩)
      · rw [h3] at hx; cases hx
      · rw [hok i (by omega)] at hx; cases hx

set_option maxHeartbeats 4000000 in
theorem refCheckState_any {p : BV} {b : Bas} {q : SV} {s : Sta} {w : World} (hb : BasAt w w.heap.size p b) (hs : IntsAt w (Lt w.heap.size) q s.fil) :
    Calls Tryd.prog 20 #[basV p b, staV q s] w fun e w' => e = .returned (.int .i64 (staErr b s)) ∧ Below w.heap.size w w' := by
  obtain ⟨A, n, c, A2, n2, c2⟩ := p
  obtain ⟨A3, n3, c3⟩ := q
  have hn := hb.n_eq
  have hn2 := hb.n2_eq
  have hn3 := hs.len
  have hl2 := hb.len2
  have hl3 := hs.max
  simp only at hn hn2 hn3 hl2 hl3
  subst hn hn2 hn3
  simp only [basV, basC, staV, staC]
  refine enter Tryd.func20 rfl Tryd.ntmps20 rfl ?_; simp only [frame, Nat.zero_add, Nat.reduceAdd]
  repeat (first | (refine M0 ?_; first | refine O0 ?_ | refine z1 tok rfl ?_ | refine O1 rfl ?_ rfl | refine O2 rfl ?_ | refine O3 rfl ?_ rfl | refine U0 _ (Ev.call (f := 52) (ck rfl) rfl (fun w S => (good_any (hb.sys S) :))) rfl ?_ | refine O4 rfl rfl rfl (fun _ _ => ?_) | refine O5 tok rfl rfl rfl (fun _ _ => ?_) | refine U0 _ (U2 rfl) rfl ?_ | refine U0 _ (U3 tok rfl rfl rfl rfl rfl) rfl ?_ | refine z3 tok rfl ?_ | refine U0 _ (U4 rfl rfl) rfl ?_ | refine U0 _ (U5 rfl rfl) rfl ?_) | (refine M1 ?_; first | refine J0 ?_ | refine J1 ?_ | refine J2 mixed rfl (by kernel_rfl) ?_ | refine J3 mixed rfl rfl (by kernel_rfl) ?_ | refine J4 ?_ | refine J5 ?_ | refine J6 ?_ | refine J7 ?_ | refine J8 rfl ?_ | refine J9 rfl ?_) | (refine M2 ?_; first | refine I0 ?_ | refine I1 ?_ | refine I2 ?_ | refine I3 ?_ | refine I4 ?_ | refine I5 ?_ | refine I6 rfl ?_ | refine I7 ?_ | refine I8 ?_ | refine z4 ?_) | (refine M3 ?_; first | refine O6 ?_ | refine z2 tok rfl ?_ | refine O8 rfl ?_ | refine O7 rfl ?_ rfl | refine O9 rfl ?_ rfl | refine U1 _ (Ev.call (f := 52) (ck rfl) rfl (fun w S => (good_any (hb.sys S) :))) rfl ?_ | refine U1 _ (U4 rfl rfl) rfl ?_ | refine U1 _ (U5 rfl rfl) rfl ?_ | refine U1 _ (U2 rfl) rfl ?_ | refine U1 _ (U3 tok rfl rfl rfl rfl rfl) rfl ?_) | (refine M4 ?_; first | refine M6 ?_ | refine U6 rfl (by kernel_rfl) ?_ | refine U7 (by kernel_rfl) ?_) | (refine M5 ?_; first | exact M7 | refine U8 rfl ?_ | refine U9 rfl rfl ?_ ?_))
  refine XC.cond _ rfl (fun h0 => ?_) (fun h0 => ?_)
  · repeat (first | (refine M0 ?_; first | refine O0 ?_ | refine z1 tok rfl ?_ | refine O1 rfl ?_ rfl | refine O2 rfl ?_ | refine O3 rfl ?_ rfl | refine O4 rfl rfl rfl (fun _ _ => ?_) | refine O5 tok rfl rfl rfl (fun _ _ => ?_) | refine U0 _ (U2 rfl) rfl ?_ | refine U0 _ (U3 tok rfl rfl rfl rfl rfl) rfl ?_ | refine z3 tok rfl ?_ | refine U0 _ (U4 rfl rfl) rfl ?_ | refine U0 _ (U5 rfl rfl) rfl ?_) | (refine M1 ?_; first | refine J0 ?_ | refine J1 ?_ | refine J2 mixed rfl (by kernel_rfl) ?_ | refine J3 mixed rfl rfl (by kernel_rfl) ?_ | refine J4 ?_ | refine J5 ?_ | refine J6 ?_ | refine J7 ?_ | refine J8 rfl ?_ | refine J9 rfl ?_) | (refine M2 ?_; first | refine I0 ?_ | refine I1 ?_ | refine I2 ?_ | refine I3 ?_ | refine I4 ?_ | refine I5 ?_ | refine I6 rfl ?_ | refine I7 ?_ | refine I8 ?_ | refine z4 ?_) | (refine M3 ?_; first | refine O6 ?_ | refine z2 tok rfl ?_ | refine O8 rfl ?_ | refine O7 rfl ?_ rfl | refine O9 rfl ?_ rfl | refine U1 _ (U4 rfl rfl) rfl ?_ | refine U1 _ (U5 rfl rfl) rfl ?_ | refine U1 _ (U2 rfl) rfl ?_ | refine U1 _ (U3 tok rfl rfl rfl rfl rfl) rfl ?_) | (refine M4 ?_; first | refine M6 ?_ | refine U6 rfl (by kernel_rfl) ?_ | refine U7 (by kernel_rfl) ?_) | (refine M5 ?_; first | exact M7 | refine U8 rfl ?_ | refine U9 rfl rfl ?_ ?_))
    refine XE.retg tok Tryd.results20 rfl (by simp only [and_self, and_true]) (fun w' S => ?_)
    exact ⟨by rw [staErr_c (by simpa using h0)]; rfl, S.toBelow⟩
  have hc : chkE b = 0 := by simpa using h0
  have ho := (ok_of hc).rowsOk
  repeat (first | (refine M0 ?_; first | refine O0 ?_ | refine z1 tok rfl ?_ | refine O1 rfl ?_ rfl | refine O2 rfl ?_ | refine O3 rfl ?_ rfl | refine O4 rfl rfl rfl (fun _ _ => ?_) | refine O5 tok rfl rfl rfl (fun _ _ => ?_) | refine U0 _ (U2 rfl) rfl ?_ | refine U0 _ (U3 tok rfl rfl rfl rfl rfl) rfl ?_ | refine z3 tok rfl ?_ | refine U0 _ (U4 rfl rfl) rfl ?_ | refine U0 _ (U5 rfl rfl) rfl ?_) | (refine M1 ?_; first | refine J0 ?_ | refine J1 ?_ | refine J2 mixed rfl (by kernel_rfl) ?_ | refine J3 mixed rfl rfl (by kernel_rfl) ?_ | refine J4 ?_ | refine J5 ?_ | refine J6 ?_ | refine J7 ?_ | refine J8 rfl ?_ | refine J9 rfl ?_) | (refine M2 ?_; first | refine I0 ?_ | refine I1 ?_ | refine I2 ?_ | refine I3 ?_ | refine I4 ?_ | refine I5 ?_ | refine I6 rfl ?_ | refine I7 ?_ | refine I8 ?_ | refine z4 ?_) | (refine M3 ?_; first | refine O6 ?_ | refine z2 tok rfl ?_ | refine O8 rfl ?_ | refine O7 rfl ?_ rfl | refine O9 rfl ?_ rfl | refine U1 _ (U4 rfl rfl) rfl ?_ | refine U1 _ (U5 rfl rfl) rfl ?_ | refine U1 _ (U2 rfl) rfl ?_ | refine U1 _ (U3 tok rfl rfl rfl rfl rfl) rfl ?_) | (refine M4 ?_; first | refine M6 ?_ | refine U6 rfl (by kernel_rfl) ?_ | refine U7 (by kernel_rfl) ?_) | (refine M5 ?_; first | exact M7 | refine U8 rfl ?_ | refine U9 rfl rfl ?_ ?_))
  refine XC.cond _ rfl (fun h1 => ?_) (fun h1 => ?_)
  · repeat (first | (refine M0 ?_; first | refine O0 ?_ | refine z1 tok rfl ?_ | refine O1 rfl ?_ rfl | refine O2 rfl ?_ | refine O3 rfl ?_ rfl | refine O4 rfl rfl rfl (fun _ _ => ?_) | refine O5 tok rfl rfl rfl (fun _ _ => ?_) | refine U0 _ (U2 rfl) rfl ?_ | refine U0 _ (U3 tok rfl rfl rfl rfl rfl) rfl ?_ | refine z3 tok rfl ?_ | refine U0 _ (U4 rfl rfl) rfl ?_ | refine U0 _ (U5 rfl rfl) rfl ?_) | (refine M1 ?_; first | refine J0 ?_ | refine J1 ?_ | refine J2 mixed rfl (by kernel_rfl) ?_ | refine J3 mixed rfl rfl (by kernel_rfl) ?_ | refine J4 ?_ | refine J5 ?_ | refine J6 ?_ | refine J7 ?_ | refine J8 rfl ?_ | refine J9 rfl ?_) | (refine M2 ?_; first | refine I0 ?_ | refine I1 ?_ | refine I2 ?_ | refine I3 ?_ | refine I4 ?_ | refine I5 ?_ | refine I6 rfl ?_ | refine I7 ?_ | refine I8 ?_ | refine z4 ?_) | (refine M3 ?_; first | refine O6 ?_ | refine z2 tok rfl ?_ | refine O8 rfl ?_ | refine O7 rfl ?_ rfl | refine O9 rfl ?_ rfl | refine U1 _ (U4 rfl rfl) rfl ?_ | refine U1 _ (U5 rfl rfl) rfl ?_ | refine U1 _ (U2 rfl) rfl ?_ | refine U1 _ (U3 tok rfl rfl rfl rfl rfl) rfl ?_) | (refine M4 ?_; first | refine M6 ?_ | refine U6 rfl (by kernel_rfl) ?_ | refine U7 (by kernel_rfl) ?_) | (refine M5 ?_; first | exact M7 | refine U8 rfl ?_ | refine U9 rfl rfl ?_ ?_))
    refine XE.retg tok Tryd.results20 rfl (by simp only [and_self, and_true]) (fun w' S => ?_)
    exact ⟨by rw [staErr_2 hc (by simp only [ne_eq, decide_eq_true_eq] at h1; omega)]; rfl, S.toBelow⟩
  have hl : s.fil.length = b.pols.length := by simp only [ne_eq, decide_eq_false_iff_not, Decidable.not_not] at h1; omega
  repeat (first | (refine M0 ?_; first | refine O0 ?_ | refine z1 tok rfl ?_ | refine O1 rfl ?_ rfl | refine O2 rfl ?_ | refine O3 rfl ?_ rfl | refine U0 _ (Ev.call (f := 53) (ck rfl) rfl (fun w S => (stored_any (hb.sys S) ho _ :))) rfl ?_ | refine O4 rfl rfl rfl (fun _ _ => ?_) | refine O5 tok rfl rfl rfl (fun _ _ => ?_) | refine U0 _ (U2 rfl) rfl ?_ | refine U0 _ (U3 tok rfl rfl rfl rfl rfl) rfl ?_ | refine z3 tok rfl ?_ | refine U0 _ (U4 rfl rfl) rfl ?_ | refine U0 _ (U5 rfl rfl) rfl ?_) | (refine M1 ?_; first | refine J0 ?_ | refine J1 ?_ | refine J2 mixed rfl (by kernel_rfl) ?_ | refine J3 mixed rfl rfl (by kernel_rfl) ?_ | refine J4 ?_ | refine J5 ?_ | refine J6 ?_ | refine J7 ?_ | refine J8 rfl ?_ | refine J9 rfl ?_) | (refine M2 ?_; first | refine I0 ?_ | refine I1 ?_ | refine I2 ?_ | refine I3 ?_ | refine I4 ?_ | refine I5 ?_ | refine I6 rfl ?_ | refine I7 ?_ | refine I8 ?_ | refine z4 ?_) | (refine M3 ?_; first | refine O6 ?_ | refine z2 tok rfl ?_ | refine O8 rfl ?_ | refine O7 rfl ?_ rfl | refine O9 rfl ?_ rfl | refine U1 _ (Ev.call (f := 53) (ck rfl) rfl (fun w S => (stored_any (hb.sys S) ho _ :))) rfl ?_ | refine U1 _ (U4 rfl rfl) rfl ?_ | refine U1 _ (U5 rfl rfl) rfl ?_ | refine U1 _ (U2 rfl) rfl ?_ | refine U1 _ (U3 tok rfl rfl rfl rfl rfl) rfl ?_) | (refine M4 ?_; first | refine M6 ?_ | refine U6 rfl (by kernel_rfl) ?_ | refine U7 (by kernel_rfl) ?_) | (refine M5 ?_; first | exact M7 | refine U8 rfl ?_ | refine U9 rfl rfl ?_ ?_))
  refine XC.loopk [2, 3] rfl (fun k : Nat × Bool => [(6, .bool k.2), (7, .int .i64 (k.1 : Nat))]) (fun _ => _) (fun _ => w) (fun k => k.1 ≤ s.fil.length ∧ (k.2 = true ↔ outB s.vol (b.row 0).vol 1000000000 = false ∧ ∀ j, j < k.1 → outB (s.f j) 0 (b.pol j).room = false)) (fun k => s.fil.length - k.1) (0, !outB s.vol (b.row 0).vol 1000000000) ⟨Nat.zero_le _, by simp⟩ (by repeat (first | exact Sub.nil | refine Sub.cons rfl ?_)) (fun _ h => h) ?_
  rintro ⟨k, fine⟩ ⟨hk, hok⟩
  simp only at hk hok
  dsimp only [List.cons_append, List.nil_append]
  repeat (first | (refine M0 ?_; first | refine O0 ?_ | refine z1 tok rfl ?_ | refine O1 rfl ?_ rfl | refine O2 rfl ?_ | refine O3 rfl ?_ rfl | refine O4 rfl rfl rfl (fun _ _ => ?_) | refine O5 tok rfl rfl rfl (fun _ _ => ?_) | refine U0 _ (U2 rfl) rfl ?_ | refine U0 _ (U3 tok rfl rfl rfl rfl rfl) rfl ?_ | refine z3 tok rfl ?_ | refine U0 _ (U4 rfl rfl) rfl ?_ | refine U0 _ (U5 rfl rfl) rfl ?_) | (refine M1 ?_; first | refine J0 ?_ | refine J1 ?_ | refine J2 mixed rfl (by kernel_rfl) ?_ | refine J3 mixed rfl rfl (by kernel_rfl) ?_ | refine J4 ?_ | refine J5 ?_ | refine J6 ?_ | refine J7 ?_ | refine J8 rfl ?_ | refine J9 rfl ?_) | (refine M2 ?_; first | refine I0 ?_ | refine I1 ?_ | refine I2 ?_ | refine I3 ?_ | refine I4 ?_ | refine I5 ?_ | refine I6 rfl ?_ | refine I7 ?_ | refine I8 ?_ | refine z4 ?_) | (refine M3 ?_; first | refine O6 ?_ | refine z2 tok rfl ?_ | refine O8 rfl ?_ | refine O7 rfl ?_ rfl | refine O9 rfl ?_ rfl | refine U1 _ (U4 rfl rfl) rfl ?_ | refine U1 _ (U5 rfl rfl) rfl ?_ | refine U1 _ (U2 rfl) rfl ?_ | refine U1 _ (U3 tok rfl rfl rfl rfl rfl) rfl ?_) | (refine M4 ?_; first | refine M6 ?_ | refine U6 rfl (by kernel_rfl) ?_ | refine U7 (by kernel_rfl) ?_) | (refine M5 ?_; first | exact M7 | refine U8 rfl ?_ | refine U9 rfl rfl ?_ ?_))
  refine XC.cond _ rfl (fun h4 => ?_) (fun h4 => ?_)
  · have hlk : k < s.fil.length := by simpa using h4
    obtain ⟨ad2, rfl, hlt2⟩ := hb.pols.addr (by simp only; omega)
    obtain ⟨ad3, rfl, hlt3, hc3⟩ := hs.at_ (by omega)
    repeat (any_goals (first | (refine M0 ?_; first | refine O0 ?_ | refine z1 tok rfl ?_ | refine O1 rfl ?_ rfl | refine O2 rfl ?_ | refine O3 rfl ?_ rfl | (refine XL.split _ _ rfl (fun h => ?_) (fun h => ?_) <;> rw [h]) | refine U0 _ (Ev.load_old tok rfl rfl (add_lt hlt3) (hc3 k hlk)) rfl ?_ | refine U0 _ (Ev.load_old tok rfl rfl (add_lt2 hlt2) (polRoom hb (i := k) (by omega))) rfl ?_ | refine U0 _ (Ev.call (f := 54) (ck rfl) rfl (fun w _ => in_any _ _ _ w)) rfl ?_ | refine O4 rfl rfl rfl (fun _ _ => ?_) | refine O5 tok rfl rfl rfl (fun _ _ => ?_) | refine U0 _ (U2 rfl) rfl ?_ | refine U0 _ (U3 tok rfl rfl rfl rfl rfl) rfl ?_ | refine z3 tok rfl ?_ | refine U0 _ (U4 rfl rfl) rfl ?_ | refine U0 _ (U5 rfl rfl) rfl ?_) | (refine M1 ?_; first | refine J0 ?_ | refine J1 ?_ | refine J2 mixed rfl (by kernel_rfl) ?_ | refine J3 mixed rfl rfl (by kernel_rfl) ?_ | refine J4 ?_ | refine J5 ?_ | refine J6 ?_ | refine J7 ?_ | refine J8 rfl ?_ | refine J9 rfl ?_ | refine XC.cond _ rfl (fun h => ?_) (fun h => ?_)) | (refine M2 ?_; first | refine I0 ?_ | refine I1 ?_ | refine I2 ?_ | refine I3 ?_ | refine I4 ?_ | refine I5 ?_ | refine I6 rfl ?_ | refine I7 ?_ | refine I8 ?_ | refine z4 ?_) | (refine M3 ?_; first | refine O6 ?_ | refine z2 tok rfl ?_ | refine O8 rfl ?_ | refine O7 rfl ?_ rfl | refine O9 rfl ?_ rfl | (refine Fw.split _ _ rfl (fun h => ?_) (fun h => ?_) <;> rw [h]) | refine U1 _ (Ev.load_old tok rfl rfl (add_lt hlt3) (hc3 k hlk)) rfl ?_ | refine U1 _ (Ev.load_old tok rfl rfl (add_lt2 hlt2) (polRoom hb (i := k) (by omega))) rfl ?_ | refine U1 _ (Ev.call (f := 54) (ck rfl) rfl (fun w _ => in_any _ _ _ w)) rfl ?_ | refine U1 _ (U4 rfl rfl) rfl ?_ | refine U1 _ (U5 rfl rfl) rfl ?_ | refine U1 _ (U2 rfl) rfl ?_ | refine U1 _ (U3 tok rfl rfl rfl rfl rfl) rfl ?_) | (refine M4 ?_; first | refine M6 ?_ | refine U6 rfl (by kernel_rfl) ?_ | refine U7 (by kernel_rfl) ?_) | (refine M5 ?_; first | exact M7 | refine U8 rfl ?_ | refine U9 rfl rfl ?_ ?_)))
    · refine XE.round (s := (k, fine)) (k + 1, !outB (at0 s.fil k) 0 (b.pol k).room) ⟨hlk, ?_⟩ (by simp only; omega) (by repeat (first | exact Sub.nil | refine Sub.cons rfl ?_)) (fun _ h => by first | exact h | exact h.pop (by assumption) | exact (h.pop (by assumption)).pop (by assumption) | exact ((h.pop (by assumption)).pop (by assumption)).pop (by assumption) | exact (((h.pop (by assumption)).pop (by assumption)).pop (by assumption)).pop (by assumption) | exact Sys.anchor (by assumption) h (by simp) (by simp))
      simp only
      have h5 := hok.1 h
      constructor
      · intro h6
        refine ⟨h5.1, fun j hj => ?_⟩
        rcases Nat.lt_succ_iff_lt_or_eq.1 hj with hj | rfl
        · exact h5.2 j hj
        · rw [Bool.not_eq_true'] at h6; exact h6
      · rintro ⟨_, h6⟩
        have := h6 k (by omega)
        show (!outB (s.f k) 0 (b.pol k).room) = true
        rw [this]; rfl
    · refine XE.round (s := (k, fine)) (k + 1, false) ⟨hlk, ?_⟩ (by simp only; omega) (by repeat (first | exact Sub.nil | refine Sub.cons rfl ?_)) (fun _ h => by first | exact h | exact h.pop (by assumption) | exact (h.pop (by assumption)).pop (by assumption) | exact ((h.pop (by assumption)).pop (by assumption)).pop (by assumption) | exact (((h.pop (by assumption)).pop (by assumption)).pop (by assumption)).pop (by assumption) | exact Sys.anchor (by assumption) h (by simp) (by simp))
      simp only [Bool.false_eq_true, false_iff]
      rintro ⟨h6, h7⟩
      have := hok.2 ⟨h6, fun j hj => h7 j (by omega)⟩
      rw [h] at this; cases this
  · have hge : k = s.fil.length := by simp at h4; omega
    subst hge
    repeat (any_goals (first | (refine M0 ?_; first | refine O0 ?_ | refine z1 tok rfl ?_ | refine O1 rfl ?_ rfl | refine O2 rfl ?_ | refine O3 rfl ?_ rfl | (refine XL.split _ _ rfl (fun h => ?_) (fun h => ?_) <;> rw [h]) | refine O4 rfl rfl rfl (fun _ _ => ?_) | refine O5 tok rfl rfl rfl (fun _ _ => ?_) | refine U0 _ (U2 rfl) rfl ?_ | refine U0 _ (U3 tok rfl rfl rfl rfl rfl) rfl ?_ | refine z3 tok rfl ?_ | refine U0 _ (U4 rfl rfl) rfl ?_ | refine U0 _ (U5 rfl rfl) rfl ?_) | (refine M1 ?_; first | refine J0 ?_ | refine J1 ?_ | refine J2 mixed rfl (by kernel_rfl) ?_ | refine J3 mixed rfl rfl (by kernel_rfl) ?_ | refine J4 ?_ | refine J5 ?_ | refine J6 ?_ | refine J7 ?_ | refine J8 rfl ?_ | refine J9 rfl ?_ | refine XC.cond _ rfl (fun h => ?_) (fun h => ?_)) | (refine M2 ?_; first | refine I0 ?_ | refine I1 ?_ | refine I2 ?_ | refine I3 ?_ | refine I4 ?_ | refine I5 ?_ | refine I6 rfl ?_ | refine I7 ?_ | refine I8 ?_ | refine z4 ?_) | (refine M3 ?_; first | refine O6 ?_ | refine z2 tok rfl ?_ | refine O8 rfl ?_ | refine O7 rfl ?_ rfl | refine O9 rfl ?_ rfl | (refine Fw.split _ _ rfl (fun h => ?_) (fun h => ?_) <;> rw [h]) | refine U1 _ (U4 rfl rfl) rfl ?_ | refine U1 _ (U5 rfl rfl) rfl ?_ | refine U1 _ (U2 rfl) rfl ?_ | refine U1 _ (U3 tok rfl rfl rfl rfl rfl) rfl ?_) | (refine M4 ?_; first | refine M6 ?_ | refine U6 rfl (by kernel_rfl) ?_ | refine U7 (by kernel_rfl) ?_) | (refine M5 ?_; first | exact M7 | refine U8 rfl ?_ | refine U9 rfl rfl ?_ ?_)))
    · refine XE.retg tok Tryd.results20 rfl (by simp only [and_self, and_true]) (fun w' S => ?_)
      refine ⟨?_, S.toBelow⟩
      have hne : ¬ (outB s.vol (b.row 0).vol 1000000000 = false ∧ ∀ j, j < s.fil.length → outB (s.f j) 0 (b.pol j).room = false) := fun hx => by rw [hok.2 hx] at h; cases h
      rw [staErr_7 hc hl]
      · rfl
      · cases hx : outB s.vol (b.row 0).vol 1000000000 with
        | true => exact .inl hx
        | false =>
          refine .inr (Classical.byContradiction fun hn => hne ⟨hx, fun j hj => ?_⟩)
          cases hy : outB (s.f j) 0 (b.pol j).room with
          | false => rfl
          | true => exact absurd ⟨j, by omega, hy⟩ hn
    · refine XE.retg tok Tryd.results20 rfl (by simp only [and_self, and_true]) (fun w' S => ?_)
      refine ⟨?_, S.toBelow⟩
      have h5 := hok.1 (by simpa using h)
      rw [staErr_0 hc hl]
      · rfl
      · rintro (hx | ⟨i, hi, hx⟩)
        · rw [h5.1] at hx; cases hx
        · rw [h5.2 i (by omega)] at hx; cases hx
/-! ### the water -/
def watC (p : BV) (b : Bas) (q : SV) (s : Sta) (t : Tick) (r : SV) (f : Flo) : List Value :=
  [.slice p.A p.n p.c, .int .i64 b.leak, .int .i64 b.crest, .int .i64 b.over, .slice p.A2 p.n2 p.c2, .int .i64 s.vol, .slice q.A q.n q.c, .int .i64 t.outer, .int .i64 t.river, .int .i64 t.out,
   .int .i64 f.river, .int .i64 f.over, .int .i64 f.leak, .int .i64 f.out, .slice r.A r.n r.c]
abbrev watO (p : BV) (b : Bas) (q : SV) (s : Sta) (t : Tick) (r : SV) (f : Flo) : Obj := cel 137 (watC p b q s t r f)
theorem Sys.same1 {B : Nat} {w w' : World} {g : Nat} {o : Obj} (h : w.heap[g]? = some o) (S : Sys B w [(g, o)] w') : Below w.heap.size w w' :=
  ⟨S.os, S.tape, S.output, S.size, fun k hk => by
    by_cases e : k = g
    · subst e; rw [(S.own (k, o) (by simp)).2, h]
    · exact S.old k hk fun x hx e1 => by simp only [List.mem_singleton] at hx; subst hx; exact e e1.symm⟩
section
variable {g : Nat} {p : BV} {b : Bas} {q r : SV} {s : Sta} {t : Tick} {f : Flo} {w : World}
theorem spill_any (h : w.heap[g]? = some (watO p b q s t r f)) :
    Calls Tryd.prog 116 #[.pointer (some ⟨g, 0, none⟩)] w fun e w' => e = .returned (.bool (decide (1000000000 < s.vol))) ∧ Below w.heap.size w w' := by
  simp only [watO, watC] at h
  refine enterL Tryd.func116 rfl Tryd.ntmps116 rfl (Sys.start1 (Nat.le_refl g) h) ?_; simp only [frame, Nat.zero_add, Nat.reduceAdd]
  refine XC.hint 0 0 ?_
  repeat (first | (refine M0 ?_; first | refine O0 ?_ | refine z1 tok rfl ?_ | refine O1 rfl ?_ rfl | refine O2 rfl ?_ | refine O3 rfl ?_ rfl | refine O4 rfl rfl rfl (fun _ _ => ?_) | refine O5 tok rfl rfl rfl (fun _ _ => ?_) | refine U0 _ (U2 rfl) rfl ?_ | refine U0 _ (U3 tok rfl rfl rfl rfl rfl) rfl ?_ | refine z3 tok rfl ?_ | refine U0 _ (U4 rfl rfl) rfl ?_ | refine U0 _ (U5 rfl rfl) rfl ?_) | (refine M1 ?_; first | refine J0 ?_ | refine J1 ?_ | refine J2 mixed rfl (by kernel_rfl) ?_ | refine J3 mixed rfl rfl (by kernel_rfl) ?_ | refine J4 ?_ | refine J5 ?_ | refine J6 ?_ | refine J7 ?_ | refine J8 rfl ?_ | refine J9 rfl ?_) | (refine M2 ?_; first | refine I0 ?_ | refine I1 ?_ | refine I2 ?_ | refine I3 ?_ | refine I4 ?_ | refine I5 ?_ | refine I6 rfl ?_ | refine I7 ?_ | refine I8 ?_ | refine z4 ?_) | (refine M3 ?_; first | refine O6 ?_ | refine z2 tok rfl ?_ | refine O8 rfl ?_ | refine O7 rfl ?_ rfl | refine O9 rfl ?_ rfl | refine U1 _ (U4 rfl rfl) rfl ?_ | refine U1 _ (U5 rfl rfl) rfl ?_ | refine U1 _ (U2 rfl) rfl ?_ | refine U1 _ (U3 tok rfl rfl rfl rfl rfl) rfl ?_) | (refine M4 ?_; first | refine M6 ?_ | refine U6 rfl (by kernel_rfl) ?_ | refine U7 (by kernel_rfl) ?_) | (refine M5 ?_; first | exact M7 | refine U8 rfl ?_ | refine U9 rfl rfl ?_ ?_))
  refine XE.retg tok Tryd.results116 rfl (by simp only [and_self, and_true]) (fun w' S => ?_)
  exact ⟨rfl, S.same1 h⟩
end
end Go.Proofs.YtoiepgcjinccpaaDoor.X
/-
  The plain words of layer 4: a tick.
-/
namespace Go.Proofs.YtoiepgcjinccpaaDoor.Bs
set_option linter.unusedVariables false
def Bas.v0 (b : Bas) : Int := (b.row 0).vol
/-- what leaks. -/
def leakQ (b : Bas) (outer v : Int) : Int := b.leak * (-(num b v) - (-outer) * den b v) / den b v
def leakOf (b : Bas) (outer v : Int) : Int := max (leakQ b outer v) (b.v0 - v)
/-- what polder i takes of the volume v, if so much has filled it. -/
def takeOf (b : Bas) (i : Nat) (v fil : Int) : Int := if (b.pol i).sill * den b v < num b v then min ((b.pol i).take * (num b v - (b.pol i).sill * den b v) / den b v) ((b.pol i).room - fil) else 0
/-- the volume when k polders have been flooded. -/
def polV (b : Bas) (s : Sta) (v : Int) : Nat → Int
  | 0 => v
  | k + 1 => polV b s v k - takeOf b k (polV b s v k) (s.f k)
def polT (b : Bas) (s : Sta) (v : Int) (k : Nat) : Int := takeOf b k (polV b s v k) (s.f k)
def rg (n : Nat) (f : Nat → Int) : List Int := (List.range n).map f
theorem rg_len (n : Nat) (f : Nat → Int) : (rg n f).length = n := by simp [rg]
theorem rg_at {n : Nat} {f : Nat → Int} {i : Nat} (h : i < n) : (rg n f)[i]?.getD 0 = f i := by simp [rg, h]
theorem rg_succ (n : Nat) (f : Nat → Int) : rg (n + 1) f = rg n f ++ [f n] := by simp [rg, List.range_succ]
section
variable (b : Bas) (s : Sta) (t : Tick)
def tickBad : Bool := highB t.outer || (outB t.river 0 10000000 || outB t.out 0 10000000)
def vol1 : Int := s.vol + t.river
def overOf : Int := b.over * max 0 (t.outer - b.crest)
def vol2 : Int := vol1 s t + overOf b t
def vol3 : Int := vol2 b s t + leakOf b t.outer (vol2 b s t)
def outOf : Int := min t.out (vol3 b s t - b.v0)
def vol4 : Int := vol3 b s t - outOf b s t
def stepE : Int := if tickBad t then 7 else if 1000000000 < vol1 s t then 3 else if 1000000000 < vol2 b s t then 3 else if 1000000000 < vol3 b s t then 3 else 0
def stepS : Sta := ⟨polV b s (vol4 b s t) b.pols.length, rg b.pols.length fun i => s.f i + polT b s (vol4 b s t) i⟩
def stepF : Flo := ⟨t.river, overOf b t, leakOf b t.outer (vol2 b s t), outOf b s t, rg b.pols.length fun i => polT b s (vol4 b s t) i⟩
end
theorem great_le (b : Bas) : ∀ (n i : Nat), i < n → (b.pol i).take ≤ great b n := by
  intro n
  induction n with
  | zero => intro i h; omega
  | succ n ih =>
    intro i h
    unfold great
    by_cases e : i = n
    · subst e; omega
    · have := ih i (by omega); omega
theorem great_leak (b : Bas) : ∀ n, b.leak ≤ great b n := by
  intro n
  induction n with
  | zero => simp [great]
  | succ n ih => unfold great; omega
section
variable {b : Bas} (h : Ok b)
include h
theorem great_bd : 0 ≤ great b b.pols.length ∧ great b b.pols.length ≤ 10000 := by
  have : ∀ n, n ≤ b.pols.length → 0 ≤ great b n ∧ great b n ≤ 10000 := by
    intro n
    induction n with
    | zero => intro _; exact h.leak
    | succ n ih => intro hn; have := ih (by omega); have := h.take n (by omega); unfold great; omega
  exact this _ (Nat.le_refl _)
theorem wide_rows : ∀ i, i < b.rows.length → great b b.pols.length * ((b.row i).level - (b.row 0).level) ≤ (b.row i).vol - (b.row 0).vol := by
  intro i
  induction i with
  | zero => intro _; simp
  | succ i ih =>
    intro hi
    have h1 := ih (by omega)
    have h2 := h.wide i hi
    unfold wideAt at h2
    have e : great b b.pols.length * ((b.row (i + 1)).level - (b.row 0).level) = great b b.pols.length * ((b.row i).level - (b.row 0).level) + great b b.pols.length * ((b.row (i + 1)).level - (b.row i).level) := by rw [← Int.mul_add]; congr 1; omega
    omega
omit h in
theorem alg1 (G a a0 x dl d : Int) : G * ((a * d + x * dl) - a0 * d) = (G * (a - a0)) * d + x * (G * dl) := by grind
/-- so much above the first row's level is at most so much above its volume. -/
theorem wide_key {v : Int} (hv : b.v0 ≤ v) : great b b.pols.length * (num b v - (b.row 0).level * den b v) ≤ (v - b.v0) * den b v := by
  have hs := seg_lt h.rowsOk v
  have h1 := wide_rows h (seg b v) (by omega)
  have h2 := h.wide (seg b v) hs
  unfold wideAt at h2
  have h3 := seg_vol (b := b) (v := v) hv
  have hd := den_pos h.rowsOk v
  obtain ⟨G, hG⟩ : ∃ G, G = great b b.pols.length := ⟨_, rfl⟩
  rw [← hG] at h1 h2 ⊢
  have e : G * (num b v - (b.row 0).level * den b v) = (G * ((b.row (seg b v)).level - (b.row 0).level)) * den b v + (v - (b.row (seg b v)).vol) * (G * ((b.row (seg b v + 1)).level - (b.row (seg b v)).level)) := by
    unfold num
    exact alg1 _ _ _ _ _ _
  rw [e]
  have h4 : (G * ((b.row (seg b v)).level - (b.row 0).level)) * den b v ≤ ((b.row (seg b v)).vol - (b.row 0).vol) * den b v := Int.mul_le_mul_of_nonneg_right h1 (by omega)
  have h5 : (v - (b.row (seg b v)).vol) * (G * ((b.row (seg b v + 1)).level - (b.row (seg b v)).level)) ≤ (v - (b.row (seg b v)).vol) * den b v := Int.mul_le_mul_of_nonneg_left h2 (by omega)
  have h6 : (v - b.v0) * den b v = ((b.row (seg b v)).vol - (b.row 0).vol) * den b v + (v - (b.row (seg b v)).vol) * den b v := by
    rw [← Int.add_mul]; congr 1; unfold Bas.v0; omega
  omega
/-- the bounds of what a polder takes. -/
theorem takeOf_bd {v : Int} (hv : b.v0 ≤ v ∧ v ≤ 1000000000) {i : Nat} (hi : i < b.pols.length) {fil : Int} (hf : 0 ≤ fil ∧ fil ≤ (b.pol i).room) :
    0 ≤ takeOf b i v fil ∧ takeOf b i v fil ≤ v - b.v0 ∧ takeOf b i v fil ≤ (b.pol i).room - fil := by
  unfold takeOf
  have hd := den_pos h.rowsOk v
  have ht := h.take i hi
  have hsl := h.sill i hi
  by_cases hc : (b.pol i).sill * den b v < num b v
  · rw [if_pos hc]
    have h1 : 0 ≤ (b.pol i).take * (num b v - (b.pol i).sill * den b v) := Int.mul_nonneg ht.1 (by omega)
    have h2 : 0 ≤ (b.pol i).take * (num b v - (b.pol i).sill * den b v) / den b v := Int.ediv_nonneg h1 (by omega)
    have h3 : (b.pol i).take * (num b v - (b.pol i).sill * den b v) / den b v ≤ v - b.v0 := by
      have h4 := wide_key h hv.1
      have h5 : (b.row 0).level * den b v ≤ (b.pol i).sill * den b v := Int.mul_le_mul_of_nonneg_right hsl.1 (by omega)
      have h6 : (b.pol i).take * (num b v - (b.pol i).sill * den b v) ≤ great b b.pols.length * (num b v - (b.row 0).level * den b v) :=
        Int.le_trans (Int.mul_le_mul_of_nonneg_right (great_le b _ i hi) (by omega)) (Int.mul_le_mul_of_nonneg_left (by omega) (great_bd h).1)
      have h7 : (b.pol i).take * (num b v - (b.pol i).sill * den b v) / den b v ≤ (v - b.v0) * den b v / den b v := Int.ediv_le_ediv (by omega) (by omega)
      rw [Int.mul_ediv_cancel _ (by omega)] at h7
      exact h7
    omega
  · rw [if_neg hc]; omega
theorem polV_bd {s : Sta} (hs : StaOk b s) {v : Int} (hv : b.v0 ≤ v ∧ v ≤ 1000000000) : ∀ k, k ≤ b.pols.length → b.v0 ≤ polV b s v k ∧ polV b s v k ≤ v := by
  intro k
  induction k with
  | zero => intro _; simp [polV]; exact hv.1
  | succ k ih =>
    intro hk
    have h1 := ih (by omega)
    have h2 := takeOf_bd h (v := polV b s v k) (by omega) (i := k) (by omega) (hs.fil k (by omega))
    unfold polV; omega
theorem v0_bd : 0 ≤ b.v0 ∧ b.v0 ≤ 1000000000 := h.vol 0 (by have := h.n2; omega)
/-- where no error is: the volumes. -/
structure StepOk (b : Bas) (s : Sta) (t : Tick) : Prop where
  outer : -20000 ≤ t.outer ∧ t.outer ≤ 20000
  river : 0 ≤ t.river ∧ t.river ≤ 10000000
  out : 0 ≤ t.out ∧ t.out ≤ 10000000
  v1 : b.v0 ≤ vol1 s t ∧ vol1 s t ≤ 1000000000
  v2 : b.v0 ≤ vol2 b s t ∧ vol2 b s t ≤ 1000000000
  v3 : b.v0 ≤ vol3 b s t ∧ vol3 b s t ≤ 1000000000
  v4 : b.v0 ≤ vol4 b s t ∧ vol4 b s t ≤ 1000000000
theorem over_bd (t : Tick) (ht : -20000 ≤ t.outer ∧ t.outer ≤ 20000) : 0 ≤ overOf b t ∧ overOf b t ≤ 400000000 := by
  have h1 := h.over
  have h2 := h.crest
  have h3 := mul_bd (X := 10000) (Y := 40000) (x := b.over) (y := max 0 (t.outer - b.crest)) (by omega) (by omega)
  have h4 : 0 ≤ b.over * max 0 (t.outer - b.crest) := Int.mul_nonneg h1.1 (by omega)
  unfold overOf; omega
theorem stepOk_of {s : Sta} (hs : StaOk b s) {t : Tick} (he : stepE b s t = 0) : StepOk b s t := by
  unfold stepE at he
  split at he
  · cases he
  · rename_i h1
    simp only [tickBad, Bool.or_eq_true, not_or, Bool.not_eq_true] at h1
    have o1 := outB_f.1 h1.1
    have o2 := outB_f.1 h1.2.1
    have o3 := outB_f.1 h1.2.2
    split at he
    · cases he
    · split at he
      · cases he
      · split at he
        · cases he
        · have hv := hs.vol
          have h0 := v0_bd h
          have ho := over_bd h t o1
          have hl : b.v0 - vol2 b s t ≤ leakOf b t.outer (vol2 b s t) := by unfold leakOf; omega
          have hv1 : b.v0 ≤ vol1 s t := by unfold vol1; unfold Bas.v0; omega
          have hv2 : b.v0 ≤ vol2 b s t := by unfold vol2; omega
          have hv3 : b.v0 ≤ vol3 b s t := by unfold vol3; omega
          have hv4 : b.v0 ≤ vol4 b s t ∧ vol4 b s t ≤ vol3 b s t := by unfold vol4 outOf; omega
          exact ⟨o1, o2, o3, by omega, by omega, by omega, by omega⟩
/-- behind a tick the state is one of the basin's. -/
theorem stepS_ok {s : Sta} (hs : StaOk b s) {t : Tick} (he : stepE b s t = 0) : StaOk b (stepS b s t) := by
  have hk := stepOk_of h hs he
  have h1 := polV_bd h hs hk.v4
  refine ⟨by simp [stepS, rg_len], ?_, fun i hi => ?_⟩
  · have := h1 _ (Nat.le_refl _); have := hk.v4; simp only [stepS, Bas.v0] at *; omega
  · have e : (stepS b s t).f i = s.f i + polT b s (vol4 b s t) i := by simp only [stepS, Sta.f]; exact rg_at hi
    have h2 := h1 i (by omega)
    have h3 := takeOf_bd h (v := polV b s (vol4 b s t) i) (by have := hk.v4; omega) hi (hs.fil i hi)
    have h4 := hs.fil i hi
    rw [e]; unfold polT; omega
theorem leakQ_bd {v outer : Int} (hv : b.v0 ≤ v ∧ v ≤ 1000000000) (ho : -20000 ≤ outer ∧ outer ≤ 20000) :
    (-20000000000000 ≤ (-outer) * den b v ∧ (-outer) * den b v ≤ 20000000000000) ∧ (-900000000000000000 ≤ b.leak * (-(num b v) - (-outer) * den b v) ∧ b.leak * (-(num b v) - (-outer) * den b v) ≤ 900000000000000000) ∧
    (-900000000000000000 ≤ leakQ b outer v ∧ leakQ b outer v ≤ 900000000000000000) := by
  have hd := den_pos h.rowsOk v
  have hn := num_bd h.rowsOk hv
  have m1 := mul_bd (X := 20000) (Y := 1000000000) (x := -outer) (y := den b v) (by omega) (by omega)
  have hl := h.leak
  have m2 := mul_bd (X := 10000) (Y := 90000000000000) (x := b.leak) (y := -(num b v) - (-outer) * den b v) (by omega) (by omega)
  have m3 := floor_bd (a := b.leak * (-(num b v) - (-outer) * den b v)) hd.1
  refine ⟨by omega, by omega, ?_⟩
  unfold leakQ; omega
theorem takeOver_bd {v : Int} (hv : b.v0 ≤ v ∧ v ≤ 1000000000) {i : Nat} (hi : i < b.pols.length) :
    (-20000000000000 ≤ (b.pol i).sill * den b v ∧ (b.pol i).sill * den b v ≤ 20000000000000) ∧ (-900000000000000000 ≤ (b.pol i).take * (num b v - (b.pol i).sill * den b v) ∧ (b.pol i).take * (num b v - (b.pol i).sill * den b v) ≤ 900000000000000000) := by
  have hd := den_pos h.rowsOk v
  have hn := num_bd h.rowsOk hv
  have ht := h.take i hi
  have hsl := h.sill i hi
  have hl := h.level 0 (by have := h.n2; omega)
  have m1 := mul_bd (X := 20000) (Y := 1000000000) (x := (b.pol i).sill) (y := den b v) (by omega) (by omega)
  have m2 := mul_bd (X := 10000) (Y := 90000000000000) (x := (b.pol i).take) (y := num b v - (b.pol i).sill * den b v) (by omega) (by omega)
  exact ⟨by omega, by omega⟩
end
end Go.Proofs.YtoiepgcjinccpaaDoor.Bs
/-
  The walks of the water's methods: least, river, over, leak, off.
-/
namespace Go.Proofs.YtoiepgcjinccpaaDoor.X
open Go Go.RowKit Go.Proofs.YtoiepgcjinccpaaDoor.Bs
set_option linter.unusedVariables false
section
variable {g : Nat} {p : BV} {b : Bas} {q r : SV} {s : Sta} {t : Tick} {f : Flo} {w : World}
theorem least_any (h : w.heap[g]? = some (watO p b q s t r f)) (hb : BasAt w g p b) (ho : Ok b) :
    Calls Tryd.prog 118 #[.pointer (some ⟨g, 0, none⟩)] w fun e w' => e = .returned (.int .i64 b.v0) ∧ Below w.heap.size w w' := by
  obtain ⟨A, n, c, A2, n2, c2⟩ := p
  have hn := hb.n_eq
  simp only at hn
  subst hn
  have h2 := ho.n2
  obtain ⟨ad, rfl, hlt⟩ := hb.rows.addr (by simp only; omega)
  simp only [watO, watC] at h
  refine enterL Tryd.func118 rfl Tryd.ntmps118 rfl (Sys.start1 (Nat.le_refl g) h) ?_; simp only [frame, Nat.zero_add, Nat.reduceAdd]
  refine XC.hint 0 0 ?_
  repeat (first | (refine M0 ?_; first | refine O0 ?_ | refine z1 tok rfl ?_ | refine O1 rfl ?_ rfl | refine O2 rfl ?_ | refine O3 rfl ?_ rfl | refine U0 _ (Ev.load_old tok rfl rfl (add_lt2 hlt) (hb.rowVol (i := 0) (by omega))) rfl ?_ | refine O4 rfl rfl rfl (fun _ _ => ?_) | refine O5 tok rfl rfl rfl (fun _ _ => ?_) | refine U0 _ (U2 rfl) rfl ?_ | refine U0 _ (U3 tok rfl rfl rfl rfl rfl) rfl ?_ | refine z3 tok rfl ?_ | refine U0 _ (U4 rfl rfl) rfl ?_ | refine U0 _ (U5 rfl rfl) rfl ?_) | (refine M1 ?_; first | refine J0 ?_ | refine J1 ?_ | refine J2 mixed rfl (by kernel_rfl) ?_ | refine J3 mixed rfl rfl (by kernel_rfl) ?_ | refine J4 ?_ | refine J5 ?_ | refine J6 ?_ | refine J7 ?_ | refine J8 rfl ?_ | refine J9 rfl ?_) | (refine M2 ?_; first | refine I0 ?_ | refine I1 ?_ | refine I2 ?_ | refine I3 ?_ | refine I4 ?_ | refine I5 ?_ | refine I6 rfl ?_ | refine I7 ?_ | refine I8 ?_ | refine z4 ?_) | (refine M3 ?_; first | refine O6 ?_ | refine z2 tok rfl ?_ | refine O8 rfl ?_ | refine O7 rfl ?_ rfl | refine O9 rfl ?_ rfl | refine U1 _ (Ev.load_old tok rfl rfl (add_lt2 hlt) (hb.rowVol (i := 0) (by omega))) rfl ?_ | refine U1 _ (U4 rfl rfl) rfl ?_ | refine U1 _ (U5 rfl rfl) rfl ?_ | refine U1 _ (U2 rfl) rfl ?_ | refine U1 _ (U3 tok rfl rfl rfl rfl rfl) rfl ?_) | (refine M4 ?_; first | refine M6 ?_ | refine U6 rfl (by kernel_rfl) ?_ | refine U7 (by kernel_rfl) ?_) | (refine M5 ?_; first | exact M7 | refine U8 rfl ?_ | refine U9 rfl rfl ?_ ?_))
  refine XE.retg tok Tryd.results118 rfl (by simp only [and_self, and_true]) (fun w' S => ?_)
  exact ⟨rfl, S.same1 h⟩
theorem river_any (h : w.heap[g]? = some (watO p b q s t r f)) (h1 : i64in (s.vol + t.river)) :
    Calls Tryd.prog 86 #[.pointer (some ⟨g, 0, none⟩)] w fun e w' => e = .returned (.bool (!decide (1000000000 < s.vol + t.river))) ∧ Sys g w [(g, watO p b q { s with vol := s.vol + t.river } t r { f with river := t.river })] w' := by
  have h' := h
  simp only [watO, watC] at h
  refine enterL Tryd.func86 rfl Tryd.ntmps86 rfl (Sys.start1 (Nat.le_refl g) h) ?_; simp only [frame, Nat.zero_add, Nat.reduceAdd]
  refine XC.hint 0 0 ?_
  repeat (first | (refine M0 ?_; first | refine O0 ?_ | refine z1 tok rfl ?_ | refine O1 rfl ?_ rfl | refine O2 rfl ?_ | refine O3 rfl ?_ rfl | refine O4 rfl rfl rfl (fun _ _ => ?_) | refine O5 tok rfl rfl rfl (fun _ _ => ?_) | refine U0 _ (U2 rfl) rfl ?_ | refine U0 _ (U3 tok rfl rfl rfl rfl rfl) rfl ?_ | refine z3 tok rfl ?_ | refine U0 _ (U4 rfl rfl) rfl ?_ | refine U0 _ (U5 rfl rfl) rfl ?_) | (refine M1 ?_; first | refine J0 ?_ | refine J1 ?_ | refine J2 mixed rfl (by kernel_rfl) ?_ | refine J3 mixed rfl rfl (by kernel_rfl) ?_ | refine J4 ?_ | refine J5 ?_ | refine J6 ?_ | refine J7 ?_ | refine J8 rfl ?_ | refine J9 rfl ?_) | (refine M2 ?_; first | refine I0 ?_ | refine I1 ?_ | refine I2 ?_ | refine I3 ?_ | refine I4 ?_ | refine I5 ?_ | refine I6 rfl ?_ | refine I7 ?_ | refine I8 ?_ | refine z4 ?_) | (refine M3 ?_; first | refine O6 ?_ | refine z2 tok rfl ?_ | refine O8 rfl ?_ | refine O7 rfl ?_ rfl | refine O9 rfl ?_ rfl | refine U1 _ (U4 rfl rfl) rfl ?_ | refine U1 _ (U5 rfl rfl) rfl ?_ | refine U1 _ (U2 rfl) rfl ?_ | refine U1 _ (U3 tok rfl rfl rfl rfl rfl) rfl ?_) | (refine M4 ?_; first | refine M6 ?_ | refine U6 rfl (by kernel_rfl) ?_ | refine U7 (by kernel_rfl) ?_) | (refine M5 ?_; first | exact M7 | refine U8 rfl ?_ | refine U9 rfl rfl ?_ ?_))
  refine XL.step _ (Ev.call (f := 116) (ck rfl) rfl (fun w S => (spill_any (p := p) (b := b) (q := q) (s := { s with vol := s.vol + t.river }) (t := t) (r := r) (f := { f with river := t.river }) (S.obj (i := 0) rfl) :))) rfl ?_
  repeat (first | (refine M0 ?_; first | refine O0 ?_ | refine z1 tok rfl ?_ | refine O1 rfl ?_ rfl | refine O2 rfl ?_ | refine O3 rfl ?_ rfl | refine O4 rfl rfl rfl (fun _ _ => ?_) | refine O5 tok rfl rfl rfl (fun _ _ => ?_) | refine U0 _ (U2 rfl) rfl ?_ | refine U0 _ (U3 tok rfl rfl rfl rfl rfl) rfl ?_ | refine z3 tok rfl ?_ | refine U0 _ (U4 rfl rfl) rfl ?_ | refine U0 _ (U5 rfl rfl) rfl ?_) | (refine M1 ?_; first | refine J0 ?_ | refine J1 ?_ | refine J2 mixed rfl (by kernel_rfl) ?_ | refine J3 mixed rfl rfl (by kernel_rfl) ?_ | refine J4 ?_ | refine J5 ?_ | refine J6 ?_ | refine J7 ?_ | refine J8 rfl ?_ | refine J9 rfl ?_) | (refine M2 ?_; first | refine I0 ?_ | refine I1 ?_ | refine I2 ?_ | refine I3 ?_ | refine I4 ?_ | refine I5 ?_ | refine I6 rfl ?_ | refine I7 ?_ | refine I8 ?_ | refine z4 ?_) | (refine M3 ?_; first | refine O6 ?_ | refine z2 tok rfl ?_ | refine O8 rfl ?_ | refine O7 rfl ?_ rfl | refine O9 rfl ?_ rfl | refine U1 _ (U4 rfl rfl) rfl ?_ | refine U1 _ (U5 rfl rfl) rfl ?_ | refine U1 _ (U2 rfl) rfl ?_ | refine U1 _ (U3 tok rfl rfl rfl rfl rfl) rfl ?_) | (refine M4 ?_; first | refine M6 ?_ | refine U6 rfl (by kernel_rfl) ?_ | refine U7 (by kernel_rfl) ?_) | (refine M5 ?_; first | exact M7 | refine U8 rfl ?_ | refine U9 rfl rfl ?_ ?_))
  refine XE.retg tok Tryd.results86 rfl (by simp only [and_self, and_true]) (fun w' S => ?_)
  exact ⟨rfl, S⟩
theorem over_run (h : w.heap[g]? = some (watO p b q s t r f)) (ho : Ok b) (ht : -20000 ≤ t.outer ∧ t.outer ≤ 20000) (hv : 0 ≤ s.vol ∧ s.vol ≤ 1000000000) :
    Calls Tryd.prog 87 #[.pointer (some ⟨g, 0, none⟩)] w fun e w' => e = .returned (.bool (!decide (1000000000 < s.vol + overOf b t))) ∧ Sys g w [(g, watO p b q { s with vol := s.vol + overOf b t } t r { f with over := overOf b t })] w' := by
  have h' := h
  have hc := ho.crest
  have hbd := over_bd ho t ht
  have h1 : i64in (overOf b t) := by unfold i64in; omega
  have h2 : i64in (b.over * max 0 (t.outer - b.crest)) := h1
  have h3 : i64in (s.vol + b.over * max 0 (t.outer - b.crest)) := by have : i64in (s.vol + overOf b t) := by unfold i64in; omega
                                                                     exact this
  simp only [watO, watC] at h
  refine enterL Tryd.func87 rfl Tryd.ntmps87 rfl (Sys.start1 (Nat.le_refl g) h) ?_; simp only [frame, Nat.zero_add, Nat.reduceAdd]
  refine XC.hint 0 0 ?_
  repeat (first | (refine M0 ?_; first | refine O0 ?_ | refine z1 tok rfl ?_ | refine O1 rfl ?_ rfl | refine O2 rfl ?_ | refine O3 rfl ?_ rfl | refine O4 rfl rfl rfl (fun _ _ => ?_) | refine O5 tok rfl rfl rfl (fun _ _ => ?_) | refine U0 _ (U2 rfl) rfl ?_ | refine U0 _ (U3 tok rfl rfl rfl rfl rfl) rfl ?_ | refine z3 tok rfl ?_ | refine U0 _ (U4 rfl rfl) rfl ?_ | refine U0 _ (U5 rfl rfl) rfl ?_) | (refine M1 ?_; first | refine J0 ?_ | refine J1 ?_ | refine J2 mixed rfl (by kernel_rfl) ?_ | refine J3 mixed rfl rfl (by kernel_rfl) ?_ | refine J4 ?_ | refine J5 ?_ | refine J6 ?_ | refine J7 ?_ | refine J8 rfl ?_ | refine J9 rfl ?_) | (refine M2 ?_; first | refine I0 ?_ | refine I1 ?_ | refine I2 ?_ | refine I3 ?_ | refine I4 ?_ | refine I5 ?_ | refine I6 rfl ?_ | refine I7 ?_ | refine I8 ?_ | refine z4 ?_) | (refine M3 ?_; first | refine O6 ?_ | refine z2 tok rfl ?_ | refine O8 rfl ?_ | refine O7 rfl ?_ rfl | refine O9 rfl ?_ rfl | refine U1 _ (U4 rfl rfl) rfl ?_ | refine U1 _ (U5 rfl rfl) rfl ?_ | refine U1 _ (U2 rfl) rfl ?_ | refine U1 _ (U3 tok rfl rfl rfl rfl rfl) rfl ?_) | (refine M4 ?_; first | refine M6 ?_ | refine U6 rfl (by kernel_rfl) ?_ | refine U7 (by kernel_rfl) ?_) | (refine M5 ?_; first | exact M7 | refine U8 rfl ?_ | refine U9 rfl rfl ?_ ?_))
  refine XL.step _ (Ev.call (f := 116) (ck rfl) rfl (fun w S => (spill_any (p := p) (b := b) (q := q) (s := { s with vol := s.vol + overOf b t }) (t := t) (r := r) (f := { f with over := overOf b t }) (S.obj (i := 0) rfl) :))) rfl ?_
  repeat (first | (refine M0 ?_; first | refine O0 ?_ | refine z1 tok rfl ?_ | refine O1 rfl ?_ rfl | refine O2 rfl ?_ | refine O3 rfl ?_ rfl | refine O4 rfl rfl rfl (fun _ _ => ?_) | refine O5 tok rfl rfl rfl (fun _ _ => ?_) | refine U0 _ (U2 rfl) rfl ?_ | refine U0 _ (U3 tok rfl rfl rfl rfl rfl) rfl ?_ | refine z3 tok rfl ?_ | refine U0 _ (U4 rfl rfl) rfl ?_ | refine U0 _ (U5 rfl rfl) rfl ?_) | (refine M1 ?_; first | refine J0 ?_ | refine J1 ?_ | refine J2 mixed rfl (by kernel_rfl) ?_ | refine J3 mixed rfl rfl (by kernel_rfl) ?_ | refine J4 ?_ | refine J5 ?_ | refine J6 ?_ | refine J7 ?_ | refine J8 rfl ?_ | refine J9 rfl ?_) | (refine M2 ?_; first | refine I0 ?_ | refine I1 ?_ | refine I2 ?_ | refine I3 ?_ | refine I4 ?_ | refine I5 ?_ | refine I6 rfl ?_ | refine I7 ?_ | refine I8 ?_ | refine z4 ?_) | (refine M3 ?_; first | refine O6 ?_ | refine z2 tok rfl ?_ | refine O8 rfl ?_ | refine O7 rfl ?_ rfl | refine O9 rfl ?_ rfl | refine U1 _ (U4 rfl rfl) rfl ?_ | refine U1 _ (U5 rfl rfl) rfl ?_ | refine U1 _ (U2 rfl) rfl ?_ | refine U1 _ (U3 tok rfl rfl rfl rfl rfl) rfl ?_) | (refine M4 ?_; first | refine M6 ?_ | refine U6 rfl (by kernel_rfl) ?_ | refine U7 (by kernel_rfl) ?_) | (refine M5 ?_; first | exact M7 | refine U8 rfl ?_ | refine U9 rfl rfl ?_ ?_))
  refine XE.retg tok Tryd.results87 rfl (by simp only [and_self, and_true]) (fun w' S => ?_)
  exact ⟨rfl, S⟩
theorem ratio_con : conB (Tryd.prog.underlying 113) = true := by kernel_rfl
theorem over_m : methO Tryd.prog 113 "barrage/basin.over" = some 150 := by kernel_rfl
theorem above_m : methO Tryd.prog 113 "barrage/basin.above" = some 94 := by kernel_rfl
theorem span_m : methO Tryd.prog 113 "barrage/basin.span" = some 151 := by kernel_rfl
set_option maxHeartbeats 4000000 in
theorem leak_any (h : w.heap[g]? = some (watO p b q s t r f)) (hb : BasAt w g p b) (ho : Ok b) (ht : -20000 ≤ t.outer ∧ t.outer ≤ 20000) (hv : b.v0 ≤ s.vol ∧ s.vol ≤ 1000000000) :
    Calls Tryd.prog 88 #[.pointer (some ⟨g, 0, none⟩)] w fun e w' => e = .returned (.bool (!decide (1000000000 < s.vol + leakOf b t.outer s.vol))) ∧ Sys g w [(g, watO p b q { s with vol := s.vol + leakOf b t.outer s.vol } t r { f with leak := leakOf b t.outer s.vol })] w' := by
  have h' := h
  have hlt := (Array.getElem?_eq_some_iff.1 h).1
  have hd := den_pos ho.rowsOk s.vol
  have hn := num_bd ho.rowsOk hv
  have h0 := v0_bd ho
  obtain ⟨k1, k2, k3⟩ := leakQ_bd ho hv ht
  have k4 : i64in (-(num b s.vol)) := by unfold i64in; omega
  have k5 : i64in (s.vol + leakOf b t.outer s.vol) := by unfold i64in leakOf; omega
  have k6 : i64in (s.vol + max (leakQ b t.outer s.vol) (b.v0 - s.vol)) := k5
  simp only [watO, watC] at h
  refine enterL Tryd.func88 rfl Tryd.ntmps88 rfl (Sys.start1 (Nat.le_refl g) h) ?_; simp only [frame, Nat.zero_add, Nat.reduceAdd]
  refine XC.hint 0 0 ?_
  repeat (first | (refine M0 ?_; first | refine O0 ?_ | refine z1 tok rfl ?_ | refine O1 rfl ?_ rfl | refine O2 rfl ?_ | refine O3 rfl ?_ rfl | refine U0 _ (Ev.call (f := 67) (ck rfl) rfl (fun w S => (exact_any (p := p) (hb.sys S) ho.rowsOk hv :))) rfl ?_ | refine U0 _ (Ev.call (f := 117) (ck rfl) rfl (fun w S => (minus_any (n := num b s.vol) (d := den b s.vol) k4 w :))) rfl ?_ | refine U0 _ (Ev.makeI ratio_con rfl) rfl ?_ | refine O4 rfl rfl rfl (fun _ _ => ?_) | refine O5 tok rfl rfl rfl (fun _ _ => ?_) | refine U0 _ (U2 rfl) rfl ?_ | refine U0 _ (U3 tok rfl rfl rfl rfl rfl) rfl ?_ | refine z3 tok rfl ?_ | refine U0 _ (U4 rfl rfl) rfl ?_ | refine U0 _ (U5 rfl rfl) rfl ?_) | (refine M1 ?_; first | refine J0 ?_ | refine J1 ?_ | refine J2 mixed rfl (by kernel_rfl) ?_ | refine J3 mixed rfl rfl (by kernel_rfl) ?_ | refine J4 ?_ | refine J5 ?_ | refine J6 ?_ | refine J7 ?_ | refine J8 rfl ?_ | refine J9 rfl ?_) | (refine M2 ?_; first | refine I0 ?_ | refine I1 ?_ | refine I2 ?_ | refine I3 ?_ | refine I4 ?_ | refine I5 ?_ | refine I6 rfl ?_ | refine I7 ?_ | refine I8 ?_ | refine z4 ?_) | (refine M3 ?_; first | refine O6 ?_ | refine z2 tok rfl ?_ | refine O8 rfl ?_ | refine O7 rfl ?_ rfl | refine O9 rfl ?_ rfl | refine U1 _ (Ev.call (f := 67) (ck rfl) rfl (fun w S => (exact_any (p := p) (hb.sys S) ho.rowsOk hv :))) rfl ?_ | refine U1 _ (Ev.call (f := 117) (ck rfl) rfl (fun w S => (minus_any (n := num b s.vol) (d := den b s.vol) k4 w :))) rfl ?_ | refine U1 _ (Ev.makeI ratio_con rfl) rfl ?_ | refine U1 _ (U4 rfl rfl) rfl ?_ | refine U1 _ (U5 rfl rfl) rfl ?_ | refine U1 _ (U2 rfl) rfl ?_ | refine U1 _ (U3 tok rfl rfl rfl rfl rfl) rfl ?_) | (refine M4 ?_; first | refine M6 ?_ | refine U6 rfl (by kernel_rfl) ?_ | refine U7 (by kernel_rfl) ?_) | (refine M5 ?_; first | exact M7 | refine U8 rfl ?_ | refine U9 rfl rfl ?_ ?_))
  repeat (first | (refine M0 ?_; first | refine O0 ?_ | refine z1 tok rfl ?_ | refine O1 rfl ?_ rfl | refine O2 rfl ?_ | refine O3 rfl ?_ rfl | refine U0 _ (Ev.makeFunc rfl rfl) rfl ?_ | refine U0 _ (Ev.nilCheckM over_m rfl) rfl ?_ | refine U0 _ (Ev.invoke (t := 113) over_m (ck rfl) rfl rfl (fun w S => (over_any (n := -(num b s.vol)) (d := den b s.vol) (level := -t.outer) (rate := b.leak) hd.1 (by unfold i64in; omega) (by unfold i64in; omega) (by omega) w :))) rfl ?_ | refine U0 _ (Ev.call (f := 118) (ck rfl) rfl (fun w S => (least_any (p := p) (b := b) (q := q) (s := s) (t := t) (r := r) (f := f) (S.obj (i := 0) rfl) (hb.below S.toBelow) ho :))) rfl ?_ | refine O4 rfl rfl rfl (fun _ _ => ?_) | refine O5 tok rfl rfl rfl (fun _ _ => ?_) | refine U0 _ (U2 rfl) rfl ?_ | refine U0 _ (U3 tok rfl rfl rfl rfl rfl) rfl ?_ | refine z3 tok rfl ?_ | refine U0 _ (U4 rfl rfl) rfl ?_ | refine U0 _ (U5 rfl rfl) rfl ?_) | (refine M1 ?_; first | refine J0 ?_ | refine J1 ?_ | refine J2 mixed rfl (by kernel_rfl) ?_ | refine J3 mixed rfl rfl (by kernel_rfl) ?_ | refine J4 ?_ | refine J5 ?_ | refine J6 ?_ | refine J7 ?_ | refine J8 rfl ?_ | refine J9 rfl ?_) | (refine M2 ?_; first | refine I0 ?_ | refine I1 ?_ | refine I2 ?_ | refine I3 ?_ | refine I4 ?_ | refine I5 ?_ | refine I6 rfl ?_ | refine I7 ?_ | refine I8 ?_ | refine z4 ?_) | (refine M3 ?_; first | refine O6 ?_ | refine z2 tok rfl ?_ | refine O8 rfl ?_ | refine O7 rfl ?_ rfl | refine O9 rfl ?_ rfl | refine U1 _ (Ev.makeFunc rfl rfl) rfl ?_ | refine U1 _ (Ev.nilCheckM over_m rfl) rfl ?_ | refine U1 _ (Ev.invoke (t := 113) over_m (ck rfl) rfl rfl (fun w S => (over_any (n := -(num b s.vol)) (d := den b s.vol) (level := -t.outer) (rate := b.leak) hd.1 (by unfold i64in; omega) (by unfold i64in; omega) (by omega) w :))) rfl ?_ | refine U1 _ (Ev.call (f := 118) (ck rfl) rfl (fun w S => (least_any (p := p) (b := b) (q := q) (s := s) (t := t) (r := r) (f := f) (S.obj (i := 0) rfl) (hb.below S.toBelow) ho :))) rfl ?_ | refine U1 _ (U4 rfl rfl) rfl ?_ | refine U1 _ (U5 rfl rfl) rfl ?_ | refine U1 _ (U2 rfl) rfl ?_ | refine U1 _ (U3 tok rfl rfl rfl rfl rfl) rfl ?_) | (refine M4 ?_; first | refine M6 ?_ | refine U6 rfl (by kernel_rfl) ?_ | refine U7 (by kernel_rfl) ?_) | (refine M5 ?_; first | exact M7 | refine U8 rfl ?_ | refine U9 rfl rfl ?_ ?_))
  rw [show b.leak * (-(num b s.vol) - (-t.outer) * den b s.vol) / den b s.vol = leakQ b t.outer s.vol from rfl]
  repeat (first | (refine M0 ?_; first | refine O0 ?_ | refine z1 tok rfl ?_ | refine O1 rfl ?_ rfl | refine O2 rfl ?_ | refine O3 rfl ?_ rfl | refine O4 rfl rfl rfl (fun _ _ => ?_) | refine O5 tok rfl rfl rfl (fun _ _ => ?_) | refine U0 _ (U2 rfl) rfl ?_ | refine U0 _ (U3 tok rfl rfl rfl rfl rfl) rfl ?_ | refine z3 tok rfl ?_ | refine U0 _ (U4 rfl rfl) rfl ?_ | refine U0 _ (U5 rfl rfl) rfl ?_) | (refine M1 ?_; first | refine J0 ?_ | refine J1 ?_ | refine J2 mixed rfl (by kernel_rfl) ?_ | refine J3 mixed rfl rfl (by kernel_rfl) ?_ | refine J4 ?_ | refine J5 ?_ | refine J6 ?_ | refine J7 ?_ | refine J8 rfl ?_ | refine J9 rfl ?_) | (refine M2 ?_; first | refine I0 ?_ | refine I1 ?_ | refine I2 ?_ | refine I3 ?_ | refine I4 ?_ | refine I5 ?_ | refine I6 rfl ?_ | refine I7 ?_ | refine I8 ?_ | refine z4 ?_) | (refine M3 ?_; first | refine O6 ?_ | refine z2 tok rfl ?_ | refine O8 rfl ?_ | refine O7 rfl ?_ rfl | refine O9 rfl ?_ rfl | refine U1 _ (U4 rfl rfl) rfl ?_ | refine U1 _ (U5 rfl rfl) rfl ?_ | refine U1 _ (U2 rfl) rfl ?_ | refine U1 _ (U3 tok rfl rfl rfl rfl rfl) rfl ?_) | (refine M4 ?_; first | refine M6 ?_ | refine U6 rfl (by kernel_rfl) ?_ | refine U7 (by kernel_rfl) ?_) | (refine M5 ?_; first | exact M7 | refine U8 rfl ?_ | refine U9 rfl rfl ?_ ?_))
  refine XL.step _ (Ev.call (f := 116) (ck rfl) rfl (fun w S => (spill_any (p := p) (b := b) (q := q) (s := { s with vol := s.vol + leakOf b t.outer s.vol }) (t := t) (r := r) (f := { f with leak := leakOf b t.outer s.vol }) (S.obj (i := 0) rfl) :))) rfl ?_
  repeat (first | (refine M0 ?_; first | refine O0 ?_ | refine z1 tok rfl ?_ | refine O1 rfl ?_ rfl | refine O2 rfl ?_ | refine O3 rfl ?_ rfl | refine O4 rfl rfl rfl (fun _ _ => ?_) | refine O5 tok rfl rfl rfl (fun _ _ => ?_) | refine U0 _ (U2 rfl) rfl ?_ | refine U0 _ (U3 tok rfl rfl rfl rfl rfl) rfl ?_ | refine z3 tok rfl ?_ | refine U0 _ (U4 rfl rfl) rfl ?_ | refine U0 _ (U5 rfl rfl) rfl ?_) | (refine M1 ?_; first | refine J0 ?_ | refine J1 ?_ | refine J2 mixed rfl (by kernel_rfl) ?_ | refine J3 mixed rfl rfl (by kernel_rfl) ?_ | refine J4 ?_ | refine J5 ?_ | refine J6 ?_ | refine J7 ?_ | refine J8 rfl ?_ | refine J9 rfl ?_) | (refine M2 ?_; first | refine I0 ?_ | refine I1 ?_ | refine I2 ?_ | refine I3 ?_ | refine I4 ?_ | refine I5 ?_ | refine I6 rfl ?_ | refine I7 ?_ | refine I8 ?_ | refine z4 ?_) | (refine M3 ?_; first | refine O6 ?_ | refine z2 tok rfl ?_ | refine O8 rfl ?_ | refine O7 rfl ?_ rfl | refine O9 rfl ?_ rfl | refine U1 _ (U4 rfl rfl) rfl ?_ | refine U1 _ (U5 rfl rfl) rfl ?_ | refine U1 _ (U2 rfl) rfl ?_ | refine U1 _ (U3 tok rfl rfl rfl rfl rfl) rfl ?_) | (refine M4 ?_; first | refine M6 ?_ | refine U6 rfl (by kernel_rfl) ?_ | refine U7 (by kernel_rfl) ?_) | (refine M5 ?_; first | exact M7 | refine U8 rfl ?_ | refine U9 rfl rfl ?_ ?_))
  refine XE.retg tok Tryd.results88 rfl (by simp only [and_self, and_true]) (fun w' S => ?_)
  exact ⟨rfl, S⟩
theorem off_any (h : w.heap[g]? = some (watO p b q s t r f)) (hb : BasAt w g p b) (ho : Ok b) (ht : 0 ≤ t.out ∧ t.out ≤ 10000000) (hv : b.v0 ≤ s.vol ∧ s.vol ≤ 1000000000) :
    Calls Tryd.prog 89 #[.pointer (some ⟨g, 0, none⟩)] w fun e w' => e = .returned (.bool true) ∧ Sys g w [(g, watO p b q { s with vol := s.vol - min t.out (s.vol - b.v0) } t r { f with out := min t.out (s.vol - b.v0) })] w' := by
  have h' := h
  have hlt := (Array.getElem?_eq_some_iff.1 h).1
  have h0 := v0_bd ho
  have k5 : i64in (s.vol - min t.out (s.vol - b.v0)) := by unfold i64in; omega
  simp only [watO, watC] at h
  refine enterL Tryd.func89 rfl Tryd.ntmps89 rfl (Sys.start1 (Nat.le_refl g) h) ?_; simp only [frame, Nat.zero_add, Nat.reduceAdd]
  refine XC.hint 0 0 ?_
  repeat (first | (refine M0 ?_; first | refine O0 ?_ | refine z1 tok rfl ?_ | refine O1 rfl ?_ rfl | refine O2 rfl ?_ | refine O3 rfl ?_ rfl | refine U0 _ (Ev.call (f := 118) (ck rfl) rfl (fun w S => (least_any (p := p) (b := b) (q := q) (s := s) (t := t) (r := r) (f := f) (S.obj (i := 0) rfl) (hb.below S.toBelow) ho :))) rfl ?_ | refine O4 rfl rfl rfl (fun _ _ => ?_) | refine O5 tok rfl rfl rfl (fun _ _ => ?_) | refine U0 _ (U2 rfl) rfl ?_ | refine U0 _ (U3 tok rfl rfl rfl rfl rfl) rfl ?_ | refine z3 tok rfl ?_ | refine U0 _ (U4 rfl rfl) rfl ?_ | refine U0 _ (U5 rfl rfl) rfl ?_) | (refine M1 ?_; first | refine J0 ?_ | refine J1 ?_ | refine J2 mixed rfl (by kernel_rfl) ?_ | refine J3 mixed rfl rfl (by kernel_rfl) ?_ | refine J4 ?_ | refine J5 ?_ | refine J6 ?_ | refine J7 ?_ | refine J8 rfl ?_ | refine J9 rfl ?_) | (refine M2 ?_; first | refine I0 ?_ | refine I1 ?_ | refine I2 ?_ | refine I3 ?_ | refine I4 ?_ | refine I5 ?_ | refine I6 rfl ?_ | refine I7 ?_ | refine I8 ?_ | refine z4 ?_) | (refine M3 ?_; first | refine O6 ?_ | refine z2 tok rfl ?_ | refine O8 rfl ?_ | refine O7 rfl ?_ rfl | refine O9 rfl ?_ rfl | refine U1 _ (Ev.call (f := 118) (ck rfl) rfl (fun w S => (least_any (p := p) (b := b) (q := q) (s := s) (t := t) (r := r) (f := f) (S.obj (i := 0) rfl) (hb.below S.toBelow) ho :))) rfl ?_ | refine U1 _ (U4 rfl rfl) rfl ?_ | refine U1 _ (U5 rfl rfl) rfl ?_ | refine U1 _ (U2 rfl) rfl ?_ | refine U1 _ (U3 tok rfl rfl rfl rfl rfl) rfl ?_) | (refine M4 ?_; first | refine M6 ?_ | refine U6 rfl (by kernel_rfl) ?_ | refine U7 (by kernel_rfl) ?_) | (refine M5 ?_; first | exact M7 | refine U8 rfl ?_ | refine U9 rfl rfl ?_ ?_))
  refine XE.retg tok Tryd.results89 rfl (by simp only [and_self, and_true]) (fun w' S => ?_)
  exact ⟨rfl, S⟩
end
end Go.Proofs.YtoiepgcjinccpaaDoor.X
/-
  A walk by lemmas (12): elements of own blocks at a reckoned index; slices that are built; append to a slice of the call's own.
-/
namespace Go.Proofs.YtoiepgcjinccpaaDoor.X
open Go Go.RowKit
set_option linter.unusedVariables false
theorem setN_of_lt {α : Type} : ∀ (l : List α) (n : Nat) (x : α), n < l.length → setN l n x = some (l.set n x) := by
  intro l
  induction l with
  | nil => intro n x h; simp at h
  | cons a r ih => intro n x h; cases n with
    | zero => rfl
    | succ n => simp [setN, ih n x (by simpa using h)]
def elemOk (P : Program) (t e size bytes : Nat) : Bool :=
  match P.underlying t with
  | some (.slice e') => Nat.beq e' e && match P.info? e with
    | some i => Nat.beq i.size size && (Nat.beq i.bytes bytes && match i.zero with
      | some z => Nat.beq z.cells.size size
      | none => false)
    | none => false
  | _ => false
theorem elemOk_spec {P : Program} {t e size bytes : Nat} (h : elemOk P t e size bytes = true) : P.underlying t = some (.slice e) ∧ ∃ i z, P.info? e = some i ∧ i.zero = some z ∧ i.size = size ∧ i.bytes = bytes ∧ z.cells.size = size := by
  unfold elemOk at h
  split at h
  · rename_i e' hu
    simp only [Bool.and_eq_true] at h
    obtain ⟨h1, h2⟩ := h
    have := Nat.eq_of_beq_eq_true h1
    subst this
    refine ⟨hu, ?_⟩
    split at h2
    · rename_i i hi
      simp only [Bool.and_eq_true] at h2
      obtain ⟨h3, h4, h5⟩ := h2
      split at h5
      · rename_i z hz
        exact ⟨i, z, hi, hz, Nat.eq_of_beq_eq_true h3, Nat.eq_of_beq_eq_true h4, Nat.eq_of_beq_eq_true h5⟩
      · cases h5
    · cases h2
  · cases h
section
variable {P : Program} {T : TT} {N : Nat} {B : Nat} {w0 : World} {ds : List Deferred} {Q : Exit → Act → World → Prop} {F : Fr} {L : Lo} {pu : Prop} {ops : Array Oper} {rest : List Oper}
variable {dst : Option Tmp} {ty : TypeId} {p : String} {af : Array Edge} {gd : Option (Nat × Bool)}
theorem Sys.trans {L' : Lo} {w w' : World} (h : Sys B w0 L w) (k : Sys B w L' w') (hi : ∀ x, x ∈ L.map (·.1) → x ∈ L'.map (·.1)) : Sys B w0 L' w' :=
  ⟨k.os.trans h.os, k.tape.trans h.tape, k.output.trans h.output, Nat.le_trans h.size k.size, h.base, fun q hq hn => by
    have hL' : ∀ e, e ∈ L → e.1 ≠ q := fun e he e1 => by
      have := hi e.1 (List.mem_map.2 ⟨e, he, rfl⟩)
      obtain ⟨x, hx, e2⟩ := List.mem_map.1 this
      exact hn x hx (e2.trans e1)
    rw [k.old q (Nat.lt_of_lt_of_le hq h.size) hn, h.old q hq hL'], k.own, k.nd⟩
theorem Ev.load_at (hT : TOK P T) (i : Nat) {t : TypeId} {x : Operand} {g o j : Nat} {tg : TypeId} {cs : List Value} {v : Value} (hx : evo F x = some (.pointer (some ((⟨g, o, none⟩ : Addr).add j)))) (hL : L[i]? = some (g, cel tg cs))
    (h1 : lkG T.one t = some ()) (hv : cs[o + j]? = some v) : Ev P N B w0 ds pu F L ⟨dst, .load t x, ty, p, af, gd⟩ v := by
  rw [add_off] at hx
  exact Ev.load_loc hT i hx hL h1 hv
theorem XL.store_at (hT : TOK P T) (i : Nat) {t : TypeId} {x y : Operand} {g o j : Nat} {tg : TypeId} {v : Value} {cs : List Value} {L' : Lo}
    (hx : evo F x = some (.pointer (some ((⟨g, o, none⟩ : Addr).add j)))) (hy : evo F y = some v) (hL : L[i]? = some (g, cel tg cs)) (ht : lkG T.one t = some ()) (h1 : one1 v = true) (hj : o + j < cs.length)
    (hL' : setN L i (g, cel tg (cs.set (o + j) v)) = some L') (k : XL P N B w0 ds Q ops rest F L') :
    XL P N B w0 ds Q ops ({ dst := none, op := .store t x y, type := ty, pos := p, after := af, guard := none } :: rest) F L := by
  rw [add_off] at hx
  have hc : cellsO v = some [v] := by cases v <;> first | rfl | (simp [one1] at h1)
  refine XL.store hT i hx hy hL hc (.inl ⟨ht, rfl⟩) (by simp [h1]) ?_ hL' k
  simp [putN, setN_of_lt _ _ _ hj]

/-! ### a slice is built -/
def fillS (F : Fr) (size : Nat) : List Value → List (Nat × Operand) → Option (List Value)
  | cs, [] => some cs
  | cs, (i, x) :: r => match evo F x with
    | some v => match cellsO v with
      | some vs => match Nat.beq vs.length size with
        | true => match putN cs (i * size) vs with
          | some cs' => fillS F size cs' r
          | none => none
        | false => none
      | none => none
    | none => none
def zerosN (zs : List Value) : Nat → List Value
  | 0 => []
  | n + 1 => zs ++ zerosN zs n
/-- the same, forced. -/
def appO : List Value → List Value → Option (List Value)
  | [], l => some l
  | v :: r, l => match appO r l with
    | some x => some (v :: x)
    | none => none
def zerosO (zs : List Value) : Nat → Option (List Value)
  | 0 => some []
  | n + 1 => match zerosO zs n with
    | some l => appO zs l
    | none => none
theorem appO_eq : ∀ (a l : List Value), appO a l = some (a ++ l) := by
  intro a
  induction a with
  | nil => intro l; rfl
  | cons v r ih => intro l; simp [appO, ih]
theorem zerosO_eq (zs : List Value) : ∀ n, zerosO zs n = some (zerosN zs n) := by
  intro n
  induction n with
  | zero => rfl
  | succ n ih => simp [zerosO, ih, appO_eq, zerosN]
theorem fillS_spec {a : Act} (hf : Fits N ds F a) {size : Nat} : ∀ (ps : List (Nat × Operand)) (cs cs' : List Value), fillS F size cs ps = some cs' → 0 < size →
    Instr.fill (fun i => some (i * size, size)) cs.toArray (ps.map fun x => (x.1, a.eval x.2)) = some cs'.toArray := by
  intro ps
  induction ps with
  | nil => intro cs cs' h _; simp only [fillS, Option.some.injEq] at h; subst h; rfl
  | cons e r ih =>
    intro cs cs' h h0
    obtain ⟨i, x⟩ := e
    simp only [fillS] at h
    split at h
    · rename_i v hx
      split at h
      · rename_i vs hv
        split at h
        · rename_i hs
          split at h
          · rename_i cs1 hpn
            have hs' := Nat.eq_of_beq_eq_true hs
            obtain ⟨h1, h2, h3⟩ := putN_fold vs cs (i * size) cs1 0 (by simpa using hpn)
            have hc := cellsO_spec hv
            simp only [List.map_cons, Instr.fill, hf.eval hx, hc]
            have hz : vs.toArray.zipIdx = (vs.zipIdx 0).toArray := by simp
            rw [if_neg]
            · rw [hz]
              simp only [List.foldl_toArray]
              have : (List.foldl (fun cs (x : Value × Nat) => cs.setIfInBounds (i * size + x.2) x.1) cs.toArray (vs.zipIdx 0)) = cs1.toArray := h1
              rw [this]
              exact ih cs1 cs' h h0
            · intro hgt
              simp only [List.size_toArray, Bool.or_eq_true, decide_eq_true_eq, ne_eq, gt_iff_lt] at hgt
              rcases hgt with hgt | hgt
              · exact hgt hs'
              · have hne : vs ≠ [] := by intro e; subst e; simp at hs'; omega
                have := h3 hne; omega
          · cases h
        · cases h
      · cases h
    · cases h
theorem zerosN_len (zs : List Value) : ∀ n, (zerosN zs n).length = n * zs.length := by
  intro n
  induction n with
  | zero => simp [zerosN]
  | succ n ih => simp [zerosN, ih, Nat.succ_mul]; omega
theorem zerosN_at (zs : List Value) (hz : 0 < zs.length) : ∀ (n i : Nat), i < n * zs.length → (zerosN zs n)[i]? = zs[i % zs.length]? := by
  intro n
  induction n with
  | zero => intro i h; simp at h
  | succ n ih =>
    intro i h
    simp only [zerosN]
    by_cases hi : i < zs.length
    · rw [List.getElem?_append_left hi, Nat.mod_eq_of_lt hi]
    · rw [List.getElem?_append_right (by omega), ih (i - zs.length) (by rw [Nat.succ_mul] at h; omega)]
      congr 1
      rw [Nat.mod_eq_sub_mod (a := i) (by omega)]
theorem zeros_eq (zs : List Value) (hz : 0 < zs.length) (n : Nat) : (Array.range (n * zs.length)).map (fun i => zs.toArray[i % zs.toArray.size]!) = (zerosN zs n).toArray := by
  apply Array.ext
  · simp [zerosN_len]
  · intro i h1 h2
    have hi : i < n * zs.length := by simpa using h1
    have h3 := zerosN_at zs hz n i hi
    have hm : i % zs.length < zs.length := Nat.mod_lt _ hz
    have hlen : i < (zerosN zs n).length := by rw [zerosN_len]; exact hi
    rw [List.getElem?_eq_getElem hlen, List.getElem?_eq_getElem hm] at h3
    simp only [Array.getElem_map, Array.getElem_range, List.size_toArray, List.getElem_toArray, Option.some.injEq] at h3 ⊢
    rw [h3]
    simp [hm]
theorem XL.buildSlice (hT : TOK P T) {d : Nat} {t e : TypeId} {n size : Nat} {ps : List (Nat × Operand)} {z : Value} {zs cs : List Value} (hs : lkG T.sl t = some (e, size)) (hz : lkG T.zero e = some z) (hzs : cellsO z = some zs)
    (hsz : Nat.beq zs.length size = true) (h0 : Nat.blt 0 size = true) (hbig : Nat.ble (n * size) 16777216 = true) {zl : List Value} (hzl : zerosO zs n = some zl) (hc : fillS F size zl ps = some cs) (hd : Nat.blt d N = true)
    (k : ∀ g, w0.heap.size ≤ g → XL P N B w0 ds Q ops rest ((1000000 + d, .slice none L.length 0) :: (d, .slice (some ⟨g, 0, none⟩) n n) :: F) ((g, cel e cs) :: L)) :
    XL P N B w0 ds Q ops ({ dst := some d, op := .buildSlice t n ps.toArray, type := ty, pos := p, after := af, guard := none } :: rest) F L := by
  refine ⟨fun a w hf hw => ?_⟩
  refine wpList_plain rfl fun K hK => ?_
  unfold Oper.wp
  have hsz' := Nat.eq_of_beq_eq_true hsz
  have h0' : 0 < size := Nat.le_of_ble_eq_true h0
  have hbig' : n * size ≤ 16777216 := Nat.le_of_ble_eq_true hbig
  rw [zerosO_eq] at hzl
  obtain rfl := Option.some.inj hzl
  have : (execOp a.eval { dst := some d, op := .buildSlice t n ps.toArray, type := ty, pos := p, after := af, guard := none }).run P w = .ok (.value (.slice (some ⟨w.heap.size, 0, none⟩) n n)) (w.alloc (.cells cs.toArray e)) := by
    have h := tab_ok hT.sl hs
    unfold slOf at h
    cases hu : P.underlying t with
    | none => rw [hu] at h; cases h
    | some dd =>
      rw [hu] at h
      cases dd <;> simp at h
      obtain ⟨i, hi, rfl, rfl⟩ := h
      have hfill := fillS_spec hf ps _ _ hc h0'
      have hbig2 : ¬ (n * i.size > 2 ^ 24) := by omega
      by_cases hn : n = 0
      · subst hn
        simp only [zerosN] at hfill
        have hps : ((Array.range 0).map fun x => (#[] : Array Value)[x % (#[] : Array Value).size]!) = ([] : List Value).toArray := by simp
        simp only [execOp, Instr.buildSlice, Sem.run_bind, run_underlying hu, Result.andThen_ok, sizeOf_run hi, if_neg hbig2, Nat.zero_mul, if_pos, Sem.run_pure]
        have h20 : ¬ (0 > 2 ^ 24) := by decide
        simp only [if_neg h20, Sem.run_bind, Sem.run_pure, Result.andThen_ok]
        rw [hps]
        simp only [List.map_toArray]
        rw [hfill]
        simp [newRow]
      · have hne : ¬ (n * i.size = 0) := by intro e; rcases Nat.mul_eq_zero.1 e with h | h <;> omega
        have hzz := zeros_eq zs (by omega) n
        rw [hsz'] at hzz
        simp only [execOp, Instr.buildSlice, Sem.run_bind, run_underlying hu, Result.andThen_ok, sizeOf_run hi, if_neg hbig2, if_neg hne, zero_run hT hz, Sem.run_pure, cellsO_spec hzs]
        rw [hzz]
        simp only [List.map_toArray]
        rw [hfill]
        simp [newRow]
  rw [this]
  exact hK _ _ ((k w.heap.size hw.size).run _ _ ((hf.put hd).hint d _) (hw.box (cel e cs)))

/-! ### append to a slice of the call's own; the world behind it is the new base -/
/-- the new row is the old one, or a block that was not there. -/
theorem append_fresh {w : World} {base t ty e : Nat} {i : TypeInfo} {z : Value} {size bytes : Nat} (ht : P.underlying t = some (.slice e)) (hi : P.info? e = some i) (hz : i.zero = some z)
    (hsize : i.size = size) (hby : i.bytes = bytes) (hzs : z.cells.size = size) (hsz : 0 < size) {v : Value} {n : Nat} {xs : List Value} (hown : w.ownsRow base e size v n xs)
    {a : Addr} {m c : Nat} {news : List Value} (hl : news.length = m * size) (hnews : ∀ j u, news[j]? = some u → w.cell? (a.add j) = some u) (h1 : ∀ u ∈ news, u.oneCell' = true)
    (h63 : n + m ≤ maxLen) (hbytes : (n + m) * bytes ≤ 140737488355328) {v' : Value} {w' : World} (hrun : (Builtin.append_ #[t, t] ty #[v, .slice (some a) m c]).run P w = .ok v' w') :
    ∀ q, v'.ownBlock = some q → v.ownBlock = some q ∨ w.heap.size ≤ q := by
  intro q hq
  rcases hown.2 with ⟨rfl, rfl⟩ | ⟨g, cap, cur, rfl, hbg, hg, hc, hcm, hcs, htake⟩
  · have hx : xs = [] := List.eq_nil_of_length_eq_zero (by simpa using hown.1)
    subst hx
    obtain ⟨v2, w2, hr, ho, _⟩ := run_append_own w w.heap.size t ty e i z size bytes ht hi hz hsize hby hzs hsz (.slice none 0 0) 0 [] (World.ownsRow_nil w w.heap.size e size) a m c news hl hnews h1 h63 hbytes (Nat.le_refl _)
    rw [hrun] at hr
    cases hr
    exact .inr (ho.lt q hq).1
  · subst hsize hby
    by_cases hroom : n + m ≤ cap
    · have hfit : n * i.size + news.length ≤ cur.size := by rw [hl, hcs, ← Nat.add_mul]; exact Nat.mul_le_mul_right _ hroom
      have hr := run_append_room (P := P) w t ty e i ht hi g n cap cur hg a m c news hl hnews h1 hroom hfit
      rw [hrun] at hr
      cases hr
      exact .inl hq
    · have holds : ∀ j u, xs[j]? = some u → w.cell? ((⟨g, 0, none⟩ : Addr).add j) = some u := hown.cells (g := g) rfl
      simp only [maxLen] at h63
      have hr := run_append_grow (P := P) w t ty e i z ht hi hz ⟨g, 0, none⟩ n cap xs hown.1 holds a m c news hl hnews (by omega) (by omega) (growslice_fits (by omega) hbytes)
      rw [hrun] at hr
      cases hr
      simp only [Value.ownBlock, Option.some.injEq] at hq
      exact .inr (by omega)
theorem XL.append2 {d : Nat} {t e : TypeId} {x y : Operand} {v : Value} {n m c size bytes base : Nat} {xs news : List Value} {A : Addr} {L' : Lo} (he : elemOk P t e size bytes = true) (h0 : 0 < size)
    (hx : evo F x = some v) (hy : evo F y = some (.slice (some A) m c)) (hd : Nat.blt d N = true) (hown : w0.ownsRow base e size v n xs) (hsep : ∀ k, v.ownBlock = some k → ∀ e, e ∈ L → e.1 ≠ k)
    (hl : news.length = m * size) (hnews : ∀ w, Sys B w0 L w → ∀ j u, news[j]? = some u → w.cell? (A.add j) = some u) (h1 : news.all Value.oneCell' = true) (h63 : n + m ≤ maxLen) (hbytes : (n + m) * bytes ≤ 140737488355328) (hbase : base ≤ w0.heap.size)
    (hsub : List.Sublist L' L)
    (k : ∀ w v' w', Sys B w0 L w → w'.ownsRow base e size v' (n + m) (xs ++ news) → w.grownBy w' v.ownBlock → (v' = .slice none 0 0 ↔ v = .slice none 0 0 ∧ m = 0) → (∀ q, v'.ownBlock = some q → v.ownBlock = some q ∨ w.heap.size ≤ q) → XL P N B w' ds Q ops rest ((d, v') :: F) L') :
    XL P N B w0 ds Q ops ({ dst := some d, op := .call { callee := .builtin .append, args := #[x, y], argTypes := #[t, t] }, type := ty, pos := p, after := af, guard := none } :: rest) F L := by
  refine ⟨fun a w hf hs => ?_⟩
  refine wpList_plain rfl fun K hK => ?_
  unfold Oper.wp
  obtain ⟨hu, i, z, hi, hz, e1, e2, e3⟩ := elemOk_spec he
  have hown' : w.ownsRow base e size v n xs := by
    refine ⟨hown.1, ?_⟩
    rcases hown.2 with h | ⟨g, cap, cur, rfl, hb, hg, h⟩
    · exact .inl h
    · refine .inr ⟨g, cap, cur, rfl, hb, ?_, h⟩
      rw [hs.old g (Array.getElem?_eq_some_iff.1 hg).1 (hsep g rfl)]
      exact hg
  obtain ⟨v', w', hrun, ho', hgrow, hnil⟩ := run_append_own w base t ty e i z size bytes hu hi hz e1 e2 e3 h0 v n xs hown' A m c news hl (hnews w hs) (fun u hu => List.all_eq_true.1 h1 u hu) h63 hbytes (Nat.le_trans hbase hs.size)
  have : (execOp a.eval { dst := some d, op := .call { callee := .builtin .append, args := #[x, y], argTypes := #[t, t] }, type := ty, pos := p, after := af, guard := none }).run P w = .ok (.value v') w' := by
    have hm : (#[x, y] : Array Operand).map a.eval = #[v, .slice (some A) m c] := by simp [hf.eval hx, hf.eval hy]
    simp only [execOp, resolve, Sem.run_bind, Sem.run_pure, Result.andThen_ok, invoke, builtin, hm, hrun]
  rw [this]
  have hfr := append_fresh hu hi hz e1 e2 e3 h0 hown' hl (hnews w hs) (fun u hu => List.all_eq_true.1 h1 u hu) h63 hbytes hrun
  refine hK _ _ ((k w v' w' hs ho' hgrow hnil hfr).run _ _ (hf.put hd) ?_)
  have hr := hs.rebase (L' := L') hsub
  refine Sys.start (Nat.le_trans hr.base hgrow.size) (fun e he => ⟨(hr.own e he).1, ?_⟩) hr.nd
  rw [hgrow.block e.1 (hr.lt he) (fun e2 => hsep e.1 e2.symm e (hsub.subset he) rfl)]
  exact (hr.own e he).2
theorem XL.append {d : Nat} {t e : TypeId} {x y : Operand} {v : Value} {n m c size bytes base : Nat} {xs news : List Value} {A : Addr} {L' : Lo} (he : elemOk P t e size bytes = true) (h0 : 0 < size)
    (hx : evo F x = some v) (hy : evo F y = some (.slice (some A) m c)) (hd : Nat.blt d N = true) (hown : w0.ownsRow base e size v n xs) (hsep : ∀ k, v.ownBlock = some k → ∀ e, e ∈ L → e.1 ≠ k)
    (hl : news.length = m * size) (hnews : ∀ w, Sys B w0 L w → ∀ j u, news[j]? = some u → w.cell? (A.add j) = some u) (h1 : news.all Value.oneCell' = true) (h63 : n + m ≤ maxLen) (hbytes : (n + m) * bytes ≤ 140737488355328) (hbase : base ≤ w0.heap.size)
    (hsub : List.Sublist L' L)
    (k : ∀ w v' w', Sys B w0 L w → w'.ownsRow base e size v' (n + m) (xs ++ news) → w.grownBy w' v.ownBlock → (v' = .slice none 0 0 ↔ v = .slice none 0 0 ∧ m = 0) → XL P N B w' ds Q ops rest ((d, v') :: F) L') :
    XL P N B w0 ds Q ops ({ dst := some d, op := .call { callee := .builtin .append, args := #[x, y], argTypes := #[t, t] }, type := ty, pos := p, after := af, guard := none } :: rest) F L :=
  XL.append2 he h0 hx hy hd hown hsep hl hnews h1 h63 hbytes hbase hsub (fun w v' w' S a b c _ => k w v' w' S a b c)
theorem owns_sys {base e size n : Nat} {v : Value} {xs : List Value} {w : World} (h : w0.ownsRow base e size v n xs) (S : Sys B w0 L w) (hsep : ∀ k, v.ownBlock = some k → ∀ e, e ∈ L → e.1 ≠ k) : w.ownsRow base e size v n xs := by
  refine ⟨h.1, ?_⟩
  rcases h.2 with h | ⟨g, cap, cur, rfl, hb, hg, h⟩
  · exact .inl h
  · refine .inr ⟨g, cap, cur, rfl, hb, ?_, h⟩
    rw [S.old g (Array.getElem?_eq_some_iff.1 hg).1 (hsep g rfl)]
    exact hg
theorem XE.roundW {σ : Type} {G : σ → Fr} {M : σ → Lo} {W : σ → World} {pre : σ → Prop} {μ : σ → Nat} {s : σ}
    (h : ∀ w, Sys B w0 L w → ∃ s', pre s' ∧ μ s' < μ s ∧ Sub (G s') F ∧ Sys B (W s') (M s') w) :
    XE N B w0 ds (Exit.then (fun a w => ∃ s', pre s' ∧ μ s' < μ s ∧ Fits N ds (G s') a ∧ Sys B (W s') (M s') w) Q) .normal F L :=
  ⟨fun a w hf hs => by
    obtain ⟨s', h1, h2, h3, h4⟩ := h w hs
    exact ⟨s', h1, h2, h3.fits hf, h4⟩⟩
theorem Sys.grown {w w' : World} {row : Option Nat} (S : Sys B w0 L w) (h : w.grownBy w' row) (hr : ∀ k, row = some k → w0.heap.size ≤ k ∧ ∀ e, e ∈ L → e.1 ≠ k) : Sys B w0 L w' :=
  ⟨h.os.trans S.os, h.tape.trans S.tape, h.output.trans S.output, Nat.le_trans S.size h.size, S.base,
   fun k hk hn => by rw [h.block k (Nat.lt_of_lt_of_le hk S.size) (fun e => by have := (hr k e.symm).1; omega), S.old k hk hn],
   fun e he => ⟨(S.own e he).1, by rw [h.block e.1 (S.lt he) (fun e2 => (hr e.1 e2.symm).2 e he rfl)]; exact (S.own e he).2⟩, S.nd⟩
/-- what was there, but for the slice's own block and L. -/
theorem grown_old {w w' : World} {row : Option Nat} (S : Sys B w0 L w) (h : w.grownBy w' row) {k : Nat} (hk : k < w0.heap.size) (hL : ∀ e, e ∈ L → e.1 ≠ k) (hr : some k ≠ row) : w'.heap[k]? = w0.heap[k]? := by
  rw [h.block k (Nat.lt_of_lt_of_le hk S.size) hr, S.old k hk hL]
theorem grown_below {w w' : World} {row : Option Nat} (S : Sys B w0 L w) (h : w.grownBy w' row) (hr : ∀ k, row = some k → B ≤ k) : Below B w0 w' :=
  Below.trans S.toBelow ⟨h.os, h.tape, h.output, h.size, fun k hk => h.block k (Nat.lt_of_lt_of_le hk (Nat.le_trans S.base S.size)) fun e => by have := hr k e.symm; omega⟩
end
/-- what a slice of the call's own reads. -/
theorem ReadsP.own {w : World} {base e size n : Nat} {A : Option Addr} {m c : Nat} {xs : List Value} (h : w.ownsRow base e size (.slice A m c) n xs) : ReadsP w (Btw base w.heap.size) size A n xs ∧ m = n ∧ (0 < n → n ≤ c) ∧ n ≤ maxLen := by
  rcases h.2 with ⟨e1, rfl⟩ | ⟨g, cap, cur, e1, hb, hg, hc, hm, hsz, hx⟩
  · cases e1
    have : xs = [] := by have := h.1; simp at this; exact this
    subst this
    exact ⟨ReadsP.nil, rfl, fun h => absurd h (by omega), Nat.zero_le _⟩
  · cases e1
    refine ⟨⟨h.1, fun hn => ⟨_, rfl, ⟨hb, (Array.getElem?_eq_some_iff.1 hg).1⟩, fun j u hj => ?_⟩⟩, rfl, fun _ => hc, by omega⟩
    rw [add_off]
    simp only [World.cell?, hg, Nat.zero_add]
    rw [← hx, List.getElem?_take] at hj
    split at hj
    · simpa using hj
    · cases hj
/-- a slice of the call's own is a slice value. -/
theorem owns_sv {w : World} {base e size n : Nat} {v : Value} {xs : List Value} (h : w.ownsRow base e size v n xs) : ∃ r : SV, v = svV r ∧ r.n = n := by
  rcases h.2 with ⟨rfl, rfl⟩ | ⟨g, cap, cur, rfl, _⟩
  · exact ⟨⟨none, 0, 0⟩, rfl, rfl⟩
  · exact ⟨⟨_, _, _⟩, rfl, rfl⟩
theorem owns_sep {w : World} {base e size n : Nat} {v : Value} {xs : List Value} (h : w.ownsRow base e size v n xs) {L : Lo} (hL : ∀ x, x ∈ L → x.1 < base ∨ w.heap.size ≤ x.1) : ∀ k, v.ownBlock = some k → ∀ e, e ∈ L → e.1 ≠ k := fun k hk x hx e1 => by
  have := h.lt k hk
  have := hL x hx
  omega
end Go.Proofs.YtoiepgcjinccpaaDoor.X
/-
  The walk of the water's polders.
-/
namespace Go.Proofs.YtoiepgcjinccpaaDoor.X
open Go Go.RowKit Go.Proofs.YtoiepgcjinccpaaDoor.Bs
set_option linter.unusedVariables false
theorem int_el : elemOk Tryd.prog 26 3 1 8 = true := by kernel_rfl
/-- what has filled the polders when k have been flooded. -/
def filK (b : Bas) (s : Sta) (k : Nat) : List Int := rg b.pols.length fun i => if i < k then s.f i + polT b s s.vol i else s.f i
theorem filK_0 {b : Bas} {s : Sta} (h : s.fil.length = b.pols.length) : filK b s 0 = s.fil := by
  apply List.ext_getElem (by simp [filK, rg_len, h])
  intro i h1 h2
  simp [filK, rg, Sta.f, h2]
theorem filK_at {b : Bas} {s : Sta} {k : Nat} (h : k < b.pols.length) (sp : List Value) : (ints (filK b s k) ++ sp)[k]? = some (.int .i64 (s.f k)) := by
  have hl : k < (ints (filK b s k)).length := by rw [ints_len]; simpa [filK, rg_len] using h
  rw [List.getElem?_append_left hl]
  simp [ints, filK, rg, h]
theorem filK_set {b : Bas} {s : Sta} {k : Nat} (h : k < b.pols.length) (sp : List Value) : (ints (filK b s k) ++ sp).set k (.int .i64 (s.f k + polT b s s.vol k)) = ints (filK b s (k + 1)) ++ sp := by
  have hl : k < (ints (filK b s k)).length := by rw [ints_len]; simpa [filK, rg_len] using h
  rw [List.set_append_left _ _ hl]
  congr 1
  apply List.ext_getElem (by simp [ints, filK, rg_len])
  intro i h1 h2
  simp only [ints, List.length_map, filK, rg_len] at h2
  rw [List.getElem_set]
  by_cases e : k = i
  · subst e; simp [ints, filK, rg]
  · rw [if_neg e]
    simp only [ints, filK, rg, List.getElem_map, List.getElem_range]
    by_cases hi : i < k
    · rw [if_pos hi, if_pos (by omega)]
    · rw [if_neg hi, if_neg (by omega)]
theorem filK_end (b : Bas) (s : Sta) : filK b s b.pols.length = rg b.pols.length fun i => s.f i + polT b s s.vol i := by
  unfold filK rg
  apply List.map_congr_left
  intro i hi
  rw [if_pos (by simpa using hi)]
section
variable {g fb B n c : Nat} {p : BV} {b : Bas} {s : Sta} {t : Tick} {f : Flo} {w : World} {sp : List Value}
set_option maxHeartbeats 8000000 in
theorem polders_any (h : w.heap[g]? = some (watO p b ⟨some ⟨fb, 0, none⟩, n, c⟩ s t ⟨none, 0, 0⟩ f)) (hfb : w.heap[fb]? = some (cel 3 (ints s.fil ++ sp))) (hne : g ≠ fb) (hBg : B ≤ g) (hBf : B ≤ fb)
    (hb : BasAt w B p b) (ho : Ok b) (hs : StaOk b s) (hn : n = b.pols.length) :
    Calls Tryd.prog 90 #[.pointer (some ⟨g, 0, none⟩)] w fun e w' => e = .returned (.bool true) ∧ ∃ r : SV, Sys B w [(g, watO p b ⟨some ⟨fb, 0, none⟩, n, c⟩ { s with vol := polV b s s.vol b.pols.length } t r f), (fb, cel 3 (ints (rg b.pols.length fun i => s.f i + polT b s s.vol i) ++ sp))] w' ∧
      w'.ownsRow w.heap.size 3 1 (svV r) b.pols.length (ints (rg b.pols.length fun i => polT b s s.vol i)) := by
  obtain ⟨A, n1, c1, A2, n2, c2⟩ := p
  have hn1 := hb.n_eq
  have hn2 := hb.n2_eq
  simp only at hn1 hn2
  subst hn1 hn2 hn
  have hm := ho.m6
  have h' := h
  have hfb' := hfb
  simp only [watO, watC] at h
  have S0 := Sys.start2 hBg hBf h hfb hne
  have hgl := (Array.getElem?_eq_some_iff.1 h).1
  have hfl := (Array.getElem?_eq_some_iff.1 hfb).1
  refine enterL Tryd.func90 rfl Tryd.ntmps90 rfl (S0) ?_; simp only [frame, Nat.zero_add, Nat.reduceAdd]
  refine XC.hint 0 1 ?_
  repeat (first | (refine M0 ?_; first | refine O0 ?_ | refine z1 tok rfl ?_ | refine O1 rfl ?_ rfl | refine O2 rfl ?_ | refine O3 rfl ?_ rfl | refine O4 rfl rfl rfl (fun _ _ => ?_) | refine O5 tok rfl rfl rfl (fun _ _ => ?_) | refine U0 _ (U2 rfl) rfl ?_ | refine U0 _ (U3 tok rfl rfl rfl rfl rfl) rfl ?_ | refine z3 tok rfl ?_ | refine U0 _ (U4 rfl rfl) rfl ?_ | refine U0 _ (U5 rfl rfl) rfl ?_) | (refine M1 ?_; first | refine J0 ?_ | refine J1 ?_ | refine J2 mixed rfl (by kernel_rfl) ?_ | refine J3 mixed rfl rfl (by kernel_rfl) ?_ | refine J4 ?_ | refine J5 ?_ | refine J6 ?_ | refine J7 ?_ | refine J8 rfl ?_ | refine J9 rfl ?_) | (refine M2 ?_; first | refine I0 ?_ | refine I1 ?_ | refine I2 ?_ | refine I3 ?_ | refine I4 ?_ | refine I5 ?_ | refine I6 rfl ?_ | refine I7 ?_ | refine I8 ?_ | refine z4 ?_) | (refine M3 ?_; first | refine O6 ?_ | refine z2 tok rfl ?_ | refine O8 rfl ?_ | refine O7 rfl ?_ rfl | refine O9 rfl ?_ rfl | refine U1 _ (U4 rfl rfl) rfl ?_ | refine U1 _ (U5 rfl rfl) rfl ?_ | refine U1 _ (U2 rfl) rfl ?_ | refine U1 _ (U3 tok rfl rfl rfl rfl rfl) rfl ?_) | (refine M4 ?_; first | refine M6 ?_ | refine U6 rfl (by kernel_rfl) ?_ | refine U7 (by kernel_rfl) ?_) | (refine M5 ?_; first | exact M7 | refine U8 rfl ?_ | refine U9 rfl rfl ?_ ?_))
  refine XC.loopk [0, 11, 12] rfl (fun s' : Nat × World × SV => [(13, .int .i64 (s'.1 : Nat))])
    (fun s' => [(g, cel 137 (watC ⟨A, b.rows.length, c1, A2, b.pols.length, c2⟩ b ⟨some ⟨fb, 0, none⟩, b.pols.length, c⟩ { s with vol := polV b s s.vol s'.1 } t s'.2.2 f)), (fb, cel 3 (ints (filK b s s'.1) ++ sp))]) (fun s' => s'.2.1)
    (fun s' => s'.1 ≤ b.pols.length ∧ Sys B w [(g, cel 137 (watC ⟨A, b.rows.length, c1, A2, b.pols.length, c2⟩ b ⟨some ⟨fb, 0, none⟩, b.pols.length, c⟩ { s with vol := polV b s s.vol s'.1 } t s'.2.2 f)), (fb, cel 3 (ints (filK b s s'.1) ++ sp))] s'.2.1 ∧
      s'.2.1.ownsRow w.heap.size 3 1 (svV s'.2.2) s'.1 (ints (rg s'.1 fun i => polT b s s.vol i)))
    (fun s' => b.pols.length - s'.1) (0, w, ⟨none, 0, 0⟩) ⟨Nat.zero_le _, ?_, World.ownsRow_nil _ _ _ _⟩ (by repeat (first | exact Sub.nil | refine Sub.cons rfl ?_)) ?_ ?_
  · simp only [filK_0 hs.len]; exact S0
  · intro w' S; simp only [filK_0 hs.len]; exact S
  rintro ⟨k, W, r⟩ ⟨hk, SW, hown⟩
  simp only at hk SW hown
  simp only [watC]
  dsimp only [List.cons_append, List.nil_append]
  repeat (first | (refine M0 ?_; first | refine O0 ?_ | refine z1 tok rfl ?_ | refine O1 rfl ?_ rfl | refine O2 rfl ?_ | refine O3 rfl ?_ rfl | refine O4 rfl rfl rfl (fun _ _ => ?_) | refine O5 tok rfl rfl rfl (fun _ _ => ?_) | refine U0 _ (U2 rfl) rfl ?_ | refine U0 _ (U3 tok rfl rfl rfl rfl rfl) rfl ?_ | refine z3 tok rfl ?_ | refine U0 _ (U4 rfl rfl) rfl ?_ | refine U0 _ (U5 rfl rfl) rfl ?_) | (refine M1 ?_; first | refine J0 ?_ | refine J1 ?_ | refine J2 mixed rfl (by kernel_rfl) ?_ | refine J3 mixed rfl rfl (by kernel_rfl) ?_ | refine J4 ?_ | refine J5 ?_ | refine J6 ?_ | refine J7 ?_ | refine J8 rfl ?_ | refine J9 rfl ?_) | (refine M2 ?_; first | refine I0 ?_ | refine I1 ?_ | refine I2 ?_ | refine I3 ?_ | refine I4 ?_ | refine I5 ?_ | refine I6 rfl ?_ | refine I7 ?_ | refine I8 ?_ | refine z4 ?_) | (refine M3 ?_; first | refine O6 ?_ | refine z2 tok rfl ?_ | refine O8 rfl ?_ | refine O7 rfl ?_ rfl | refine O9 rfl ?_ rfl | refine U1 _ (U4 rfl rfl) rfl ?_ | refine U1 _ (U5 rfl rfl) rfl ?_ | refine U1 _ (U2 rfl) rfl ?_ | refine U1 _ (U3 tok rfl rfl rfl rfl rfl) rfl ?_) | (refine M4 ?_; first | refine M6 ?_ | refine U6 rfl (by kernel_rfl) ?_ | refine U7 (by kernel_rfl) ?_) | (refine M5 ?_; first | exact M7 | refine U8 rfl ?_ | refine U9 rfl rfl ?_ ?_))
  refine XC.cond _ rfl (fun h1 => ?_) (fun h1 => ?_)
  · have hkm : k < b.pols.length := by simpa using h1
    have hbW := hb.below SW.toBelow
    obtain ⟨ad2, rfl, hlt2⟩ := hb.pols.addr (by simp only; omega)
    have hpv := polV_bd ho hs (v := s.vol) hs.vol k hk
    have hv : b.v0 ≤ polV b s s.vol k ∧ polV b s s.vol k ≤ 1000000000 := by have := hs.vol; omega
    have hd := den_pos ho.rowsOk (polV b s s.vol k)
    have hnm := num_bd ho.rowsOk hv
    obtain ⟨k1, k2⟩ := takeOver_bd ho hv hkm
    have k3 : i64in ((b.pol k).sill * den b (polV b s s.vol k)) := by unfold i64in; omega
    repeat (first | (refine M0 ?_; first | refine O0 ?_ | refine z1 tok rfl ?_ | refine O1 rfl ?_ rfl | refine O2 rfl ?_ | refine O3 rfl ?_ rfl | refine U0 _ (Ev.load_old_agg tok (polC (b.pol k)) rfl rfl rfl (add_lt hlt2) (hbW.pol hkm)) rfl ?_ | refine O4 rfl rfl rfl (fun _ _ => ?_) | refine O5 tok rfl rfl rfl (fun _ _ => ?_) | refine U0 _ (U2 rfl) rfl ?_ | refine U0 _ (U3 tok rfl rfl rfl rfl rfl) rfl ?_ | refine z3 tok rfl ?_ | refine U0 _ (U4 rfl rfl) rfl ?_ | refine U0 _ (U5 rfl rfl) rfl ?_) | (refine M1 ?_; first | refine J0 ?_ | refine J1 ?_ | refine J2 mixed rfl (by kernel_rfl) ?_ | refine J3 mixed rfl rfl (by kernel_rfl) ?_ | refine J4 ?_ | refine J5 ?_ | refine J6 ?_ | refine J7 ?_ | refine J8 rfl ?_ | refine J9 rfl ?_) | (refine M2 ?_; first | refine I0 ?_ | refine I1 ?_ | refine I2 ?_ | refine I3 ?_ | refine I4 ?_ | refine I5 ?_ | refine I6 rfl ?_ | refine I7 ?_ | refine I8 ?_ | refine z4 ?_) | (refine M3 ?_; first | refine O6 ?_ | refine z2 tok rfl ?_ | refine O8 rfl ?_ | refine O7 rfl ?_ rfl | refine O9 rfl ?_ rfl | refine U1 _ (Ev.load_old_agg tok (polC (b.pol k)) rfl rfl rfl (add_lt hlt2) (hbW.pol hkm)) rfl ?_ | refine U1 _ (U4 rfl rfl) rfl ?_ | refine U1 _ (U5 rfl rfl) rfl ?_ | refine U1 _ (U2 rfl) rfl ?_ | refine U1 _ (U3 tok rfl rfl rfl rfl rfl) rfl ?_) | (refine M4 ?_; first | refine M6 ?_ | refine U6 rfl (by kernel_rfl) ?_ | refine U7 (by kernel_rfl) ?_) | (refine M5 ?_; first | exact M7 | refine U8 rfl ?_ | refine U9 rfl rfl ?_ ?_))
    rename_i gx hgx
    have htk := takeOf_bd ho hv hkm (hs.fil k hkm)
    have hrm := ho.room k hkm
    have h0 := v0_bd ho
    have hfk := hs.fil k hkm
    obtain ⟨tk, htkq⟩ : ∃ tk, tk = takeOf b k (polV b s s.vol k) (s.f k) := ⟨_, rfl⟩
    repeat (first | (refine M0 ?_; first | refine O0 ?_ | refine z1 tok rfl ?_ | refine O1 rfl ?_ rfl | refine O2 rfl ?_ | refine O3 rfl ?_ rfl | refine U0 _ (Ev.call (f := 67) (ck rfl) rfl (fun w S => (exact_any (p := ⟨A, b.rows.length, c1, some ad2, b.pols.length, c2⟩) (hbW.sys S) ho.rowsOk hv :))) rfl ?_ | refine U0 _ (Ev.makeI ratio_con rfl) rfl ?_ | refine O4 rfl rfl rfl (fun _ _ => ?_) | refine O5 tok rfl rfl rfl (fun _ _ => ?_) | refine U0 _ (U2 rfl) rfl ?_ | refine U0 _ (U3 tok rfl rfl rfl rfl rfl) rfl ?_ | refine z3 tok rfl ?_ | refine U0 _ (U4 rfl rfl) rfl ?_ | refine U0 _ (U5 rfl rfl) rfl ?_) | (refine M1 ?_; first | refine J0 ?_ | refine J1 ?_ | refine J2 mixed rfl (by kernel_rfl) ?_ | refine J3 mixed rfl rfl (by kernel_rfl) ?_ | refine J4 ?_ | refine J5 ?_ | refine J6 ?_ | refine J7 ?_ | refine J8 rfl ?_ | refine J9 rfl ?_) | (refine M2 ?_; first | refine I0 ?_ | refine I1 ?_ | refine I2 ?_ | refine I3 ?_ | refine I4 ?_ | refine I5 ?_ | refine I6 rfl ?_ | refine I7 ?_ | refine I8 ?_ | refine z4 ?_) | (refine M3 ?_; first | refine O6 ?_ | refine z2 tok rfl ?_ | refine O8 rfl ?_ | refine O7 rfl ?_ rfl | refine O9 rfl ?_ rfl | refine U1 _ (Ev.call (f := 67) (ck rfl) rfl (fun w S => (exact_any (p := ⟨A, b.rows.length, c1, some ad2, b.pols.length, c2⟩) (hbW.sys S) ho.rowsOk hv :))) rfl ?_ | refine U1 _ (Ev.makeI ratio_con rfl) rfl ?_ | refine U1 _ (U4 rfl rfl) rfl ?_ | refine U1 _ (U5 rfl rfl) rfl ?_ | refine U1 _ (U2 rfl) rfl ?_ | refine U1 _ (U3 tok rfl rfl rfl rfl rfl) rfl ?_) | (refine M4 ?_; first | refine M6 ?_ | refine U6 rfl (by kernel_rfl) ?_ | refine U7 (by kernel_rfl) ?_) | (refine M5 ?_; first | exact M7 | refine U8 rfl ?_ | refine U9 rfl rfl ?_ ?_))
    refine XL.step _ (Ev.invoke (t := 113) above_m (ck rfl) rfl rfl (fun w S => (above_any (n := num b (polV b s s.vol k)) (d := den b (polV b s s.vol k)) (level := (b.pol k).sill) k3 w :))) rfl ?_
    repeat (first | (refine M0 ?_; first | refine O0 ?_ | refine z1 tok rfl ?_ | refine O1 rfl ?_ rfl | refine O2 rfl ?_ | refine O3 rfl ?_ rfl | refine O4 rfl rfl rfl (fun _ _ => ?_) | refine O5 tok rfl rfl rfl (fun _ _ => ?_) | refine U0 _ (U2 rfl) rfl ?_ | refine U0 _ (U3 tok rfl rfl rfl rfl rfl) rfl ?_ | refine z3 tok rfl ?_ | refine U0 _ (U4 rfl rfl) rfl ?_ | refine U0 _ (U5 rfl rfl) rfl ?_) | (refine M1 ?_; first | refine J0 ?_ | refine J1 ?_ | refine J2 mixed rfl (by kernel_rfl) ?_ | refine J3 mixed rfl rfl (by kernel_rfl) ?_ | refine J4 ?_ | refine J5 ?_ | refine J6 ?_ | refine J7 ?_ | refine J8 rfl ?_ | refine J9 rfl ?_) | (refine M2 ?_; first | refine I0 ?_ | refine I1 ?_ | refine I2 ?_ | refine I3 ?_ | refine I4 ?_ | refine I5 ?_ | refine I6 rfl ?_ | refine I7 ?_ | refine I8 ?_ | refine z4 ?_) | (refine M3 ?_; first | refine O6 ?_ | refine z2 tok rfl ?_ | refine O8 rfl ?_ | refine O7 rfl ?_ rfl | refine O9 rfl ?_ rfl | refine U1 _ (U4 rfl rfl) rfl ?_ | refine U1 _ (U5 rfl rfl) rfl ?_ | refine U1 _ (U2 rfl) rfl ?_ | refine U1 _ (U3 tok rfl rfl rfl rfl rfl) rfl ?_) | (refine M4 ?_; first | refine M6 ?_ | refine U6 rfl (by kernel_rfl) ?_ | refine U7 (by kernel_rfl) ?_) | (refine M5 ?_; first | exact M7 | refine U8 rfl ?_ | refine U9 rfl rfl ?_ ?_))
    refine XC.cutln [0, 3, 11, 12, 13] rfl (fun _ : Unit => [(6, .int .i64 tk)]) (fun _ => []) (fun _ => True) ?_ (fun _ _ => ?_)
    · refine XC.cond _ rfl (fun h2 => ?_) (fun h2 => ?_)
      · simp only [decide_eq_true_eq] at h2
        unfold takeOf at htkq
        rw [if_pos h2] at htkq
        have htkr := htk
        unfold takeOf at htkr
        rw [if_pos h2] at htkr
        repeat (first | (refine M0 ?_; first | refine O0 ?_ | refine z1 tok rfl ?_ | refine O1 rfl ?_ rfl | refine O2 rfl ?_ | refine O3 rfl ?_ rfl | refine U0 _ (Ev.invoke (t := 113) over_m (ck rfl) rfl rfl (fun w S => (over_any (n := num b (polV b s s.vol k)) (d := den b (polV b s s.vol k)) (level := (b.pol k).sill) (rate := (b.pol k).take) hd.1 k3 (by unfold i64in; omega) (by omega) w :))) rfl ?_ | refine U0 _ (Ev.load_at tok 2 (v := .int .i64 (s.f k)) rfl rfl rfl (by simpa using filK_at hkm sp)) rfl ?_ | refine O4 rfl rfl rfl (fun _ _ => ?_) | refine O5 tok rfl rfl rfl (fun _ _ => ?_) | refine U0 _ (U2 rfl) rfl ?_ | refine U0 _ (U3 tok rfl rfl rfl rfl rfl) rfl ?_ | refine z3 tok rfl ?_ | refine U0 _ (U4 rfl rfl) rfl ?_ | refine U0 _ (U5 rfl rfl) rfl ?_) | (refine M1 ?_; first | refine J0 ?_ | refine J1 ?_ | refine J2 mixed rfl (by kernel_rfl) ?_ | refine J3 mixed rfl rfl (by kernel_rfl) ?_ | refine J4 ?_ | refine J5 ?_ | refine J6 ?_ | refine J7 ?_ | refine J8 rfl ?_ | refine J9 rfl ?_) | (refine M2 ?_; first | refine I0 ?_ | refine I1 ?_ | refine I2 ?_ | refine I3 ?_ | refine I4 ?_ | refine I5 ?_ | refine I6 rfl ?_ | refine I7 ?_ | refine I8 ?_ | refine z4 ?_) | (refine M3 ?_; first | refine O6 ?_ | refine z2 tok rfl ?_ | refine O8 rfl ?_ | refine O7 rfl ?_ rfl | refine O9 rfl ?_ rfl | refine U1 _ (Ev.invoke (t := 113) over_m (ck rfl) rfl rfl (fun w S => (over_any (n := num b (polV b s s.vol k)) (d := den b (polV b s s.vol k)) (level := (b.pol k).sill) (rate := (b.pol k).take) hd.1 k3 (by unfold i64in; omega) (by omega) w :))) rfl ?_ | refine U1 _ (Ev.load_at tok 2 (v := .int .i64 (s.f k)) rfl rfl rfl (by simpa using filK_at hkm sp)) rfl ?_ | refine U1 _ (U4 rfl rfl) rfl ?_ | refine U1 _ (U5 rfl rfl) rfl ?_ | refine U1 _ (U2 rfl) rfl ?_ | refine U1 _ (U3 tok rfl rfl rfl rfl rfl) rfl ?_) | (refine M4 ?_; first | refine M6 ?_ | refine U6 rfl (by kernel_rfl) ?_ | refine U7 (by kernel_rfl) ?_) | (refine M5 ?_; first | exact M7 | refine U8 rfl ?_ | refine U9 rfl rfl ?_ ?_))
        rw [← htkq]
        refine XE.leaf () (by repeat (first | exact Sub.nil | refine Sub.cons rfl ?_)) (fun _ S' => by first | exact S' | exact S'.perm (by repeat (first | exact List.Perm.refl _ | refine perm1 ?_ | refine List.Perm.cons _ ?_ | refine perm2 ?_)) | exact (S'.pop (by assumption)) | exact (S'.pop2 (by assumption))) ?_
        trivial
      · simp only [decide_eq_false_iff_not] at h2
        unfold takeOf at htkq
        rw [if_neg h2] at htkq
        rw [htkq]
        repeat (first | (refine M0 ?_; first | refine O0 ?_ | refine z1 tok rfl ?_ | refine O1 rfl ?_ rfl | refine O2 rfl ?_ | refine O3 rfl ?_ rfl | refine O4 rfl rfl rfl (fun _ _ => ?_) | refine O5 tok rfl rfl rfl (fun _ _ => ?_) | refine U0 _ (U2 rfl) rfl ?_ | refine U0 _ (U3 tok rfl rfl rfl rfl rfl) rfl ?_ | refine z3 tok rfl ?_ | refine U0 _ (U4 rfl rfl) rfl ?_ | refine U0 _ (U5 rfl rfl) rfl ?_) | (refine M1 ?_; first | refine J0 ?_ | refine J1 ?_ | refine J2 mixed rfl (by kernel_rfl) ?_ | refine J3 mixed rfl rfl (by kernel_rfl) ?_ | refine J4 ?_ | refine J5 ?_ | refine J6 ?_ | refine J7 ?_ | refine J8 rfl ?_ | refine J9 rfl ?_) | (refine M2 ?_; first | refine I0 ?_ | refine I1 ?_ | refine I2 ?_ | refine I3 ?_ | refine I4 ?_ | refine I5 ?_ | refine I6 rfl ?_ | refine I7 ?_ | refine I8 ?_ | refine z4 ?_) | (refine M3 ?_; first | refine O6 ?_ | refine z2 tok rfl ?_ | refine O8 rfl ?_ | refine O7 rfl ?_ rfl | refine O9 rfl ?_ rfl | refine U1 _ (U4 rfl rfl) rfl ?_ | refine U1 _ (U5 rfl rfl) rfl ?_ | refine U1 _ (U2 rfl) rfl ?_ | refine U1 _ (U3 tok rfl rfl rfl rfl rfl) rfl ?_) | (refine M4 ?_; first | refine M6 ?_ | refine U6 rfl (by kernel_rfl) ?_ | refine U7 (by kernel_rfl) ?_) | (refine M5 ?_; first | exact M7 | refine U8 rfl ?_ | refine U9 rfl rfl ?_ ?_))
        refine XE.leaf () (by repeat (first | exact Sub.nil | refine Sub.cons rfl ?_)) (fun _ S' => by first | exact S' | exact S'.perm (by repeat (first | exact List.Perm.refl _ | refine perm1 ?_ | refine List.Perm.cons _ ?_ | refine perm2 ?_)) | exact (S'.pop (by assumption)) | exact (S'.pop2 (by assumption))) ?_
        trivial
    dsimp only [List.cons_append, List.nil_append]
    rw [← htkq] at htk
    have k4 : i64in (s.f k + tk) := by unfold i64in; omega
    repeat (first | (refine M0 ?_; first | refine O0 ?_ | refine z1 tok rfl ?_ | refine O1 rfl ?_ rfl | refine O2 rfl ?_ | refine O3 rfl ?_ rfl | refine U0 _ (Ev.load_at tok 2 (v := .int .i64 (s.f k)) rfl rfl rfl (by simpa using filK_at hkm sp)) rfl ?_ | refine O4 rfl rfl rfl (fun _ _ => ?_) | refine O5 tok rfl rfl rfl (fun _ _ => ?_) | refine U0 _ (U2 rfl) rfl ?_ | refine U0 _ (U3 tok rfl rfl rfl rfl rfl) rfl ?_ | refine z3 tok rfl ?_ | refine U0 _ (U4 rfl rfl) rfl ?_ | refine U0 _ (U5 rfl rfl) rfl ?_) | (refine M1 ?_; first | refine J0 ?_ | refine J1 ?_ | refine J2 mixed rfl (by kernel_rfl) ?_ | refine J3 mixed rfl rfl (by kernel_rfl) ?_ | refine J4 ?_ | refine J5 ?_ | refine J6 ?_ | refine J7 ?_ | refine J8 rfl ?_ | refine J9 rfl ?_) | (refine M2 ?_; first | refine I0 ?_ | refine I1 ?_ | refine I2 ?_ | refine I3 ?_ | refine I4 ?_ | refine I5 ?_ | refine I6 rfl ?_ | refine I7 ?_ | refine I8 ?_ | refine z4 ?_) | (refine M3 ?_; first | refine O6 ?_ | refine z2 tok rfl ?_ | refine O8 rfl ?_ | refine O7 rfl ?_ rfl | refine O9 rfl ?_ rfl | refine U1 _ (Ev.load_at tok 2 (v := .int .i64 (s.f k)) rfl rfl rfl (by simpa using filK_at hkm sp)) rfl ?_ | refine U1 _ (U4 rfl rfl) rfl ?_ | refine U1 _ (U5 rfl rfl) rfl ?_ | refine U1 _ (U2 rfl) rfl ?_ | refine U1 _ (U3 tok rfl rfl rfl rfl rfl) rfl ?_) | (refine M4 ?_; first | refine M6 ?_ | refine U6 rfl (by kernel_rfl) ?_ | refine U7 (by kernel_rfl) ?_) | (refine M5 ?_; first | exact M7 | refine U8 rfl ?_ | refine U9 rfl rfl ?_ ?_))
    have hlen : b.pols.length ≤ (ints (filK b s k) ++ sp).length := by simp [ints, filK, rg_len]
    refine XL.store_at tok 2 rfl rfl rfl rfl rfl (show 0 + (k : Int).toNat * 1 < (ints (filK b s k) ++ sp).length by rw [Int.toNat_natCast]; omega) rfl ?_
    repeat (first | (refine M0 ?_; first | refine O0 ?_ | refine z1 tok rfl ?_ | refine O1 rfl ?_ rfl | refine O2 rfl ?_ | refine O3 rfl ?_ rfl | refine O4 rfl rfl rfl (fun _ _ => ?_) | refine O5 tok rfl rfl rfl (fun _ _ => ?_) | refine U0 _ (U2 rfl) rfl ?_ | refine U0 _ (U3 tok rfl rfl rfl rfl rfl) rfl ?_ | refine z3 tok rfl ?_ | refine U0 _ (U4 rfl rfl) rfl ?_ | refine U0 _ (U5 rfl rfl) rfl ?_) | (refine M1 ?_; first | refine J0 ?_ | refine J1 ?_ | refine J2 mixed rfl (by kernel_rfl) ?_ | refine J3 mixed rfl rfl (by kernel_rfl) ?_ | refine J4 ?_ | refine J5 ?_ | refine J6 ?_ | refine J7 ?_ | refine J8 rfl ?_ | refine J9 rfl ?_) | (refine M2 ?_; first | refine I0 ?_ | refine I1 ?_ | refine I2 ?_ | refine I3 ?_ | refine I4 ?_ | refine I5 ?_ | refine I6 rfl ?_ | refine I7 ?_ | refine I8 ?_ | refine z4 ?_) | (refine M3 ?_; first | refine O6 ?_ | refine z2 tok rfl ?_ | refine O8 rfl ?_ | refine O7 rfl ?_ rfl | refine O9 rfl ?_ rfl | refine U1 _ (U4 rfl rfl) rfl ?_ | refine U1 _ (U5 rfl rfl) rfl ?_ | refine U1 _ (U2 rfl) rfl ?_ | refine U1 _ (U3 tok rfl rfl rfl rfl rfl) rfl ?_) | (refine M4 ?_; first | refine M6 ?_ | refine U6 rfl (by kernel_rfl) ?_ | refine U7 (by kernel_rfl) ?_) | (refine M5 ?_; first | exact M7 | refine U8 rfl ?_ | refine U9 rfl rfl ?_ ?_))
    refine XL.buildSlice tok rfl rfl rfl rfl rfl rfl rfl rfl rfl (fun gb hgb => ?_)
    have hWs : w.heap.size ≤ W.heap.size := SW.size
    refine XL.append (v := svV r) (m := 1) (n := k) (size := 1) (bytes := 8) (news := [.int .i64 tk]) int_el (by decide) rfl rfl rfl hown
      (owns_sep hown (fun x hx => by simp only [List.mem_cons, List.not_mem_nil, or_false] at hx; rcases hx with rfl | rfl | rfl | rfl <;> simp only <;> omega)) rfl
      (fun w' S j u hj => by rw [add_off]; exact (S.cell (List.mem_cons_self) _).trans (by simpa using hj)) rfl (by unfold maxLen; omega) (by omega) SW.size
      (List.Sublist.cons _ (List.Sublist.cons _ (List.Sublist.refl _))) (fun w1 v' w2 S1 ho1 hg1 _ => ?_)
    obtain ⟨r2, rfl, hr2⟩ := owns_sv ho1
    simp only [svV]
    repeat (first | (refine M0 ?_; first | refine O0 ?_ | refine z1 tok rfl ?_ | refine O1 rfl ?_ rfl | refine O2 rfl ?_ | refine O3 rfl ?_ rfl | refine O4 rfl rfl rfl (fun _ _ => ?_) | refine O5 tok rfl rfl rfl (fun _ _ => ?_) | refine U0 _ (U2 rfl) rfl ?_ | refine U0 _ (U3 tok rfl rfl rfl rfl rfl) rfl ?_ | refine z3 tok rfl ?_ | refine U0 _ (U4 rfl rfl) rfl ?_ | refine U0 _ (U5 rfl rfl) rfl ?_) | (refine M1 ?_; first | refine J0 ?_ | refine J1 ?_ | refine J2 mixed rfl (by kernel_rfl) ?_ | refine J3 mixed rfl rfl (by kernel_rfl) ?_ | refine J4 ?_ | refine J5 ?_ | refine J6 ?_ | refine J7 ?_ | refine J8 rfl ?_ | refine J9 rfl ?_) | (refine M2 ?_; first | refine I0 ?_ | refine I1 ?_ | refine I2 ?_ | refine I3 ?_ | refine I4 ?_ | refine I5 ?_ | refine I6 rfl ?_ | refine I7 ?_ | refine I8 ?_ | refine z4 ?_) | (refine M3 ?_; first | refine O6 ?_ | refine z2 tok rfl ?_ | refine O8 rfl ?_ | refine O7 rfl ?_ rfl | refine O9 rfl ?_ rfl | refine U1 _ (U4 rfl rfl) rfl ?_ | refine U1 _ (U5 rfl rfl) rfl ?_ | refine U1 _ (U2 rfl) rfl ?_ | refine U1 _ (U3 tok rfl rfl rfl rfl rfl) rfl ?_) | (refine M4 ?_; first | refine M6 ?_ | refine U6 rfl (by kernel_rfl) ?_ | refine U7 (by kernel_rfl) ?_) | (refine M5 ?_; first | exact M7 | refine U8 rfl ?_ | refine U9 rfl rfl ?_ ?_))
    refine XE.roundW (s := (k, W, r)) ?_
    intro w3 S3
    have e1 : polV b s s.vol (k + 1) = polV b s s.vol k - tk := by rw [htkq]; rfl
    have e2 : (ints (filK b s k) ++ sp).set (0 + (k : Int).toNat * 1) (.int .i64 (s.f k + tk)) = ints (filK b s (k + 1)) ++ sp := by
      rw [Nat.zero_add, Int.toNat_natCast, Nat.mul_one, htkq]; exact filK_set hkm sp
    rw [e2] at S3
    refine ⟨(k + 1, w3, r2), ⟨hkm, ?_, ?_⟩, ?_, (by repeat (first | exact Sub.nil | refine Sub.cons rfl ?_)), ?_⟩
    · simp only [e1]
      refine ((SW.trans ((S1.pop hgb).pop hgx) (fun x hx => by simpa using hx)).grown hg1 fun q hq => ?_).trans S3 (fun x hx => by simpa using hx)
      have := hown.lt q hq
      exact ⟨this.1, fun x hx e2 => by simp only [List.mem_cons, List.not_mem_nil, or_false] at hx; rcases hx with rfl | rfl <;> simp only at e2 <;> omega⟩
    · have e3 : ints (rg (k + 1) fun i => polT b s s.vol i) = ints (rg k fun i => polT b s s.vol i) ++ [.int .i64 tk] := by rw [rg_succ, htkq]; simp [ints, polT]
      simp only [e3]
      exact owns_sys ho1 S3 (owns_sep ho1 (fun x hx => by simp only [List.mem_cons, List.not_mem_nil, or_false] at hx; rcases hx with rfl | rfl <;> simp only <;> omega))
    · simp only; omega
    · simp only [e1]
      exact S3.rebase (List.Sublist.refl _)
  · have hge : k = b.pols.length := by simp at h1; omega
    subst hge
    repeat (first | (refine M0 ?_; first | refine O0 ?_ | refine z1 tok rfl ?_ | refine O1 rfl ?_ rfl | refine O2 rfl ?_ | refine O3 rfl ?_ rfl | refine O4 rfl rfl rfl (fun _ _ => ?_) | refine O5 tok rfl rfl rfl (fun _ _ => ?_) | refine U0 _ (U2 rfl) rfl ?_ | refine U0 _ (U3 tok rfl rfl rfl rfl rfl) rfl ?_ | refine z3 tok rfl ?_ | refine U0 _ (U4 rfl rfl) rfl ?_ | refine U0 _ (U5 rfl rfl) rfl ?_) | (refine M1 ?_; first | refine J0 ?_ | refine J1 ?_ | refine J2 mixed rfl (by kernel_rfl) ?_ | refine J3 mixed rfl rfl (by kernel_rfl) ?_ | refine J4 ?_ | refine J5 ?_ | refine J6 ?_ | refine J7 ?_ | refine J8 rfl ?_ | refine J9 rfl ?_) | (refine M2 ?_; first | refine I0 ?_ | refine I1 ?_ | refine I2 ?_ | refine I3 ?_ | refine I4 ?_ | refine I5 ?_ | refine I6 rfl ?_ | refine I7 ?_ | refine I8 ?_ | refine z4 ?_) | (refine M3 ?_; first | refine O6 ?_ | refine z2 tok rfl ?_ | refine O8 rfl ?_ | refine O7 rfl ?_ rfl | refine O9 rfl ?_ rfl | refine U1 _ (U4 rfl rfl) rfl ?_ | refine U1 _ (U5 rfl rfl) rfl ?_ | refine U1 _ (U2 rfl) rfl ?_ | refine U1 _ (U3 tok rfl rfl rfl rfl rfl) rfl ?_) | (refine M4 ?_; first | refine M6 ?_ | refine U6 rfl (by kernel_rfl) ?_ | refine U7 (by kernel_rfl) ?_) | (refine M5 ?_; first | exact M7 | refine U8 rfl ?_ | refine U9 rfl rfl ?_ ?_))
    refine XE.retg tok Tryd.results90 rfl (by simp only [and_self, and_true]) (fun w' S => ?_)
    refine ⟨rfl, r, ?_, ?_⟩
    · rw [← filK_end]
      exact SW.trans S (fun x hx => by simpa using hx)
    · exact owns_sys hown S (owns_sep hown (fun x hx => by simp only [List.mem_cons, List.not_mem_nil, or_false] at hx; rcases hx with rfl | rfl <;> simp only <;> omega))
end
end Go.Proofs.YtoiepgcjinccpaaDoor.X
/-
  A walk by lemmas (13): a slice against nil; arrays as values; the world at hand as the new base; what a slice of one's own is behind a call.
-/
namespace Go.Proofs.YtoiepgcjinccpaaDoor.X
open Go Go.RowKit
set_option linter.unusedVariables false
section
variable {P : Program} {T : TT} {N : Nat} {B : Nat} {w0 : World} {ds : List Deferred} {Q : Exit → Act → World → Prop} {F : Fr} {L L' : Lo} {pu : Prop} {ops : Array Oper} {rest : List Oper}
variable {dst : Option Tmp} {ty : TypeId} {p : String} {af : Array Edge} {gd : Option (Nat × Bool)}
theorem XL.rebase (hs : List.Sublist L' L) (k : ∀ w1, Sys B w0 L w1 → XL P N B w1 ds Q ops rest F L') : XL P N B w0 ds Q ops rest F L :=
  ⟨fun a w hf h => (k w h).run a w hf (h.rebase hs)⟩
theorem XC.rebase {c : Code} (hs : List.Sublist L' L) (k : ∀ w1, Sys B w0 L w1 → XC P N B w1 ds Q c F L') : XC P N B w0 ds Q c F L :=
  ⟨fun a w hf h => (k w h).run a w hf (h.rebase hs)⟩
theorem Ev.eqNil (hT : TOK P T) {x y : Operand} {t e es : Nat} {u : TypeId} {A : Option Addr} {n c : Nat} (hx : evo F x = some (.slice A n c)) (hy : evo F y = some (.slice none 0 0)) (hs : lkG T.sl t = some (e, es)) :
    Ev P N B w0 ds pu F L ⟨dst, .binOp .eql t x y u, ty, p, af, gd⟩ (.bool A.isNone) := .of_run fun a w hf hw => by
  have h := tab_ok hT.sl hs
  unfold slOf at h
  cases hu : P.underlying t with
  | none => rw [hu] at h; cases h
  | some d =>
    rw [hu] at h
    cases d <;> simp at h
    rename_i e'
    have h1 := Lib.run_eql_slice_nil (P := P) w t e' A n c 0 0 hu
    have h2 : (eqGuard .eql t x y (.slice A n c) (.slice none 0 0)).run P w = .ok () w := by simp [eqGuard]
    simp only [execOp, hf.eval hx, hf.eval hy, Sem.run_bind, h2, Result.andThen_ok, h1, Sem.run_pure]
/-- a call that turns one own block. -/
theorem XL.callT (i : Nat) {f : FuncId} {d : Nat} {c : Operand} {fst cap : List Value} {args : Array Operand} {vs : List Value} {ats : Array TypeId} {g B' : Nat} {o o' : Obj} {v : Value} (h : callOk P f = true)
    (hcv : evo F c = some (.func (.func f) fst.toArray cap.toArray)) (ha : evos F args.toList = some vs) (hd : Nat.blt d N = true) (hL : L[i]? = some (g, o)) (hL' : setN L i (g, o') = some L')
    (hc : ∀ w, Sys B w0 L w → Calls P f (fst ++ vs ++ cap).toArray w fun e w' => e = .returned v ∧ Sys B' w [(g, o')] w') (k : XL P N B w0 ds Q ops rest ((d, v) :: F) L') :
    XL P N B w0 ds Q ops ({ dst := some d, op := .call { callee := .value c, args := args, argTypes := ats }, type := ty, pos := p, after := af, guard := none } :: rest) F L :=
  XL.callr (fun w u w' => u = v ∧ Sys B' w [(g, o')] w') h hcv ha hd (fun w S => (hc w S).mono fun e w' he => ⟨v, he.1, rfl, he.2⟩)
    (fun w u w' S hR => ⟨L', w0, S.turned i hL hL' hR.2, by rw [hR.1]; exact k⟩)
theorem set_cases {i g : Nat} {o o' : Obj} (nd : (L.map (·.1)).Nodup) (hi : L[i]? = some (g, o)) : (L.set i (g, o')).map (·.1) = L.map (·.1) ∧ ∀ e, e ∈ L.set i (g, o') → e = (g, o') ∨ (e ∈ L ∧ e.1 ≠ g) := by
  have hlt : i < L.length := (List.getElem?_eq_some_iff.1 hi).1
  have hLi : L[i] = (g, o) := (List.getElem?_eq_some_iff.1 hi).2
  refine ⟨?_, fun e he => ?_⟩
  · rw [List.map_set]
    have : (L.map (·.1))[i]'(by simpa using hlt) = g := by simp [hLi]
    conv => rhs; rw [← @List.set_getElem_self _ (L.map (·.1)) i (by simpa using hlt)]
    rw [this]
  · obtain ⟨j, hj, rfl⟩ := List.mem_iff_getElem.1 he
    by_cases hij : i = j
    · subst hij; left; simp
    · right
      rw [List.getElem_set_ne hij]
      simp at hj
      refine ⟨List.getElem_mem _, fun e2 => ?_⟩
      have hn := List.getElem_inj (xs := L.map (·.1)) (i := i) (j := j) (h₀ := by simpa using hlt) (h₁ := by simpa using hj) nd
      exact hij (hn.1 (by simp [hLi, e2]))
/-- one own block has been turned, and one of no matter here. -/
theorem Sys.turnedF {w5 w6 : World} {B' g f : Nat} {o o' o2 : Obj} (S : Sys B w0 L w5) (i : Nat) (hL : L[i]? = some (g, o)) (hL' : setN L i (g, o') = some L') (h' : Sys B' w5 [(g, o'), (f, o2)] w6) (hf : ∀ e, e ∈ L → e.1 ≠ f) : Sys B w6 L' w6 := by
  obtain ⟨e, _⟩ := setN_spec _ _ _ _ hL'
  subst e
  obtain ⟨h1, h2⟩ := set_cases (o' := o') S.nd hL
  refine Sys.start (Nat.le_trans S.base (Nat.le_trans S.size h'.size)) (fun x hx => ?_) (by rw [h1]; exact S.nd)
  rcases h2 x hx with rfl | ⟨hm, hne⟩
  · exact ⟨(S.own _ (List.mem_of_getElem? hL)).1, (h'.own _ (List.mem_cons_self)).2⟩
  · refine ⟨(S.own x hm).1, ?_⟩
    rw [h'.old x.1 (S.lt hm) (fun y hy e1 => ?_)]
    · exact (S.own x hm).2
    · simp only [List.mem_cons, List.not_mem_nil, or_false] at hy
      rcases hy with rfl | rfl
      · exact hne e1.symm
      · exact hf x hm e1.symm
/-- an array of one-cell elements is built. -/
theorem Ev.buildArr (hT : TOK P T) {t e n : Nat} {parts : List (Nat × Operand)} {z : Value} {zs cs : List Value} (hu : P.underlying t = some (.array n e)) (he : (P.info? e).map (·.size) = some 1) (hz : lkG T.zero t = some z) (hzs : cellsO z = some zs)
    (hc : fillS F 1 zs parts = some cs) : Ev P N B w0 ds pu F L ⟨dst, .build t parts.toArray, ty, p, af, gd⟩ (.agg cs.toArray) := .of_run fun a w hf hw => by
  cases hi : P.info? e with
  | none => rw [hi] at he; cases he
  | some i =>
    rw [hi] at he
    simp only [Option.map_some, Option.some.injEq] at he
    have hfill := fillS_spec hf parts zs cs hc (by decide)
    simp only [execOp, Instr.build, Sem.run_bind, zero_run hT hz, Result.andThen_ok, run_underlying hu, sizeOf_run hi, he, cellsO_spec hzs, List.map_toArray]
    rw [hfill]
    simp
theorem Ev.indexArr (hT : TOK P T) {t e n : Nat} {x i : Operand} {cs : List Value} {k : IntKind} {j : Nat} {v : Value} (hu : P.underlying t = some (.array n e)) (he : lkG T.one e = some ()) (hx : evo F x = some (.agg cs.toArray)) (hi : evo F i = some (.int k (j : Int))) (hj : j < n)
    (hv : cs[j]? = some v) : Ev P N B w0 ds pu F L ⟨dst, .index t x i, ty, p, af, gd⟩ v := .of_run fun a w hf hw => by
  obtain ⟨h1, h2⟩ := isAgg_of_one (tab_ok hT.one he) w
  simp [execOp, Instr.index, hf.eval hx, hf.eval hi, run_underlying hu, asIntOf, hj, h2, part, asAgg, h1, hv]
end
theorem owns_base {w : World} {base base' e size n : Nat} {v : Value} {xs : List Value} (h : w.ownsRow base e size v n xs) (hb : base' ≤ base) : w.ownsRow base' e size v n xs := by
  refine ⟨h.1, ?_⟩
  rcases h.2 with h | ⟨g, cap, cur, rfl, hb2, h⟩
  · exact .inl h
  · exact .inr ⟨g, cap, cur, rfl, by omega, h⟩
/-- its block, known whole. -/
theorem owns_block {w : World} {base e n : Nat} {A : Option Addr} {m c : Nat} {xs : List Value} (h : w.ownsRow base e 1 (.slice A m c) n xs) (hn : 0 < n) : ∃ g sp, A = some ⟨g, 0, none⟩ ∧ m = n ∧ base ≤ g ∧ w.heap[g]? = some (cel e (xs ++ sp)) ∧ xs.length + sp.length = c ∧ c ≤ maxLen := by
  rcases h.2 with ⟨e1, rfl⟩ | ⟨g, cap, cur, e1, hb, hg, hc, hm, hsz, hx⟩
  · omega
  · cases e1
    refine ⟨g, cur.toList.drop (n * 1), rfl, rfl, hb, ?_, ?_, hm⟩
    · rw [hg, ← hx, List.take_append_drop]
    · have := h.1
      have h2 : cur.toList.length = c := by simp [hsz]
      simp only [List.length_drop, h2]
      omega
theorem owns_of {w : World} {base e g n c : Nat} {xs sp : List Value} (hg : w.heap[g]? = some (cel e (xs ++ sp))) (hb : base ≤ g) (hn : xs.length = n) (hc : xs.length + sp.length = c) (hm : c ≤ maxLen) : w.ownsRow base e 1 (.slice (some ⟨g, 0, none⟩) n c) n xs :=
  ⟨by omega, .inr ⟨g, c, (xs ++ sp).toArray, rfl, hb, hg, by omega, hm, by simp; omega, by simp [← hn]⟩⟩
theorem IntsAt.own {w : World} {base e : Nat} {r : SV} {l : List Int} (h : w.ownsRow base e 1 (svV r) l.length (ints l)) : IntsAt w (Btw base w.heap.size) r l := by
  obtain ⟨h1, h2, _, h4⟩ := ReadsP.own h
  exact ⟨by rw [h2]; exact h1, by rw [h2]; simp only [maxLen] at h4; omega⟩
theorem IntsAt.nil {w : World} {ok : Nat → Prop} : IntsAt w ok ⟨none, 0, 0⟩ [] := ⟨ReadsP.nil, by simp⟩
theorem Keep.sysT {ok : Nat → Prop} {w0 w : World} {B : Nat} {L L' : Lo} (h : Keep ok w0 L) (S : Sys B w0 L' w) (e : L'.map (·.1) = L.map (·.1)) : ∀ k, ok k → w.heap[k]? = w0.heap[k]? := (h.turn e).sys S
end Go.Proofs.YtoiepgcjinccpaaDoor.X
/-
  The walks of slices.Clone and of the polders of a basin without any.
-/
namespace Go.Proofs.YtoiepgcjinccpaaDoor.X
open Go Go.RowKit Go.Proofs.YtoiepgcjinccpaaDoor.Bs
set_option linter.unusedVariables false
theorem clone_any {q : SV} {l : List Int} {w : World} (hq : IntsAt w (Lt w.heap.size) q l) (hl : l.length ≤ 1000) :
    Calls Tryd.prog 85 #[svV q] w fun e w' => ∃ v, e = .returned v ∧ ((∃ r : SV, v = svV r ∧ w'.ownsRow w.heap.size 3 1 (svV r) l.length (ints l)) ∧ Below w.heap.size w w') := by
  obtain ⟨A, n, c⟩ := q
  have hn := hq.len
  simp only at hn
  subst hn
  simp only [svV]
  cases A with
  | none =>
    have h0 : l = [] := by
      cases l with
      | nil => rfl
      | cons x r => obtain ⟨ad, e, _⟩ := hq.at_ (by simp); cases e
    subst h0
    refine enter Tryd.func85 rfl Tryd.ntmps85 rfl ?_; simp only [frame, Nat.zero_add, Nat.reduceAdd]
    repeat (first | (refine M0 ?_; first | refine O0 ?_ | refine z1 tok rfl ?_ | refine O1 rfl ?_ rfl | refine O2 rfl ?_ | refine O3 rfl ?_ rfl | refine U0 _ (Ev.eqNil tok rfl rfl rfl) rfl ?_ | refine O4 rfl rfl rfl (fun _ _ => ?_) | refine O5 tok rfl rfl rfl (fun _ _ => ?_) | refine U0 _ (U2 rfl) rfl ?_ | refine U0 _ (U3 tok rfl rfl rfl rfl rfl) rfl ?_ | refine z3 tok rfl ?_ | refine U0 _ (U4 rfl rfl) rfl ?_ | refine U0 _ (U5 rfl rfl) rfl ?_) | (refine M1 ?_; first | refine J0 ?_ | refine J1 ?_ | refine J2 mixed rfl (by kernel_rfl) ?_ | refine J3 mixed rfl rfl (by kernel_rfl) ?_ | refine J4 ?_ | refine J5 ?_ | refine J6 ?_ | refine J7 ?_ | refine J8 rfl ?_ | refine J9 rfl ?_) | (refine M2 ?_; first | refine I0 ?_ | refine I1 ?_ | refine I2 ?_ | refine I3 ?_ | refine I4 ?_ | refine I5 ?_ | refine I6 rfl ?_ | refine I7 ?_ | refine I8 ?_ | refine z4 ?_) | (refine M3 ?_; first | refine O6 ?_ | refine z2 tok rfl ?_ | refine O8 rfl ?_ | refine O7 rfl ?_ rfl | refine O9 rfl ?_ rfl | refine U1 _ (Ev.eqNil tok rfl rfl rfl) rfl ?_ | refine U1 _ (U4 rfl rfl) rfl ?_ | refine U1 _ (U5 rfl rfl) rfl ?_ | refine U1 _ (U2 rfl) rfl ?_ | refine U1 _ (U3 tok rfl rfl rfl rfl rfl) rfl ?_) | (refine M4 ?_; first | refine M6 ?_ | refine U6 rfl (by kernel_rfl) ?_ | refine U7 (by kernel_rfl) ?_) | (refine M5 ?_; first | exact M7 | refine U8 rfl ?_ | refine U9 rfl rfl ?_ ?_))
    refine XE.retg tok Tryd.results85 rfl (by simp only [and_self, and_true]) (fun w' S => ?_)
    exact ⟨_, rfl, ⟨⟨none, 0, 0⟩, rfl, World.ownsRow_nil _ _ _ _⟩, S.toBelow⟩
  | some ad =>
    refine enter Tryd.func85 rfl Tryd.ntmps85 rfl ?_; simp only [frame, Nat.zero_add, Nat.reduceAdd]
    repeat (first | (refine M0 ?_; first | refine O0 ?_ | refine z1 tok rfl ?_ | refine O1 rfl ?_ rfl | refine O2 rfl ?_ | refine O3 rfl ?_ rfl | refine U0 _ (Ev.eqNil tok rfl rfl rfl) rfl ?_ | refine O4 rfl rfl rfl (fun _ _ => ?_) | refine O5 tok rfl rfl rfl (fun _ _ => ?_) | refine U0 _ (U2 rfl) rfl ?_ | refine U0 _ (U3 tok rfl rfl rfl rfl rfl) rfl ?_ | refine z3 tok rfl ?_ | refine U0 _ (U4 rfl rfl) rfl ?_ | refine U0 _ (U5 rfl rfl) rfl ?_) | (refine M1 ?_; first | refine J0 ?_ | refine J1 ?_ | refine J2 mixed rfl (by kernel_rfl) ?_ | refine J3 mixed rfl rfl (by kernel_rfl) ?_ | refine J4 ?_ | refine J5 ?_ | refine J6 ?_ | refine J7 ?_ | refine J8 rfl ?_ | refine J9 rfl ?_) | (refine M2 ?_; first | refine I0 ?_ | refine I1 ?_ | refine I2 ?_ | refine I3 ?_ | refine I4 ?_ | refine I5 ?_ | refine I6 rfl ?_ | refine I7 ?_ | refine I8 ?_ | refine z4 ?_) | (refine M3 ?_; first | refine O6 ?_ | refine z2 tok rfl ?_ | refine O8 rfl ?_ | refine O7 rfl ?_ rfl | refine O9 rfl ?_ rfl | refine U1 _ (Ev.eqNil tok rfl rfl rfl) rfl ?_ | refine U1 _ (U4 rfl rfl) rfl ?_ | refine U1 _ (U5 rfl rfl) rfl ?_ | refine U1 _ (U2 rfl) rfl ?_ | refine U1 _ (U3 tok rfl rfl rfl rfl rfl) rfl ?_) | (refine M4 ?_; first | refine M6 ?_ | refine U6 rfl (by kernel_rfl) ?_ | refine U7 (by kernel_rfl) ?_) | (refine M5 ?_; first | exact M7 | refine U8 rfl ?_ | refine U9 rfl rfl ?_ ?_))
    refine XL.buildSlice tok rfl rfl rfl rfl rfl rfl rfl rfl rfl (fun gb hgb => ?_)
    refine XL.rebase (L' := []) (List.nil_sublist _) (fun w1 S1 => ?_)
    have hg1 := (S1.own _ (List.mem_cons_self)).2
    have hb1 := (hq.arg S1)
    repeat (first | (refine M0 ?_; first | refine O0 ?_ | refine z1 tok rfl ?_ | refine O1 rfl ?_ rfl | refine O2 rfl ?_ | refine O3 rfl ?_ rfl | refine O4 rfl rfl rfl (fun _ _ => ?_) | refine O5 tok rfl rfl rfl (fun _ _ => ?_) | refine U0 _ (U2 rfl) rfl ?_ | refine U0 _ (U3 tok rfl rfl rfl rfl rfl) rfl ?_ | refine z3 tok rfl ?_ | refine U0 _ (U4 rfl rfl) rfl ?_ | refine U0 _ (U5 rfl rfl) rfl ?_) | (refine M1 ?_; first | refine J0 ?_ | refine J1 ?_ | refine J2 mixed rfl (by kernel_rfl) ?_ | refine J3 mixed rfl rfl (by kernel_rfl) ?_ | refine J4 ?_ | refine J5 ?_ | refine J6 ?_ | refine J7 ?_ | refine J8 rfl ?_ | refine J9 rfl ?_) | (refine M2 ?_; first | refine I0 ?_ | refine I1 ?_ | refine I2 ?_ | refine I3 ?_ | refine I4 ?_ | refine I5 ?_ | refine I6 rfl ?_ | refine I7 ?_ | refine I8 ?_ | refine z4 ?_) | (refine M3 ?_; first | refine O6 ?_ | refine z2 tok rfl ?_ | refine O8 rfl ?_ | refine O7 rfl ?_ rfl | refine O9 rfl ?_ rfl | refine U1 _ (U4 rfl rfl) rfl ?_ | refine U1 _ (U5 rfl rfl) rfl ?_ | refine U1 _ (U2 rfl) rfl ?_ | refine U1 _ (U3 tok rfl rfl rfl rfl rfl) rfl ?_) | (refine M4 ?_; first | refine M6 ?_ | refine U6 rfl (by kernel_rfl) ?_ | refine U7 (by kernel_rfl) ?_) | (refine M5 ?_; first | exact M7 | refine U8 rfl ?_ | refine U9 rfl rfl ?_ ?_))
    have hcell : ∀ j u, (ints l)[j]? = some u → w1.cell? (ad.add j) = some u ∧ ad.block < w1.heap.size := fun j u hj => by
      have hlen := hq.rd.len
      obtain ⟨ad', e1, h1, h2⟩ := hb1.rd.at_ (by have := (List.getElem?_eq_some_iff.1 hj).1; rw [ints_len] at this; simp only; omega)
      cases e1
      exact ⟨h2 j u hj, h1⟩
    refine XL.append (v := .slice (some ⟨gb, 0, none⟩) 0 0) (m := l.length) (n := 0) (size := 1) (bytes := 8) (base := w.heap.size) (xs := []) (news := ints l) (L' := []) int_el (by decide) rfl rfl rfl
      ⟨by simp, .inr ⟨gb, 0, #[], rfl, hgb, hg1, Nat.le_refl _, Nat.zero_le _, by simp, by simp⟩⟩ (fun k hk x hx => by cases hx) (by rw [ints_len]; simp)
      (fun w2 S2 j u hj => by
        obtain ⟨h3, h4⟩ := hcell j u hj
        exact (S2.farCell (by rw [add_block]; exact h4) (fun x hx => by cases hx)).trans h3) (by simp [ints, Value.oneCell']) (by unfold maxLen; omega) (by omega) S1.size (List.nil_sublist _) (fun w2 v' w3 S2 ho hg _ => ?_)
    obtain ⟨r, rfl, hr⟩ := owns_sv ho
    rw [Nat.zero_add, List.nil_append] at ho
    have hB : Below w.heap.size w w3 := S1.toBelow.trans (Below.trans S2.toBelow ⟨hg.os, hg.tape, hg.output, hg.size, fun k hk => hg.block k (Nat.lt_of_lt_of_le (Nat.lt_of_lt_of_le hk S1.size) S2.size) fun e => by simp [Value.ownBlock] at e; omega⟩)
    repeat (first | (refine M0 ?_; first | refine O0 ?_ | refine z1 tok rfl ?_ | refine O1 rfl ?_ rfl | refine O2 rfl ?_ | refine O3 rfl ?_ rfl | refine O4 rfl rfl rfl (fun _ _ => ?_) | refine O5 tok rfl rfl rfl (fun _ _ => ?_) | refine U0 _ (U2 rfl) rfl ?_ | refine U0 _ (U3 tok rfl rfl rfl rfl rfl) rfl ?_ | refine z3 tok rfl ?_ | refine U0 _ (U4 rfl rfl) rfl ?_ | refine U0 _ (U5 rfl rfl) rfl ?_) | (refine M1 ?_; first | refine J0 ?_ | refine J1 ?_ | refine J2 mixed rfl (by kernel_rfl) ?_ | refine J3 mixed rfl rfl (by kernel_rfl) ?_ | refine J4 ?_ | refine J5 ?_ | refine J6 ?_ | refine J7 ?_ | refine J8 rfl ?_ | refine J9 rfl ?_) | (refine M2 ?_; first | refine I0 ?_ | refine I1 ?_ | refine I2 ?_ | refine I3 ?_ | refine I4 ?_ | refine I5 ?_ | refine I6 rfl ?_ | refine I7 ?_ | refine I8 ?_ | refine z4 ?_) | (refine M3 ?_; first | refine O6 ?_ | refine z2 tok rfl ?_ | refine O8 rfl ?_ | refine O7 rfl ?_ rfl | refine O9 rfl ?_ rfl | refine U1 _ (U4 rfl rfl) rfl ?_ | refine U1 _ (U5 rfl rfl) rfl ?_ | refine U1 _ (U2 rfl) rfl ?_ | refine U1 _ (U3 tok rfl rfl rfl rfl rfl) rfl ?_) | (refine M4 ?_; first | refine M6 ?_ | refine U6 rfl (by kernel_rfl) ?_ | refine U7 (by kernel_rfl) ?_) | (refine M5 ?_; first | exact M7 | refine U8 rfl ?_ | refine U9 rfl rfl ?_ ?_))
    refine XE.retg tok Tryd.results85 rfl (by simp only [and_self, and_true]) (fun w' S => ?_)
    exact ⟨_, rfl, ⟨r, rfl, owns_sys ho S (fun k hk x hx => by cases hx)⟩, hB.trans S.toBelow⟩
section
variable {g : Nat} {p : BV} {b : Bas} {q r : SV} {s : Sta} {t : Tick} {f : Flo} {w : World}
theorem polders0_any (h : w.heap[g]? = some (watO p b q s t r f)) (hb : BasAt w g p b) (hm : b.pols.length = 0) :
    Calls Tryd.prog 90 #[.pointer (some ⟨g, 0, none⟩)] w fun e w' => e = .returned (.bool true) ∧ Sys g w [(g, watO p b q s t r f)] w' := by
  obtain ⟨A, n, c, A2, n2, c2⟩ := p
  have hn2 := hb.n2_eq
  simp only at hn2
  subst hn2
  simp only [watO, watC] at h
  refine enterL Tryd.func90 rfl Tryd.ntmps90 rfl (Sys.start1 (Nat.le_refl g) h) ?_; simp only [frame, Nat.zero_add, Nat.reduceAdd]
  refine XC.hint 0 0 ?_
  repeat (first | (refine M0 ?_; first | refine O0 ?_ | refine z1 tok rfl ?_ | refine O1 rfl ?_ rfl | refine O2 rfl ?_ | refine O3 rfl ?_ rfl | refine O4 rfl rfl rfl (fun _ _ => ?_) | refine O5 tok rfl rfl rfl (fun _ _ => ?_) | refine U0 _ (U2 rfl) rfl ?_ | refine U0 _ (U3 tok rfl rfl rfl rfl rfl) rfl ?_ | refine z3 tok rfl ?_ | refine U0 _ (U4 rfl rfl) rfl ?_ | refine U0 _ (U5 rfl rfl) rfl ?_) | (refine M1 ?_; first | refine J0 ?_ | refine J1 ?_ | refine J2 mixed rfl (by kernel_rfl) ?_ | refine J3 mixed rfl rfl (by kernel_rfl) ?_ | refine J4 ?_ | refine J5 ?_ | refine J6 ?_ | refine J7 ?_ | refine J8 rfl ?_ | refine J9 rfl ?_) | (refine M2 ?_; first | refine I0 ?_ | refine I1 ?_ | refine I2 ?_ | refine I3 ?_ | refine I4 ?_ | refine I5 ?_ | refine I6 rfl ?_ | refine I7 ?_ | refine I8 ?_ | refine z4 ?_) | (refine M3 ?_; first | refine O6 ?_ | refine z2 tok rfl ?_ | refine O8 rfl ?_ | refine O7 rfl ?_ rfl | refine O9 rfl ?_ rfl | refine U1 _ (U4 rfl rfl) rfl ?_ | refine U1 _ (U5 rfl rfl) rfl ?_ | refine U1 _ (U2 rfl) rfl ?_ | refine U1 _ (U3 tok rfl rfl rfl rfl rfl) rfl ?_) | (refine M4 ?_; first | refine M6 ?_ | refine U6 rfl (by kernel_rfl) ?_ | refine U7 (by kernel_rfl) ?_) | (refine M5 ?_; first | exact M7 | refine U8 rfl ?_ | refine U9 rfl rfl ?_ ?_))
  refine XC.loopk [0, 11, 12] rfl (fun _ : Unit => [(13, .int .i64 0)]) (fun _ => _) (fun _ => w) (fun _ => True) (fun _ => 0) () trivial (by repeat (first | exact Sub.nil | refine Sub.cons rfl ?_)) (fun _ h => h) ?_
  intro _ _
  dsimp only [List.cons_append, List.nil_append]
  repeat (first | (refine M0 ?_; first | refine O0 ?_ | refine z1 tok rfl ?_ | refine O1 rfl ?_ rfl | refine O2 rfl ?_ | refine O3 rfl ?_ rfl | refine O4 rfl rfl rfl (fun _ _ => ?_) | refine O5 tok rfl rfl rfl (fun _ _ => ?_) | refine U0 _ (U2 rfl) rfl ?_ | refine U0 _ (U3 tok rfl rfl rfl rfl rfl) rfl ?_ | refine z3 tok rfl ?_ | refine U0 _ (U4 rfl rfl) rfl ?_ | refine U0 _ (U5 rfl rfl) rfl ?_) | (refine M1 ?_; first | refine J0 ?_ | refine J1 ?_ | refine J2 mixed rfl (by kernel_rfl) ?_ | refine J3 mixed rfl rfl (by kernel_rfl) ?_ | refine J4 ?_ | refine J5 ?_ | refine J6 ?_ | refine J7 ?_ | refine J8 rfl ?_ | refine J9 rfl ?_) | (refine M2 ?_; first | refine I0 ?_ | refine I1 ?_ | refine I2 ?_ | refine I3 ?_ | refine I4 ?_ | refine I5 ?_ | refine I6 rfl ?_ | refine I7 ?_ | refine I8 ?_ | refine z4 ?_) | (refine M3 ?_; first | refine O6 ?_ | refine z2 tok rfl ?_ | refine O8 rfl ?_ | refine O7 rfl ?_ rfl | refine O9 rfl ?_ rfl | refine U1 _ (U4 rfl rfl) rfl ?_ | refine U1 _ (U5 rfl rfl) rfl ?_ | refine U1 _ (U2 rfl) rfl ?_ | refine U1 _ (U3 tok rfl rfl rfl rfl rfl) rfl ?_) | (refine M4 ?_; first | refine M6 ?_ | refine U6 rfl (by kernel_rfl) ?_ | refine U7 (by kernel_rfl) ?_) | (refine M5 ?_; first | exact M7 | refine U8 rfl ?_ | refine U9 rfl rfl ?_ ?_))
  refine XC.cond _ rfl (fun h1 => ?_) (fun h1 => ?_)
  · simp [hm] at h1
  · repeat (first | (refine M0 ?_; first | refine O0 ?_ | refine z1 tok rfl ?_ | refine O1 rfl ?_ rfl | refine O2 rfl ?_ | refine O3 rfl ?_ rfl | refine O4 rfl rfl rfl (fun _ _ => ?_) | refine O5 tok rfl rfl rfl (fun _ _ => ?_) | refine U0 _ (U2 rfl) rfl ?_ | refine U0 _ (U3 tok rfl rfl rfl rfl rfl) rfl ?_ | refine z3 tok rfl ?_ | refine U0 _ (U4 rfl rfl) rfl ?_ | refine U0 _ (U5 rfl rfl) rfl ?_) | (refine M1 ?_; first | refine J0 ?_ | refine J1 ?_ | refine J2 mixed rfl (by kernel_rfl) ?_ | refine J3 mixed rfl rfl (by kernel_rfl) ?_ | refine J4 ?_ | refine J5 ?_ | refine J6 ?_ | refine J7 ?_ | refine J8 rfl ?_ | refine J9 rfl ?_) | (refine M2 ?_; first | refine I0 ?_ | refine I1 ?_ | refine I2 ?_ | refine I3 ?_ | refine I4 ?_ | refine I5 ?_ | refine I6 rfl ?_ | refine I7 ?_ | refine I8 ?_ | refine z4 ?_) | (refine M3 ?_; first | refine O6 ?_ | refine z2 tok rfl ?_ | refine O8 rfl ?_ | refine O7 rfl ?_ rfl | refine O9 rfl ?_ rfl | refine U1 _ (U4 rfl rfl) rfl ?_ | refine U1 _ (U5 rfl rfl) rfl ?_ | refine U1 _ (U2 rfl) rfl ?_ | refine U1 _ (U3 tok rfl rfl rfl rfl rfl) rfl ?_) | (refine M4 ?_; first | refine M6 ?_ | refine U6 rfl (by kernel_rfl) ?_ | refine U7 (by kernel_rfl) ?_) | (refine M5 ?_; first | exact M7 | refine U8 rfl ?_ | refine U9 rfl rfl ?_ ?_))
    refine XE.retg tok Tryd.results90 rfl (by simp only [and_self, and_true]) (fun w' S => ?_)
    exact ⟨rfl, S⟩
end
end Go.Proofs.YtoiepgcjinccpaaDoor.X
/-
  The walk of the program's step.
-/
namespace Go.Proofs.YtoiepgcjinccpaaDoor.Bs
theorem polV_vol (b : Bas) (s : Sta) (x v : Int) : ∀ k, polV b ⟨x, s.fil⟩ v k = polV b s v k := by
  intro k
  induction k with
  | zero => rfl
  | succ k ih => simp only [polV, ih]; rfl
theorem polT_vol (b : Bas) (s : Sta) (x v : Int) (k : Nat) : polT b ⟨x, s.fil⟩ v k = polT b s v k := by unfold polT; rw [polV_vol]; rfl
def outS (b : Bas) (s : Sta) (t : Tick) : Sta := if stepE b s t = 0 then stepS b s t else ⟨0, []⟩
def outF (b : Bas) (s : Sta) (t : Tick) : Flo := if stepE b s t = 0 then stepF b s t else ⟨0, 0, 0, 0, []⟩
def staK (b : Bas) (s : Sta) (t : Tick) : Nat → Sta
  | 0 => s
  | 1 => ⟨vol1 s t, s.fil⟩
  | 2 => ⟨vol2 b s t, s.fil⟩
  | 3 => ⟨vol3 b s t, s.fil⟩
  | 4 => ⟨vol4 b s t, s.fil⟩
  | _ => ⟨polV b s (vol4 b s t) b.pols.length, s.fil⟩
def floK (b : Bas) (s : Sta) (t : Tick) : Nat → Flo
  | 0 => ⟨0, 0, 0, 0, []⟩
  | 1 => ⟨t.river, 0, 0, 0, []⟩
  | 2 => ⟨t.river, overOf b t, 0, 0, []⟩
  | 3 => ⟨t.river, overOf b t, leakOf b t.outer (vol2 b s t), 0, []⟩
  | _ => ⟨t.river, overOf b t, leakOf b t.outer (vol2 b s t), outOf b s t, []⟩
def filS (b : Bas) (s : Sta) (t : Tick) (k : Nat) : List Int := if k ≤ 4 then s.fil else (stepS b s t).fil
def tkS (b : Bas) (s : Sta) (t : Tick) (k : Nat) : List Int := if k ≤ 4 then [] else (stepF b s t).taken
theorem stepE_7 {b : Bas} {s : Sta} {t : Tick} (h : tickBad t = true) : stepE b s t = 7 := by unfold stepE; rw [if_pos h]
theorem stepE_3 {b : Bas} {s : Sta} {t : Tick} (h : tickBad t = false) (h1 : 1000000000 < vol1 s t ∨ 1000000000 < vol2 b s t ∨ 1000000000 < vol3 b s t) : stepE b s t = 3 := by
  unfold stepE
  rw [if_neg (by simp [h])]
  by_cases a : 1000000000 < vol1 s t
  · rw [if_pos a]
  · rw [if_neg a]
    by_cases c : 1000000000 < vol2 b s t
    · rw [if_pos c]
    · rw [if_neg c, if_pos (by omega)]
theorem stepE_0 {b : Bas} {s : Sta} {t : Tick} (h : tickBad t = false) (h1 : vol1 s t ≤ 1000000000) (h2 : vol2 b s t ≤ 1000000000) (h3 : vol3 b s t ≤ 1000000000) : stepE b s t = 0 := by
  unfold stepE
  rw [if_neg (by simp [h]), if_neg (by omega), if_neg (by omega), if_neg (by omega)]
theorem outS_n {b : Bas} {s : Sta} {t : Tick} (h : stepE b s t ≠ 0) : outS b s t = ⟨0, []⟩ := by unfold outS; rw [if_neg h]
theorem outF_n {b : Bas} {s : Sta} {t : Tick} (h : stepE b s t ≠ 0) : outF b s t = ⟨0, 0, 0, 0, []⟩ := by unfold outF; rw [if_neg h]
theorem outS_0 {b : Bas} {s : Sta} {t : Tick} (h : stepE b s t = 0) : outS b s t = stepS b s t := by unfold outS; rw [if_pos h]
theorem outF_0 {b : Bas} {s : Sta} {t : Tick} (h : stepE b s t = 0) : outF b s t = stepF b s t := by unfold outF; rw [if_pos h]
end Go.Proofs.YtoiepgcjinccpaaDoor.Bs
namespace Go.Proofs.YtoiepgcjinccpaaDoor.X
open Go Go.RowKit Go.Proofs.YtoiepgcjinccpaaDoor.Bs
set_option linter.unusedVariables false
/-- what a tick's call returns. -/
def StepR (b : Bas) (s : Sta) (t : Tick) (w : World) (v : Value) (w' : World) : Prop :=
  ∃ q r : SV, v = .tuple ⟨[staV q (outS b s t), floV r (outF b s t), .int .i64 (stepE b s t)]⟩ ∧ IntsAt w' (Btw w.heap.size w'.heap.size) q (outS b s t).fil ∧ IntsAt w' (Btw w.heap.size w'.heap.size) r (outF b s t).taken ∧ Below w.heap.size w w'
theorem StepR.err {b : Bas} {s : Sta} {t : Tick} {w w' : World} {e : Int} (he : stepE b s t = e) (hne : e ≠ 0) (hb : Below w.heap.size w w') :
    StepR b s t w (.tuple ⟨[.agg ⟨[.int .i64 0, .slice none 0 0]⟩, .agg ⟨[.int .i64 0, .int .i64 0, .int .i64 0, .int .i64 0, .slice none 0 0]⟩, .int .i64 e]⟩) w' :=
  ⟨⟨none, 0, 0⟩, ⟨none, 0, 0⟩, by rw [outS_n (by rw [he]; exact hne), outF_n (by rw [he]; exact hne), he]; rfl, by rw [outS_n (by rw [he]; exact hne)]; exact IntsAt.nil, by rw [outF_n (by rw [he]; exact hne)]; exact IntsAt.nil, hb⟩
theorem fn_one : lkG TB.one 39 = some () := by rfl
theorem fn_size : (Tryd.prog.info? 39).map (·.size) = some 1 := by kernel_rfl
set_option maxHeartbeats 16000000 in
theorem step_any {p : BV} {b : Bas} {q : SV} {s : Sta} {t : Tick} {w : World} (hb : BasAt w w.heap.size p b) (hq : IntsAt w (Lt w.heap.size) q s.fil) (ho : Ok b) (hs : StaOk b s) :
    Calls Tryd.prog 48 #[basV p b, staV q s, tickV t] w fun e w' => ∃ v, e = .returned v ∧ StepR b s t w v w' := by
  have hm := ho.m6
  have hl := hs.len
  obtain ⟨A, n, c⟩ := q
  have hn := hq.len
  simp only at hn
  subst hn
  simp only [basV, basC, staV, staC, tickV, tickC]
  refine enter Tryd.func48 rfl Tryd.ntmps48 rfl ?_; simp only [frame, Nat.zero_add, Nat.reduceAdd]
  repeat (any_goals (first | (refine M0 ?_; first | refine O0 ?_ | refine z1 tok rfl ?_ | refine O1 rfl ?_ rfl | refine O2 rfl ?_ | refine O3 rfl ?_ rfl | (refine XL.split _ _ rfl (fun h => ?_) (fun h => ?_) <;> rw [h]) | refine U0 _ (Ev.call (f := 62) (ck rfl) rfl (fun w _ => high_any _ w)) rfl ?_ | refine U0 _ (Ev.call (f := 51) (ck rfl) rfl (fun w _ => out_any _ _ _ w)) rfl ?_ | refine O4 rfl rfl rfl (fun _ _ => ?_) | refine O5 tok rfl rfl rfl (fun _ _ => ?_) | refine U0 _ (U2 rfl) rfl ?_ | refine U0 _ (U3 tok rfl rfl rfl rfl rfl) rfl ?_ | refine z3 tok rfl ?_ | refine U0 _ (U4 rfl rfl) rfl ?_ | refine U0 _ (U5 rfl rfl) rfl ?_) | (refine M1 ?_; first | refine J0 ?_ | refine J1 ?_ | refine J2 mixed rfl (by kernel_rfl) ?_ | refine J3 mixed rfl rfl (by kernel_rfl) ?_ | refine J4 ?_ | refine J5 ?_ | refine J6 ?_ | refine J7 ?_ | refine J8 rfl ?_ | refine J9 rfl ?_ | refine XC.cond _ rfl (fun h => ?_) (fun h => ?_)) | (refine M2 ?_; first | refine I0 ?_ | refine I1 ?_ | refine I2 ?_ | refine I3 ?_ | refine I4 ?_ | refine I5 ?_ | refine I6 rfl ?_ | refine I7 ?_ | refine I8 ?_ | refine z4 ?_) | (refine M3 ?_; first | refine O6 ?_ | refine z2 tok rfl ?_ | refine O8 rfl ?_ | refine O7 rfl ?_ rfl | refine O9 rfl ?_ rfl | (refine Fw.split _ _ rfl (fun h => ?_) (fun h => ?_) <;> rw [h]) | refine U1 _ (Ev.call (f := 62) (ck rfl) rfl (fun w _ => high_any _ w)) rfl ?_ | refine U1 _ (Ev.call (f := 51) (ck rfl) rfl (fun w _ => out_any _ _ _ w)) rfl ?_ | refine U1 _ (U4 rfl rfl) rfl ?_ | refine U1 _ (U5 rfl rfl) rfl ?_ | refine U1 _ (U2 rfl) rfl ?_ | refine U1 _ (U3 tok rfl rfl rfl rfl rfl) rfl ?_) | (refine M4 ?_; first | refine M6 ?_ | refine U6 rfl (by kernel_rfl) ?_ | refine U7 (by kernel_rfl) ?_) | (refine M5 ?_; first | exact M7 | refine U8 rfl ?_ | refine U9 rfl rfl ?_ ?_)))
  all_goals try (refine XE.retg tok Tryd.results48 rfl (by simp only [and_self, and_true]) (fun w' S => ?_)
                 refine ⟨_, rfl, StepR.err (stepE_7 (by simp [tickBad, *])) (by decide) S.toBelow⟩)
  rename_i g3 hg3 g4 hg4 g5 hg5 g6 hg6 g7 hg7 h1 h2
  have h3 := h
  have hbad : tickBad t = false := by simp [tickBad, *]
  have o1 := outB_f.1 h1
  have o2 := outB_f.1 h2
  have o3 := outB_f.1 h3
  refine XL.call (fst := []) (cap := []) (ck rfl) rfl rfl rfl (List.Sublist.refl _) (fun w1 v w2 => ∃ r : SV, v = svV r ∧ w2.ownsRow w1.heap.size 3 1 (svV r) s.fil.length (ints s.fil))
    (fun w1 S1 => (clone_any (hq.arg S1) (by omega)).mono fun e w' ⟨v, h, h4, h5⟩ => ⟨v, h, h4, h5⟩) (fun w1 v w2 S1 hR hB S2 => ?_)
  obtain ⟨q2, rfl, hown⟩ := hR
  have hownC := hown
  have hown := owns_base hown S1.size
  have hgs := fun e he => S1.lt (e := e) he
  simp only [List.mem_cons, forall_eq_or_imp, List.not_mem_nil, false_implies, implies_true, and_true] at hgs
  simp only [svV]
  repeat (first | (refine M0 ?_; first | refine O0 ?_ | refine z1 tok rfl ?_ | refine O1 rfl ?_ rfl | refine O2 rfl ?_ | refine O3 rfl ?_ rfl | refine O4 rfl rfl rfl (fun _ _ => ?_) | refine O5 tok rfl rfl rfl (fun _ _ => ?_) | refine U0 _ (U2 rfl) rfl ?_ | refine U0 _ (U3 tok rfl rfl rfl rfl rfl) rfl ?_ | refine z3 tok rfl ?_ | refine U0 _ (U4 rfl rfl) rfl ?_ | refine U0 _ (U5 rfl rfl) rfl ?_) | (refine M1 ?_; first | refine J0 ?_ | refine J1 ?_ | refine J2 mixed rfl (by kernel_rfl) ?_ | refine J3 mixed rfl rfl (by kernel_rfl) ?_ | refine J4 ?_ | refine J5 ?_ | refine J6 ?_ | refine J7 ?_ | refine J8 rfl ?_ | refine J9 rfl ?_) | (refine M2 ?_; first | refine I0 ?_ | refine I1 ?_ | refine I2 ?_ | refine I3 ?_ | refine I4 ?_ | refine I5 ?_ | refine I6 rfl ?_ | refine I7 ?_ | refine I8 ?_ | refine z4 ?_) | (refine M3 ?_; first | refine O6 ?_ | refine z2 tok rfl ?_ | refine O8 rfl ?_ | refine O7 rfl ?_ rfl | refine O9 rfl ?_ rfl | refine U1 _ (U4 rfl rfl) rfl ?_ | refine U1 _ (U5 rfl rfl) rfl ?_ | refine U1 _ (U2 rfl) rfl ?_ | refine U1 _ (U3 tok rfl rfl rfl rfl rfl) rfl ?_) | (refine M4 ?_; first | refine M6 ?_ | refine U6 rfl (by kernel_rfl) ?_ | refine U7 (by kernel_rfl) ?_) | (refine M5 ?_; first | exact M7 | refine U8 rfl ?_ | refine U9 rfl rfl ?_ ?_))
  rename_i g9 hg9
  repeat (first | (refine M0 ?_; first | refine O0 ?_ | refine z1 tok rfl ?_ | refine O1 rfl ?_ rfl | refine O2 rfl ?_ | refine O3 rfl ?_ rfl | refine U0 _ (Ev.makeFunc rfl rfl) rfl ?_ | refine O4 rfl rfl rfl (fun _ _ => ?_) | refine O5 tok rfl rfl rfl (fun _ _ => ?_) | refine U0 _ (U2 rfl) rfl ?_ | refine U0 _ (U3 tok rfl rfl rfl rfl rfl) rfl ?_ | refine z3 tok rfl ?_ | refine U0 _ (U4 rfl rfl) rfl ?_ | refine U0 _ (U5 rfl rfl) rfl ?_) | (refine M1 ?_; first | refine J0 ?_ | refine J1 ?_ | refine J2 mixed rfl (by kernel_rfl) ?_ | refine J3 mixed rfl rfl (by kernel_rfl) ?_ | refine J4 ?_ | refine J5 ?_ | refine J6 ?_ | refine J7 ?_ | refine J8 rfl ?_ | refine J9 rfl ?_) | (refine M2 ?_; first | refine I0 ?_ | refine I1 ?_ | refine I2 ?_ | refine I3 ?_ | refine I4 ?_ | refine I5 ?_ | refine I6 rfl ?_ | refine I7 ?_ | refine I8 ?_ | refine z4 ?_) | (refine M3 ?_; first | refine O6 ?_ | refine z2 tok rfl ?_ | refine O8 rfl ?_ | refine O7 rfl ?_ rfl | refine O9 rfl ?_ rfl | refine U1 _ (Ev.makeFunc rfl rfl) rfl ?_ | refine U1 _ (U4 rfl rfl) rfl ?_ | refine U1 _ (U5 rfl rfl) rfl ?_ | refine U1 _ (U2 rfl) rfl ?_ | refine U1 _ (U3 tok rfl rfl rfl rfl rfl) rfl ?_) | (refine M4 ?_; first | refine M6 ?_ | refine U6 rfl (by kernel_rfl) ?_ | refine U7 (by kernel_rfl) ?_) | (refine M5 ?_; first | exact M7 | refine U8 rfl ?_ | refine U9 rfl rfl ?_ ?_))
  refine XL.step _ (Ev.buildArr tok Tryd.underlying138 fn_size rfl rfl rfl) rfl ?_
  repeat (first | (refine M0 ?_; first | refine O0 ?_ | refine z1 tok rfl ?_ | refine O1 rfl ?_ rfl | refine O2 rfl ?_ | refine O3 rfl ?_ rfl | refine O4 rfl rfl rfl (fun _ _ => ?_) | refine O5 tok rfl rfl rfl (fun _ _ => ?_) | refine U0 _ (U2 rfl) rfl ?_ | refine U0 _ (U3 tok rfl rfl rfl rfl rfl) rfl ?_ | refine z3 tok rfl ?_ | refine U0 _ (U4 rfl rfl) rfl ?_ | refine U0 _ (U5 rfl rfl) rfl ?_) | (refine M1 ?_; first | refine J0 ?_ | refine J1 ?_ | refine J2 mixed rfl (by kernel_rfl) ?_ | refine J3 mixed rfl rfl (by kernel_rfl) ?_ | refine J4 ?_ | refine J5 ?_ | refine J6 ?_ | refine J7 ?_ | refine J8 rfl ?_ | refine J9 rfl ?_) | (refine M2 ?_; first | refine I0 ?_ | refine I1 ?_ | refine I2 ?_ | refine I3 ?_ | refine I4 ?_ | refine I5 ?_ | refine I6 rfl ?_ | refine I7 ?_ | refine I8 ?_ | refine z4 ?_) | (refine M3 ?_; first | refine O6 ?_ | refine z2 tok rfl ?_ | refine O8 rfl ?_ | refine O7 rfl ?_ rfl | refine O9 rfl ?_ rfl | refine U1 _ (U4 rfl rfl) rfl ?_ | refine U1 _ (U5 rfl rfl) rfl ?_ | refine U1 _ (U2 rfl) rfl ?_ | refine U1 _ (U3 tok rfl rfl rfl rfl rfl) rfl ?_) | (refine M4 ?_; first | refine M6 ?_ | refine U6 rfl (by kernel_rfl) ?_ | refine U7 (by kernel_rfl) ?_) | (refine M5 ?_; first | exact M7 | refine U8 rfl ?_ | refine U9 rfl rfl ?_ ?_))
  have hB2 : Below w.heap.size w w2 := S2.toBelow
  have hsQ : ∀ x, (svV q2).ownBlock = some x → x ∉ [g9, g7, g6, g5, g4, g3] := fun x hx hm' => by
    have := hownC.lt x hx
    simp only [List.mem_cons, List.not_mem_nil, or_false] at hm'
    omega
  have hb2 := hb.below hB2
  have hws : w.heap.size ≤ w2.heap.size := hB2.size
  refine XC.loopk [6, 7, 9, 46] rfl (fun s' : Nat × World × SV => [(47, .int .i64 (s'.1 : Nat))])
    (fun s' => [(g9, watO p b q2 (staK b s t s'.1) t s'.2.2 (floK b s t s'.1)), _, _, _, _, _]) (fun s' => s'.2.1)
    (fun s' => s'.1 ≤ 5 ∧ Below w.heap.size w s'.2.1 ∧ s'.2.1.ownsRow w.heap.size 3 1 (svV q2) s.fil.length (ints (filS b s t s'.1)) ∧ s'.2.1.ownsRow w.heap.size 3 1 (svV s'.2.2) (tkS b s t s'.1).length (ints (tkS b s t s'.1)) ∧
      (s'.1 ≤ 4 → s'.2 = (w2, ⟨none, 0, 0⟩)) ∧ (1 ≤ s'.1 → vol1 s t ≤ 1000000000) ∧ (2 ≤ s'.1 → vol2 b s t ≤ 1000000000) ∧ (3 ≤ s'.1 → vol3 b s t ≤ 1000000000) ∧ (∀ x, (svV s'.2.2).ownBlock = some x → x ∉ [g9, g7, g6, g5, g4, g3]))
    (fun s' => 5 - s'.1) (0, w2, ⟨none, 0, 0⟩) ⟨Nat.zero_le _, hB2, hown, World.ownsRow_nil _ _ _ _, fun _ => rfl, fun h => absurd h (by simp), fun h => absurd h (by simp), fun h => absurd h (by simp), fun x hx => by cases hx⟩ (by repeat (first | exact Sub.nil | refine Sub.cons rfl ?_)) (fun _ h => h) ?_
  rintro ⟨k, W, r⟩ ⟨hk, hBW, hoF, hoT, h4, c1, c2, c3, hsR⟩
  simp only at hk hBW hoF hoT h4 c1 c2 c3 hsR
  dsimp only [List.cons_append, List.nil_append]
  repeat (first | (refine M0 ?_; first | refine O0 ?_ | refine z1 tok rfl ?_ | refine O1 rfl ?_ rfl | refine O2 rfl ?_ | refine O3 rfl ?_ rfl | refine O4 rfl rfl rfl (fun _ _ => ?_) | refine O5 tok rfl rfl rfl (fun _ _ => ?_) | refine U0 _ (U2 rfl) rfl ?_ | refine U0 _ (U3 tok rfl rfl rfl rfl rfl) rfl ?_ | refine z3 tok rfl ?_ | refine U0 _ (U4 rfl rfl) rfl ?_ | refine U0 _ (U5 rfl rfl) rfl ?_) | (refine M1 ?_; first | refine J0 ?_ | refine J1 ?_ | refine J2 mixed rfl (by kernel_rfl) ?_ | refine J3 mixed rfl rfl (by kernel_rfl) ?_ | refine J4 ?_ | refine J5 ?_ | refine J6 ?_ | refine J7 ?_ | refine J8 rfl ?_ | refine J9 rfl ?_) | (refine M2 ?_; first | refine I0 ?_ | refine I1 ?_ | refine I2 ?_ | refine I3 ?_ | refine I4 ?_ | refine I5 ?_ | refine I6 rfl ?_ | refine I7 ?_ | refine I8 ?_ | refine z4 ?_) | (refine M3 ?_; first | refine O6 ?_ | refine z2 tok rfl ?_ | refine O8 rfl ?_ | refine O7 rfl ?_ rfl | refine O9 rfl ?_ rfl | refine U1 _ (U4 rfl rfl) rfl ?_ | refine U1 _ (U5 rfl rfl) rfl ?_ | refine U1 _ (U2 rfl) rfl ?_ | refine U1 _ (U3 tok rfl rfl rfl rfl rfl) rfl ?_) | (refine M4 ?_; first | refine M6 ?_ | refine U6 rfl (by kernel_rfl) ?_ | refine U7 (by kernel_rfl) ?_) | (refine M5 ?_; first | exact M7 | refine U8 rfl ?_ | refine U9 rfl rfl ?_ ?_))
  refine XC.cond _ rfl (fun h5 => ?_) (fun h5 => ?_)
  · have hv0 := v0_bd ho
    have hvs := hs.vol
    have hov := over_bd ho t o1
    have e1 : vol1 s t = s.vol + t.river := rfl
    have e2 : vol2 b s t = vol1 s t + overOf b t := rfl
    have e3 : vol3 b s t = vol2 b s t + leakOf b t.outer (vol2 b s t) := rfl
    have e4 : b.v0 - vol2 b s t ≤ leakOf b t.outer (vol2 b s t) := by unfold leakOf; omega
    have e0 : b.v0 = (b.row 0).vol := rfl
    have hk4 : k ≤ 4 := by simp only [decide_eq_true_eq] at h5; omega
    obtain ⟨rfl, rfl⟩ := Prod.mk.inj (h4 hk4)
    have hoF : W.ownsRow w.heap.size 3 1 (svV q2) s.fil.length (ints s.fil) := hown
    have hoT : W.ownsRow w.heap.size 3 1 (svV ⟨none, 0, 0⟩) ([] : List Int).length (ints []) := World.ownsRow_nil _ _ _ _
    rcases k with _ | _ | _ | _ | _ | k
    · -- river
      repeat (first | (refine M0 ?_; first | refine O0 ?_ | refine z1 tok rfl ?_ | refine O1 rfl ?_ rfl | refine O2 rfl ?_ | refine O3 rfl ?_ rfl | refine O4 rfl rfl rfl (fun _ _ => ?_) | refine O5 tok rfl rfl rfl (fun _ _ => ?_) | refine U0 _ (U2 rfl) rfl ?_ | refine U0 _ (U3 tok rfl rfl rfl rfl rfl) rfl ?_ | refine z3 tok rfl ?_ | refine U0 _ (U4 rfl rfl) rfl ?_ | refine U0 _ (U5 rfl rfl) rfl ?_) | (refine M1 ?_; first | refine J0 ?_ | refine J1 ?_ | refine J2 mixed rfl (by kernel_rfl) ?_ | refine J3 mixed rfl rfl (by kernel_rfl) ?_ | refine J4 ?_ | refine J5 ?_ | refine J6 ?_ | refine J7 ?_ | refine J8 rfl ?_ | refine J9 rfl ?_) | (refine M2 ?_; first | refine I0 ?_ | refine I1 ?_ | refine I2 ?_ | refine I3 ?_ | refine I4 ?_ | refine I5 ?_ | refine I6 rfl ?_ | refine I7 ?_ | refine I8 ?_ | refine z4 ?_) | (refine M3 ?_; first | refine O6 ?_ | refine z2 tok rfl ?_ | refine O8 rfl ?_ | refine O7 rfl ?_ rfl | refine O9 rfl ?_ rfl | refine U1 _ (U4 rfl rfl) rfl ?_ | refine U1 _ (U5 rfl rfl) rfl ?_ | refine U1 _ (U2 rfl) rfl ?_ | refine U1 _ (U3 tok rfl rfl rfl rfl rfl) rfl ?_) | (refine M4 ?_; first | refine M6 ?_ | refine U6 rfl (by kernel_rfl) ?_ | refine U7 (by kernel_rfl) ?_) | (refine M5 ?_; first | exact M7 | refine U8 rfl ?_ | refine U9 rfl rfl ?_ ?_))
      refine XL.step _ (Ev.indexArr tok Tryd.underlying138 fn_one rfl (j := 0) rfl (by decide) rfl) rfl ?_
      repeat (first | (refine M0 ?_; first | refine O0 ?_ | refine z1 tok rfl ?_ | refine O1 rfl ?_ rfl | refine O2 rfl ?_ | refine O3 rfl ?_ rfl | refine O4 rfl rfl rfl (fun _ _ => ?_) | refine O5 tok rfl rfl rfl (fun _ _ => ?_) | refine U0 _ (U2 rfl) rfl ?_ | refine U0 _ (U3 tok rfl rfl rfl rfl rfl) rfl ?_ | refine z3 tok rfl ?_ | refine U0 _ (U4 rfl rfl) rfl ?_ | refine U0 _ (U5 rfl rfl) rfl ?_) | (refine M1 ?_; first | refine J0 ?_ | refine J1 ?_ | refine J2 mixed rfl (by kernel_rfl) ?_ | refine J3 mixed rfl rfl (by kernel_rfl) ?_ | refine J4 ?_ | refine J5 ?_ | refine J6 ?_ | refine J7 ?_ | refine J8 rfl ?_ | refine J9 rfl ?_) | (refine M2 ?_; first | refine I0 ?_ | refine I1 ?_ | refine I2 ?_ | refine I3 ?_ | refine I4 ?_ | refine I5 ?_ | refine I6 rfl ?_ | refine I7 ?_ | refine I8 ?_ | refine z4 ?_) | (refine M3 ?_; first | refine O6 ?_ | refine z2 tok rfl ?_ | refine O8 rfl ?_ | refine O7 rfl ?_ rfl | refine O9 rfl ?_ rfl | refine U1 _ (U4 rfl rfl) rfl ?_ | refine U1 _ (U5 rfl rfl) rfl ?_ | refine U1 _ (U2 rfl) rfl ?_ | refine U1 _ (U3 tok rfl rfl rfl rfl rfl) rfl ?_) | (refine M4 ?_; first | refine M6 ?_ | refine U6 rfl (by kernel_rfl) ?_ | refine U7 (by kernel_rfl) ?_) | (refine M5 ?_; first | exact M7 | refine U8 rfl ?_ | refine U9 rfl rfl ?_ ?_))
      refine XL.callT (B' := g9) 0 (fst := [.pointer (some ⟨g9, 0, none⟩)]) (cap := []) (vs := []) (ck rfl) rfl rfl rfl rfl rfl (fun w5 S5 => (river_any (g := g9) (p := p) (b := b) (q := q2) (s := s) (t := t) (r := ⟨none, 0, 0⟩) (f := ⟨0, 0, 0, 0, []⟩) (S5.obj (i := 0) rfl) (by unfold i64in; omega) :)) ?_
      repeat (first | (refine M0 ?_; first | refine O0 ?_ | refine z1 tok rfl ?_ | refine O1 rfl ?_ rfl | refine O2 rfl ?_ | refine O3 rfl ?_ rfl | refine O4 rfl rfl rfl (fun _ _ => ?_) | refine O5 tok rfl rfl rfl (fun _ _ => ?_) | refine U0 _ (U2 rfl) rfl ?_ | refine U0 _ (U3 tok rfl rfl rfl rfl rfl) rfl ?_ | refine z3 tok rfl ?_ | refine U0 _ (U4 rfl rfl) rfl ?_ | refine U0 _ (U5 rfl rfl) rfl ?_) | (refine M1 ?_; first | refine J0 ?_ | refine J1 ?_ | refine J2 mixed rfl (by kernel_rfl) ?_ | refine J3 mixed rfl rfl (by kernel_rfl) ?_ | refine J4 ?_ | refine J5 ?_ | refine J6 ?_ | refine J7 ?_ | refine J8 rfl ?_ | refine J9 rfl ?_) | (refine M2 ?_; first | refine I0 ?_ | refine I1 ?_ | refine I2 ?_ | refine I3 ?_ | refine I4 ?_ | refine I5 ?_ | refine I6 rfl ?_ | refine I7 ?_ | refine I8 ?_ | refine z4 ?_) | (refine M3 ?_; first | refine O6 ?_ | refine z2 tok rfl ?_ | refine O8 rfl ?_ | refine O7 rfl ?_ rfl | refine O9 rfl ?_ rfl | refine U1 _ (U4 rfl rfl) rfl ?_ | refine U1 _ (U5 rfl rfl) rfl ?_ | refine U1 _ (U2 rfl) rfl ?_ | refine U1 _ (U3 tok rfl rfl rfl rfl rfl) rfl ?_) | (refine M4 ?_; first | refine M6 ?_ | refine U6 rfl (by kernel_rfl) ?_ | refine U7 (by kernel_rfl) ?_) | (refine M5 ?_; first | exact M7 | refine U8 rfl ?_ | refine U9 rfl rfl ?_ ?_))
      refine XC.cond _ rfl (fun h6 => ?_) (fun h6 => ?_)
      · simp only [Bool.not_not, Bool.not_eq_true', Bool.not_eq_false', decide_eq_true_eq, decide_eq_false_iff_not] at h6
        repeat (first | (refine M0 ?_; first | refine O0 ?_ | refine z1 tok rfl ?_ | refine O1 rfl ?_ rfl | refine O2 rfl ?_ | refine O3 rfl ?_ rfl | refine O4 rfl rfl rfl (fun _ _ => ?_) | refine O5 tok rfl rfl rfl (fun _ _ => ?_) | refine U0 _ (U2 rfl) rfl ?_ | refine U0 _ (U3 tok rfl rfl rfl rfl rfl) rfl ?_ | refine z3 tok rfl ?_ | refine U0 _ (U4 rfl rfl) rfl ?_ | refine U0 _ (U5 rfl rfl) rfl ?_) | (refine M1 ?_; first | refine J0 ?_ | refine J1 ?_ | refine J2 mixed rfl (by kernel_rfl) ?_ | refine J3 mixed rfl rfl (by kernel_rfl) ?_ | refine J4 ?_ | refine J5 ?_ | refine J6 ?_ | refine J7 ?_ | refine J8 rfl ?_ | refine J9 rfl ?_) | (refine M2 ?_; first | refine I0 ?_ | refine I1 ?_ | refine I2 ?_ | refine I3 ?_ | refine I4 ?_ | refine I5 ?_ | refine I6 rfl ?_ | refine I7 ?_ | refine I8 ?_ | refine z4 ?_) | (refine M3 ?_; first | refine O6 ?_ | refine z2 tok rfl ?_ | refine O8 rfl ?_ | refine O7 rfl ?_ rfl | refine O9 rfl ?_ rfl | refine U1 _ (U4 rfl rfl) rfl ?_ | refine U1 _ (U5 rfl rfl) rfl ?_ | refine U1 _ (U2 rfl) rfl ?_ | refine U1 _ (U3 tok rfl rfl rfl rfl rfl) rfl ?_) | (refine M4 ?_; first | refine M6 ?_ | refine U6 rfl (by kernel_rfl) ?_ | refine U7 (by kernel_rfl) ?_) | (refine M5 ?_; first | exact M7 | refine U8 rfl ?_ | refine U9 rfl rfl ?_ ?_))
        refine XE.retg tok Tryd.results48 rfl (by simp only [and_self, and_true]) (fun w' S => ?_)
        exact ⟨_, rfl, StepR.err (stepE_3 hbad (.inl h6)) (by decide) (hB2.trans S.toBelow)⟩
      · simp only [Bool.not_not, Bool.not_eq_true', Bool.not_eq_false', decide_eq_true_eq, decide_eq_false_iff_not] at h6
        repeat (first | (refine M0 ?_; first | refine O0 ?_ | refine z1 tok rfl ?_ | refine O1 rfl ?_ rfl | refine O2 rfl ?_ | refine O3 rfl ?_ rfl | refine O4 rfl rfl rfl (fun _ _ => ?_) | refine O5 tok rfl rfl rfl (fun _ _ => ?_) | refine U0 _ (U2 rfl) rfl ?_ | refine U0 _ (U3 tok rfl rfl rfl rfl rfl) rfl ?_ | refine z3 tok rfl ?_ | refine U0 _ (U4 rfl rfl) rfl ?_ | refine U0 _ (U5 rfl rfl) rfl ?_) | (refine M1 ?_; first | refine J0 ?_ | refine J1 ?_ | refine J2 mixed rfl (by kernel_rfl) ?_ | refine J3 mixed rfl rfl (by kernel_rfl) ?_ | refine J4 ?_ | refine J5 ?_ | refine J6 ?_ | refine J7 ?_ | refine J8 rfl ?_ | refine J9 rfl ?_) | (refine M2 ?_; first | refine I0 ?_ | refine I1 ?_ | refine I2 ?_ | refine I3 ?_ | refine I4 ?_ | refine I5 ?_ | refine I6 rfl ?_ | refine I7 ?_ | refine I8 ?_ | refine z4 ?_) | (refine M3 ?_; first | refine O6 ?_ | refine z2 tok rfl ?_ | refine O8 rfl ?_ | refine O7 rfl ?_ rfl | refine O9 rfl ?_ rfl | refine U1 _ (U4 rfl rfl) rfl ?_ | refine U1 _ (U5 rfl rfl) rfl ?_ | refine U1 _ (U2 rfl) rfl ?_ | refine U1 _ (U3 tok rfl rfl rfl rfl rfl) rfl ?_) | (refine M4 ?_; first | refine M6 ?_ | refine U6 rfl (by kernel_rfl) ?_ | refine U7 (by kernel_rfl) ?_) | (refine M5 ?_; first | exact M7 | refine U8 rfl ?_ | refine U9 rfl rfl ?_ ?_))
        refine XE.round (s := (0, W, ⟨none, 0, 0⟩)) (0 + 1, W, ⟨none, 0, 0⟩) ⟨by simp, hB2, hoF, hoT, fun _ => rfl, fun _ => (by simp only [vol1]; omega), fun h => absurd h (by simp), fun h => absurd h (by simp), fun x hx => by cases hx⟩ (by simp) (by repeat (first | exact Sub.nil | refine Sub.cons rfl ?_)) (fun _ h => h)
    · -- over
      repeat (first | (refine M0 ?_; first | refine O0 ?_ | refine z1 tok rfl ?_ | refine O1 rfl ?_ rfl | refine O2 rfl ?_ | refine O3 rfl ?_ rfl | refine O4 rfl rfl rfl (fun _ _ => ?_) | refine O5 tok rfl rfl rfl (fun _ _ => ?_) | refine U0 _ (U2 rfl) rfl ?_ | refine U0 _ (U3 tok rfl rfl rfl rfl rfl) rfl ?_ | refine z3 tok rfl ?_ | refine U0 _ (U4 rfl rfl) rfl ?_ | refine U0 _ (U5 rfl rfl) rfl ?_) | (refine M1 ?_; first | refine J0 ?_ | refine J1 ?_ | refine J2 mixed rfl (by kernel_rfl) ?_ | refine J3 mixed rfl rfl (by kernel_rfl) ?_ | refine J4 ?_ | refine J5 ?_ | refine J6 ?_ | refine J7 ?_ | refine J8 rfl ?_ | refine J9 rfl ?_) | (refine M2 ?_; first | refine I0 ?_ | refine I1 ?_ | refine I2 ?_ | refine I3 ?_ | refine I4 ?_ | refine I5 ?_ | refine I6 rfl ?_ | refine I7 ?_ | refine I8 ?_ | refine z4 ?_) | (refine M3 ?_; first | refine O6 ?_ | refine z2 tok rfl ?_ | refine O8 rfl ?_ | refine O7 rfl ?_ rfl | refine O9 rfl ?_ rfl | refine U1 _ (U4 rfl rfl) rfl ?_ | refine U1 _ (U5 rfl rfl) rfl ?_ | refine U1 _ (U2 rfl) rfl ?_ | refine U1 _ (U3 tok rfl rfl rfl rfl rfl) rfl ?_) | (refine M4 ?_; first | refine M6 ?_ | refine U6 rfl (by kernel_rfl) ?_ | refine U7 (by kernel_rfl) ?_) | (refine M5 ?_; first | exact M7 | refine U8 rfl ?_ | refine U9 rfl rfl ?_ ?_))
      refine XL.step _ (Ev.indexArr tok Tryd.underlying138 fn_one rfl (j := 1) rfl (by decide) rfl) rfl ?_
      repeat (first | (refine M0 ?_; first | refine O0 ?_ | refine z1 tok rfl ?_ | refine O1 rfl ?_ rfl | refine O2 rfl ?_ | refine O3 rfl ?_ rfl | refine O4 rfl rfl rfl (fun _ _ => ?_) | refine O5 tok rfl rfl rfl (fun _ _ => ?_) | refine U0 _ (U2 rfl) rfl ?_ | refine U0 _ (U3 tok rfl rfl rfl rfl rfl) rfl ?_ | refine z3 tok rfl ?_ | refine U0 _ (U4 rfl rfl) rfl ?_ | refine U0 _ (U5 rfl rfl) rfl ?_) | (refine M1 ?_; first | refine J0 ?_ | refine J1 ?_ | refine J2 mixed rfl (by kernel_rfl) ?_ | refine J3 mixed rfl rfl (by kernel_rfl) ?_ | refine J4 ?_ | refine J5 ?_ | refine J6 ?_ | refine J7 ?_ | refine J8 rfl ?_ | refine J9 rfl ?_) | (refine M2 ?_; first | refine I0 ?_ | refine I1 ?_ | refine I2 ?_ | refine I3 ?_ | refine I4 ?_ | refine I5 ?_ | refine I6 rfl ?_ | refine I7 ?_ | refine I8 ?_ | refine z4 ?_) | (refine M3 ?_; first | refine O6 ?_ | refine z2 tok rfl ?_ | refine O8 rfl ?_ | refine O7 rfl ?_ rfl | refine O9 rfl ?_ rfl | refine U1 _ (U4 rfl rfl) rfl ?_ | refine U1 _ (U5 rfl rfl) rfl ?_ | refine U1 _ (U2 rfl) rfl ?_ | refine U1 _ (U3 tok rfl rfl rfl rfl rfl) rfl ?_) | (refine M4 ?_; first | refine M6 ?_ | refine U6 rfl (by kernel_rfl) ?_ | refine U7 (by kernel_rfl) ?_) | (refine M5 ?_; first | exact M7 | refine U8 rfl ?_ | refine U9 rfl rfl ?_ ?_))
      refine XL.callT (B' := g9) 0 (fst := [.pointer (some ⟨g9, 0, none⟩)]) (cap := []) (vs := []) (ck rfl) rfl rfl rfl rfl rfl (fun w5 S5 => (over_run (g := g9) (p := p) (b := b) (q := q2) (s := ⟨vol1 s t, s.fil⟩) (t := t) (r := ⟨none, 0, 0⟩) (f := ⟨t.river, 0, 0, 0, []⟩) (S5.obj (i := 0) rfl) ho o1 (by simp only; omega) :)) ?_
      repeat (first | (refine M0 ?_; first | refine O0 ?_ | refine z1 tok rfl ?_ | refine O1 rfl ?_ rfl | refine O2 rfl ?_ | refine O3 rfl ?_ rfl | refine O4 rfl rfl rfl (fun _ _ => ?_) | refine O5 tok rfl rfl rfl (fun _ _ => ?_) | refine U0 _ (U2 rfl) rfl ?_ | refine U0 _ (U3 tok rfl rfl rfl rfl rfl) rfl ?_ | refine z3 tok rfl ?_ | refine U0 _ (U4 rfl rfl) rfl ?_ | refine U0 _ (U5 rfl rfl) rfl ?_) | (refine M1 ?_; first | refine J0 ?_ | refine J1 ?_ | refine J2 mixed rfl (by kernel_rfl) ?_ | refine J3 mixed rfl rfl (by kernel_rfl) ?_ | refine J4 ?_ | refine J5 ?_ | refine J6 ?_ | refine J7 ?_ | refine J8 rfl ?_ | refine J9 rfl ?_) | (refine M2 ?_; first | refine I0 ?_ | refine I1 ?_ | refine I2 ?_ | refine I3 ?_ | refine I4 ?_ | refine I5 ?_ | refine I6 rfl ?_ | refine I7 ?_ | refine I8 ?_ | refine z4 ?_) | (refine M3 ?_; first | refine O6 ?_ | refine z2 tok rfl ?_ | refine O8 rfl ?_ | refine O7 rfl ?_ rfl | refine O9 rfl ?_ rfl | refine U1 _ (U4 rfl rfl) rfl ?_ | refine U1 _ (U5 rfl rfl) rfl ?_ | refine U1 _ (U2 rfl) rfl ?_ | refine U1 _ (U3 tok rfl rfl rfl rfl rfl) rfl ?_) | (refine M4 ?_; first | refine M6 ?_ | refine U6 rfl (by kernel_rfl) ?_ | refine U7 (by kernel_rfl) ?_) | (refine M5 ?_; first | exact M7 | refine U8 rfl ?_ | refine U9 rfl rfl ?_ ?_))
      refine XC.cond _ rfl (fun h6 => ?_) (fun h6 => ?_)
      · simp only [Bool.not_not, Bool.not_eq_true', Bool.not_eq_false', decide_eq_true_eq, decide_eq_false_iff_not] at h6
        repeat (first | (refine M0 ?_; first | refine O0 ?_ | refine z1 tok rfl ?_ | refine O1 rfl ?_ rfl | refine O2 rfl ?_ | refine O3 rfl ?_ rfl | refine O4 rfl rfl rfl (fun _ _ => ?_) | refine O5 tok rfl rfl rfl (fun _ _ => ?_) | refine U0 _ (U2 rfl) rfl ?_ | refine U0 _ (U3 tok rfl rfl rfl rfl rfl) rfl ?_ | refine z3 tok rfl ?_ | refine U0 _ (U4 rfl rfl) rfl ?_ | refine U0 _ (U5 rfl rfl) rfl ?_) | (refine M1 ?_; first | refine J0 ?_ | refine J1 ?_ | refine J2 mixed rfl (by kernel_rfl) ?_ | refine J3 mixed rfl rfl (by kernel_rfl) ?_ | refine J4 ?_ | refine J5 ?_ | refine J6 ?_ | refine J7 ?_ | refine J8 rfl ?_ | refine J9 rfl ?_) | (refine M2 ?_; first | refine I0 ?_ | refine I1 ?_ | refine I2 ?_ | refine I3 ?_ | refine I4 ?_ | refine I5 ?_ | refine I6 rfl ?_ | refine I7 ?_ | refine I8 ?_ | refine z4 ?_) | (refine M3 ?_; first | refine O6 ?_ | refine z2 tok rfl ?_ | refine O8 rfl ?_ | refine O7 rfl ?_ rfl | refine O9 rfl ?_ rfl | refine U1 _ (U4 rfl rfl) rfl ?_ | refine U1 _ (U5 rfl rfl) rfl ?_ | refine U1 _ (U2 rfl) rfl ?_ | refine U1 _ (U3 tok rfl rfl rfl rfl rfl) rfl ?_) | (refine M4 ?_; first | refine M6 ?_ | refine U6 rfl (by kernel_rfl) ?_ | refine U7 (by kernel_rfl) ?_) | (refine M5 ?_; first | exact M7 | refine U8 rfl ?_ | refine U9 rfl rfl ?_ ?_))
        refine XE.retg tok Tryd.results48 rfl (by simp only [and_self, and_true]) (fun w' S => ?_)
        exact ⟨_, rfl, StepR.err (stepE_3 hbad (.inr <| .inl h6)) (by decide) (hB2.trans S.toBelow)⟩
      · simp only [Bool.not_not, Bool.not_eq_true', Bool.not_eq_false', decide_eq_true_eq, decide_eq_false_iff_not] at h6
        repeat (first | (refine M0 ?_; first | refine O0 ?_ | refine z1 tok rfl ?_ | refine O1 rfl ?_ rfl | refine O2 rfl ?_ | refine O3 rfl ?_ rfl | refine O4 rfl rfl rfl (fun _ _ => ?_) | refine O5 tok rfl rfl rfl (fun _ _ => ?_) | refine U0 _ (U2 rfl) rfl ?_ | refine U0 _ (U3 tok rfl rfl rfl rfl rfl) rfl ?_ | refine z3 tok rfl ?_ | refine U0 _ (U4 rfl rfl) rfl ?_ | refine U0 _ (U5 rfl rfl) rfl ?_) | (refine M1 ?_; first | refine J0 ?_ | refine J1 ?_ | refine J2 mixed rfl (by kernel_rfl) ?_ | refine J3 mixed rfl rfl (by kernel_rfl) ?_ | refine J4 ?_ | refine J5 ?_ | refine J6 ?_ | refine J7 ?_ | refine J8 rfl ?_ | refine J9 rfl ?_) | (refine M2 ?_; first | refine I0 ?_ | refine I1 ?_ | refine I2 ?_ | refine I3 ?_ | refine I4 ?_ | refine I5 ?_ | refine I6 rfl ?_ | refine I7 ?_ | refine I8 ?_ | refine z4 ?_) | (refine M3 ?_; first | refine O6 ?_ | refine z2 tok rfl ?_ | refine O8 rfl ?_ | refine O7 rfl ?_ rfl | refine O9 rfl ?_ rfl | refine U1 _ (U4 rfl rfl) rfl ?_ | refine U1 _ (U5 rfl rfl) rfl ?_ | refine U1 _ (U2 rfl) rfl ?_ | refine U1 _ (U3 tok rfl rfl rfl rfl rfl) rfl ?_) | (refine M4 ?_; first | refine M6 ?_ | refine U6 rfl (by kernel_rfl) ?_ | refine U7 (by kernel_rfl) ?_) | (refine M5 ?_; first | exact M7 | refine U8 rfl ?_ | refine U9 rfl rfl ?_ ?_))
        refine XE.round (s := (1, W, ⟨none, 0, 0⟩)) (1 + 1, W, ⟨none, 0, 0⟩) ⟨by simp, hB2, hoF, hoT, fun _ => rfl, fun _ => c1 (by omega), fun _ => (by rw [e2]; omega), fun h => absurd h (by simp), fun x hx => by cases hx⟩ (by simp) (by repeat (first | exact Sub.nil | refine Sub.cons rfl ?_)) (fun _ h => h)
    · -- leak
      repeat (first | (refine M0 ?_; first | refine O0 ?_ | refine z1 tok rfl ?_ | refine O1 rfl ?_ rfl | refine O2 rfl ?_ | refine O3 rfl ?_ rfl | refine O4 rfl rfl rfl (fun _ _ => ?_) | refine O5 tok rfl rfl rfl (fun _ _ => ?_) | refine U0 _ (U2 rfl) rfl ?_ | refine U0 _ (U3 tok rfl rfl rfl rfl rfl) rfl ?_ | refine z3 tok rfl ?_ | refine U0 _ (U4 rfl rfl) rfl ?_ | refine U0 _ (U5 rfl rfl) rfl ?_) | (refine M1 ?_; first | refine J0 ?_ | refine J1 ?_ | refine J2 mixed rfl (by kernel_rfl) ?_ | refine J3 mixed rfl rfl (by kernel_rfl) ?_ | refine J4 ?_ | refine J5 ?_ | refine J6 ?_ | refine J7 ?_ | refine J8 rfl ?_ | refine J9 rfl ?_) | (refine M2 ?_; first | refine I0 ?_ | refine I1 ?_ | refine I2 ?_ | refine I3 ?_ | refine I4 ?_ | refine I5 ?_ | refine I6 rfl ?_ | refine I7 ?_ | refine I8 ?_ | refine z4 ?_) | (refine M3 ?_; first | refine O6 ?_ | refine z2 tok rfl ?_ | refine O8 rfl ?_ | refine O7 rfl ?_ rfl | refine O9 rfl ?_ rfl | refine U1 _ (U4 rfl rfl) rfl ?_ | refine U1 _ (U5 rfl rfl) rfl ?_ | refine U1 _ (U2 rfl) rfl ?_ | refine U1 _ (U3 tok rfl rfl rfl rfl rfl) rfl ?_) | (refine M4 ?_; first | refine M6 ?_ | refine U6 rfl (by kernel_rfl) ?_ | refine U7 (by kernel_rfl) ?_) | (refine M5 ?_; first | exact M7 | refine U8 rfl ?_ | refine U9 rfl rfl ?_ ?_))
      refine XL.step _ (Ev.indexArr tok Tryd.underlying138 fn_one rfl (j := 2) rfl (by decide) rfl) rfl ?_
      repeat (first | (refine M0 ?_; first | refine O0 ?_ | refine z1 tok rfl ?_ | refine O1 rfl ?_ rfl | refine O2 rfl ?_ | refine O3 rfl ?_ rfl | refine O4 rfl rfl rfl (fun _ _ => ?_) | refine O5 tok rfl rfl rfl (fun _ _ => ?_) | refine U0 _ (U2 rfl) rfl ?_ | refine U0 _ (U3 tok rfl rfl rfl rfl rfl) rfl ?_ | refine z3 tok rfl ?_ | refine U0 _ (U4 rfl rfl) rfl ?_ | refine U0 _ (U5 rfl rfl) rfl ?_) | (refine M1 ?_; first | refine J0 ?_ | refine J1 ?_ | refine J2 mixed rfl (by kernel_rfl) ?_ | refine J3 mixed rfl rfl (by kernel_rfl) ?_ | refine J4 ?_ | refine J5 ?_ | refine J6 ?_ | refine J7 ?_ | refine J8 rfl ?_ | refine J9 rfl ?_) | (refine M2 ?_; first | refine I0 ?_ | refine I1 ?_ | refine I2 ?_ | refine I3 ?_ | refine I4 ?_ | refine I5 ?_ | refine I6 rfl ?_ | refine I7 ?_ | refine I8 ?_ | refine z4 ?_) | (refine M3 ?_; first | refine O6 ?_ | refine z2 tok rfl ?_ | refine O8 rfl ?_ | refine O7 rfl ?_ rfl | refine O9 rfl ?_ rfl | refine U1 _ (U4 rfl rfl) rfl ?_ | refine U1 _ (U5 rfl rfl) rfl ?_ | refine U1 _ (U2 rfl) rfl ?_ | refine U1 _ (U3 tok rfl rfl rfl rfl rfl) rfl ?_) | (refine M4 ?_; first | refine M6 ?_ | refine U6 rfl (by kernel_rfl) ?_ | refine U7 (by kernel_rfl) ?_) | (refine M5 ?_; first | exact M7 | refine U8 rfl ?_ | refine U9 rfl rfl ?_ ?_))
      refine XL.callT (B' := g9) 0 (fst := [.pointer (some ⟨g9, 0, none⟩)]) (cap := []) (vs := []) (ck rfl) rfl rfl rfl rfl rfl (fun w5 S5 => (leak_any (g := g9) (p := p) (b := b) (q := q2) (s := ⟨vol2 b s t, s.fil⟩) (t := t) (r := ⟨none, 0, 0⟩) (f := ⟨t.river, overOf b t, 0, 0, []⟩) (S5.obj (i := 0) rfl) ((hb2.below S5.toBelow).more (by omega)) ho o1 (by simp only; omega) :)) ?_
      repeat (first | (refine M0 ?_; first | refine O0 ?_ | refine z1 tok rfl ?_ | refine O1 rfl ?_ rfl | refine O2 rfl ?_ | refine O3 rfl ?_ rfl | refine O4 rfl rfl rfl (fun _ _ => ?_) | refine O5 tok rfl rfl rfl (fun _ _ => ?_) | refine U0 _ (U2 rfl) rfl ?_ | refine U0 _ (U3 tok rfl rfl rfl rfl rfl) rfl ?_ | refine z3 tok rfl ?_ | refine U0 _ (U4 rfl rfl) rfl ?_ | refine U0 _ (U5 rfl rfl) rfl ?_) | (refine M1 ?_; first | refine J0 ?_ | refine J1 ?_ | refine J2 mixed rfl (by kernel_rfl) ?_ | refine J3 mixed rfl rfl (by kernel_rfl) ?_ | refine J4 ?_ | refine J5 ?_ | refine J6 ?_ | refine J7 ?_ | refine J8 rfl ?_ | refine J9 rfl ?_) | (refine M2 ?_; first | refine I0 ?_ | refine I1 ?_ | refine I2 ?_ | refine I3 ?_ | refine I4 ?_ | refine I5 ?_ | refine I6 rfl ?_ | refine I7 ?_ | refine I8 ?_ | refine z4 ?_) | (refine M3 ?_; first | refine O6 ?_ | refine z2 tok rfl ?_ | refine O8 rfl ?_ | refine O7 rfl ?_ rfl | refine O9 rfl ?_ rfl | refine U1 _ (U4 rfl rfl) rfl ?_ | refine U1 _ (U5 rfl rfl) rfl ?_ | refine U1 _ (U2 rfl) rfl ?_ | refine U1 _ (U3 tok rfl rfl rfl rfl rfl) rfl ?_) | (refine M4 ?_; first | refine M6 ?_ | refine U6 rfl (by kernel_rfl) ?_ | refine U7 (by kernel_rfl) ?_) | (refine M5 ?_; first | exact M7 | refine U8 rfl ?_ | refine U9 rfl rfl ?_ ?_))
      refine XC.cond _ rfl (fun h6 => ?_) (fun h6 => ?_)
      · simp only [Bool.not_not, Bool.not_eq_true', Bool.not_eq_false', decide_eq_true_eq, decide_eq_false_iff_not] at h6
        repeat (first | (refine M0 ?_; first | refine O0 ?_ | refine z1 tok rfl ?_ | refine O1 rfl ?_ rfl | refine O2 rfl ?_ | refine O3 rfl ?_ rfl | refine O4 rfl rfl rfl (fun _ _ => ?_) | refine O5 tok rfl rfl rfl (fun _ _ => ?_) | refine U0 _ (U2 rfl) rfl ?_ | refine U0 _ (U3 tok rfl rfl rfl rfl rfl) rfl ?_ | refine z3 tok rfl ?_ | refine U0 _ (U4 rfl rfl) rfl ?_ | refine U0 _ (U5 rfl rfl) rfl ?_) | (refine M1 ?_; first | refine J0 ?_ | refine J1 ?_ | refine J2 mixed rfl (by kernel_rfl) ?_ | refine J3 mixed rfl rfl (by kernel_rfl) ?_ | refine J4 ?_ | refine J5 ?_ | refine J6 ?_ | refine J7 ?_ | refine J8 rfl ?_ | refine J9 rfl ?_) | (refine M2 ?_; first | refine I0 ?_ | refine I1 ?_ | refine I2 ?_ | refine I3 ?_ | refine I4 ?_ | refine I5 ?_ | refine I6 rfl ?_ | refine I7 ?_ | refine I8 ?_ | refine z4 ?_) | (refine M3 ?_; first | refine O6 ?_ | refine z2 tok rfl ?_ | refine O8 rfl ?_ | refine O7 rfl ?_ rfl | refine O9 rfl ?_ rfl | refine U1 _ (U4 rfl rfl) rfl ?_ | refine U1 _ (U5 rfl rfl) rfl ?_ | refine U1 _ (U2 rfl) rfl ?_ | refine U1 _ (U3 tok rfl rfl rfl rfl rfl) rfl ?_) | (refine M4 ?_; first | refine M6 ?_ | refine U6 rfl (by kernel_rfl) ?_ | refine U7 (by kernel_rfl) ?_) | (refine M5 ?_; first | exact M7 | refine U8 rfl ?_ | refine U9 rfl rfl ?_ ?_))
        refine XE.retg tok Tryd.results48 rfl (by simp only [and_self, and_true]) (fun w' S => ?_)
        exact ⟨_, rfl, StepR.err (stepE_3 hbad (.inr <| .inr h6)) (by decide) (hB2.trans S.toBelow)⟩
      · simp only [Bool.not_not, Bool.not_eq_true', Bool.not_eq_false', decide_eq_true_eq, decide_eq_false_iff_not] at h6
        repeat (first | (refine M0 ?_; first | refine O0 ?_ | refine z1 tok rfl ?_ | refine O1 rfl ?_ rfl | refine O2 rfl ?_ | refine O3 rfl ?_ rfl | refine O4 rfl rfl rfl (fun _ _ => ?_) | refine O5 tok rfl rfl rfl (fun _ _ => ?_) | refine U0 _ (U2 rfl) rfl ?_ | refine U0 _ (U3 tok rfl rfl rfl rfl rfl) rfl ?_ | refine z3 tok rfl ?_ | refine U0 _ (U4 rfl rfl) rfl ?_ | refine U0 _ (U5 rfl rfl) rfl ?_) | (refine M1 ?_; first | refine J0 ?_ | refine J1 ?_ | refine J2 mixed rfl (by kernel_rfl) ?_ | refine J3 mixed rfl rfl (by kernel_rfl) ?_ | refine J4 ?_ | refine J5 ?_ | refine J6 ?_ | refine J7 ?_ | refine J8 rfl ?_ | refine J9 rfl ?_) | (refine M2 ?_; first | refine I0 ?_ | refine I1 ?_ | refine I2 ?_ | refine I3 ?_ | refine I4 ?_ | refine I5 ?_ | refine I6 rfl ?_ | refine I7 ?_ | refine I8 ?_ | refine z4 ?_) | (refine M3 ?_; first | refine O6 ?_ | refine z2 tok rfl ?_ | refine O8 rfl ?_ | refine O7 rfl ?_ rfl | refine O9 rfl ?_ rfl | refine U1 _ (U4 rfl rfl) rfl ?_ | refine U1 _ (U5 rfl rfl) rfl ?_ | refine U1 _ (U2 rfl) rfl ?_ | refine U1 _ (U3 tok rfl rfl rfl rfl rfl) rfl ?_) | (refine M4 ?_; first | refine M6 ?_ | refine U6 rfl (by kernel_rfl) ?_ | refine U7 (by kernel_rfl) ?_) | (refine M5 ?_; first | exact M7 | refine U8 rfl ?_ | refine U9 rfl rfl ?_ ?_))
        refine XE.round (s := (2, W, ⟨none, 0, 0⟩)) (2 + 1, W, ⟨none, 0, 0⟩) ⟨by simp, hB2, hoF, hoT, fun _ => rfl, fun _ => c1 (by omega), fun _ => c2 (by omega), fun _ => (by rw [e3]; omega), fun x hx => by cases hx⟩ (by simp) (by repeat (first | exact Sub.nil | refine Sub.cons rfl ?_)) (fun _ h => h)
    · -- off
      repeat (first | (refine M0 ?_; first | refine O0 ?_ | refine z1 tok rfl ?_ | refine O1 rfl ?_ rfl | refine O2 rfl ?_ | refine O3 rfl ?_ rfl | refine O4 rfl rfl rfl (fun _ _ => ?_) | refine O5 tok rfl rfl rfl (fun _ _ => ?_) | refine U0 _ (U2 rfl) rfl ?_ | refine U0 _ (U3 tok rfl rfl rfl rfl rfl) rfl ?_ | refine z3 tok rfl ?_ | refine U0 _ (U4 rfl rfl) rfl ?_ | refine U0 _ (U5 rfl rfl) rfl ?_) | (refine M1 ?_; first | refine J0 ?_ | refine J1 ?_ | refine J2 mixed rfl (by kernel_rfl) ?_ | refine J3 mixed rfl rfl (by kernel_rfl) ?_ | refine J4 ?_ | refine J5 ?_ | refine J6 ?_ | refine J7 ?_ | refine J8 rfl ?_ | refine J9 rfl ?_) | (refine M2 ?_; first | refine I0 ?_ | refine I1 ?_ | refine I2 ?_ | refine I3 ?_ | refine I4 ?_ | refine I5 ?_ | refine I6 rfl ?_ | refine I7 ?_ | refine I8 ?_ | refine z4 ?_) | (refine M3 ?_; first | refine O6 ?_ | refine z2 tok rfl ?_ | refine O8 rfl ?_ | refine O7 rfl ?_ rfl | refine O9 rfl ?_ rfl | refine U1 _ (U4 rfl rfl) rfl ?_ | refine U1 _ (U5 rfl rfl) rfl ?_ | refine U1 _ (U2 rfl) rfl ?_ | refine U1 _ (U3 tok rfl rfl rfl rfl rfl) rfl ?_) | (refine M4 ?_; first | refine M6 ?_ | refine U6 rfl (by kernel_rfl) ?_ | refine U7 (by kernel_rfl) ?_) | (refine M5 ?_; first | exact M7 | refine U8 rfl ?_ | refine U9 rfl rfl ?_ ?_))
      refine XL.step _ (Ev.indexArr tok Tryd.underlying138 fn_one rfl (j := 3) rfl (by decide) rfl) rfl ?_
      repeat (first | (refine M0 ?_; first | refine O0 ?_ | refine z1 tok rfl ?_ | refine O1 rfl ?_ rfl | refine O2 rfl ?_ | refine O3 rfl ?_ rfl | refine O4 rfl rfl rfl (fun _ _ => ?_) | refine O5 tok rfl rfl rfl (fun _ _ => ?_) | refine U0 _ (U2 rfl) rfl ?_ | refine U0 _ (U3 tok rfl rfl rfl rfl rfl) rfl ?_ | refine z3 tok rfl ?_ | refine U0 _ (U4 rfl rfl) rfl ?_ | refine U0 _ (U5 rfl rfl) rfl ?_) | (refine M1 ?_; first | refine J0 ?_ | refine J1 ?_ | refine J2 mixed rfl (by kernel_rfl) ?_ | refine J3 mixed rfl rfl (by kernel_rfl) ?_ | refine J4 ?_ | refine J5 ?_ | refine J6 ?_ | refine J7 ?_ | refine J8 rfl ?_ | refine J9 rfl ?_) | (refine M2 ?_; first | refine I0 ?_ | refine I1 ?_ | refine I2 ?_ | refine I3 ?_ | refine I4 ?_ | refine I5 ?_ | refine I6 rfl ?_ | refine I7 ?_ | refine I8 ?_ | refine z4 ?_) | (refine M3 ?_; first | refine O6 ?_ | refine z2 tok rfl ?_ | refine O8 rfl ?_ | refine O7 rfl ?_ rfl | refine O9 rfl ?_ rfl | refine U1 _ (U4 rfl rfl) rfl ?_ | refine U1 _ (U5 rfl rfl) rfl ?_ | refine U1 _ (U2 rfl) rfl ?_ | refine U1 _ (U3 tok rfl rfl rfl rfl rfl) rfl ?_) | (refine M4 ?_; first | refine M6 ?_ | refine U6 rfl (by kernel_rfl) ?_ | refine U7 (by kernel_rfl) ?_) | (refine M5 ?_; first | exact M7 | refine U8 rfl ?_ | refine U9 rfl rfl ?_ ?_))
      refine XL.callT (B' := g9) 0 (fst := [.pointer (some ⟨g9, 0, none⟩)]) (cap := []) (vs := []) (ck rfl) rfl rfl rfl rfl rfl (fun w5 S5 => (off_any (g := g9) (p := p) (b := b) (q := q2) (s := ⟨vol3 b s t, s.fil⟩) (t := t) (r := ⟨none, 0, 0⟩) (f := ⟨t.river, overOf b t, leakOf b t.outer (vol2 b s t), 0, []⟩) (S5.obj (i := 0) rfl) ((hb2.below S5.toBelow).more (by omega)) ho o3 (by simp only; omega) :)) ?_
      repeat (first | (refine M0 ?_; first | refine O0 ?_ | refine z1 tok rfl ?_ | refine O1 rfl ?_ rfl | refine O2 rfl ?_ | refine O3 rfl ?_ rfl | refine O4 rfl rfl rfl (fun _ _ => ?_) | refine O5 tok rfl rfl rfl (fun _ _ => ?_) | refine U0 _ (U2 rfl) rfl ?_ | refine U0 _ (U3 tok rfl rfl rfl rfl rfl) rfl ?_ | refine z3 tok rfl ?_ | refine U0 _ (U4 rfl rfl) rfl ?_ | refine U0 _ (U5 rfl rfl) rfl ?_) | (refine M1 ?_; first | refine J0 ?_ | refine J1 ?_ | refine J2 mixed rfl (by kernel_rfl) ?_ | refine J3 mixed rfl rfl (by kernel_rfl) ?_ | refine J4 ?_ | refine J5 ?_ | refine J6 ?_ | refine J7 ?_ | refine J8 rfl ?_ | refine J9 rfl ?_) | (refine M2 ?_; first | refine I0 ?_ | refine I1 ?_ | refine I2 ?_ | refine I3 ?_ | refine I4 ?_ | refine I5 ?_ | refine I6 rfl ?_ | refine I7 ?_ | refine I8 ?_ | refine z4 ?_) | (refine M3 ?_; first | refine O6 ?_ | refine z2 tok rfl ?_ | refine O8 rfl ?_ | refine O7 rfl ?_ rfl | refine O9 rfl ?_ rfl | refine U1 _ (U4 rfl rfl) rfl ?_ | refine U1 _ (U5 rfl rfl) rfl ?_ | refine U1 _ (U2 rfl) rfl ?_ | refine U1 _ (U3 tok rfl rfl rfl rfl rfl) rfl ?_) | (refine M4 ?_; first | refine M6 ?_ | refine U6 rfl (by kernel_rfl) ?_ | refine U7 (by kernel_rfl) ?_) | (refine M5 ?_; first | exact M7 | refine U8 rfl ?_ | refine U9 rfl rfl ?_ ?_))
      refine XE.round (s := (3, W, ⟨none, 0, 0⟩)) (3 + 1, W, ⟨none, 0, 0⟩) ⟨by simp, hB2, hoF, hoT, fun _ => rfl, fun _ => c1 (by omega), fun _ => c2 (by omega), fun _ => c3 (by omega), fun x hx => by cases hx⟩ (by simp) (by repeat (first | exact Sub.nil | refine Sub.cons rfl ?_)) (fun _ h => h)
    · -- polders
      repeat (first | (refine M0 ?_; first | refine O0 ?_ | refine z1 tok rfl ?_ | refine O1 rfl ?_ rfl | refine O2 rfl ?_ | refine O3 rfl ?_ rfl | refine O4 rfl rfl rfl (fun _ _ => ?_) | refine O5 tok rfl rfl rfl (fun _ _ => ?_) | refine U0 _ (U2 rfl) rfl ?_ | refine U0 _ (U3 tok rfl rfl rfl rfl rfl) rfl ?_ | refine z3 tok rfl ?_ | refine U0 _ (U4 rfl rfl) rfl ?_ | refine U0 _ (U5 rfl rfl) rfl ?_) | (refine M1 ?_; first | refine J0 ?_ | refine J1 ?_ | refine J2 mixed rfl (by kernel_rfl) ?_ | refine J3 mixed rfl rfl (by kernel_rfl) ?_ | refine J4 ?_ | refine J5 ?_ | refine J6 ?_ | refine J7 ?_ | refine J8 rfl ?_ | refine J9 rfl ?_) | (refine M2 ?_; first | refine I0 ?_ | refine I1 ?_ | refine I2 ?_ | refine I3 ?_ | refine I4 ?_ | refine I5 ?_ | refine I6 rfl ?_ | refine I7 ?_ | refine I8 ?_ | refine z4 ?_) | (refine M3 ?_; first | refine O6 ?_ | refine z2 tok rfl ?_ | refine O8 rfl ?_ | refine O7 rfl ?_ rfl | refine O9 rfl ?_ rfl | refine U1 _ (U4 rfl rfl) rfl ?_ | refine U1 _ (U5 rfl rfl) rfl ?_ | refine U1 _ (U2 rfl) rfl ?_ | refine U1 _ (U3 tok rfl rfl rfl rfl rfl) rfl ?_) | (refine M4 ?_; first | refine M6 ?_ | refine U6 rfl (by kernel_rfl) ?_ | refine U7 (by kernel_rfl) ?_) | (refine M5 ?_; first | exact M7 | refine U8 rfl ?_ | refine U9 rfl rfl ?_ ?_))
      refine XL.step _ (Ev.indexArr tok Tryd.underlying138 fn_one rfl (j := 4) rfl (by decide) rfl) rfl ?_
      repeat (first | (refine M0 ?_; first | refine O0 ?_ | refine z1 tok rfl ?_ | refine O1 rfl ?_ rfl | refine O2 rfl ?_ | refine O3 rfl ?_ rfl | refine O4 rfl rfl rfl (fun _ _ => ?_) | refine O5 tok rfl rfl rfl (fun _ _ => ?_) | refine U0 _ (U2 rfl) rfl ?_ | refine U0 _ (U3 tok rfl rfl rfl rfl rfl) rfl ?_ | refine z3 tok rfl ?_ | refine U0 _ (U4 rfl rfl) rfl ?_ | refine U0 _ (U5 rfl rfl) rfl ?_) | (refine M1 ?_; first | refine J0 ?_ | refine J1 ?_ | refine J2 mixed rfl (by kernel_rfl) ?_ | refine J3 mixed rfl rfl (by kernel_rfl) ?_ | refine J4 ?_ | refine J5 ?_ | refine J6 ?_ | refine J7 ?_ | refine J8 rfl ?_ | refine J9 rfl ?_) | (refine M2 ?_; first | refine I0 ?_ | refine I1 ?_ | refine I2 ?_ | refine I3 ?_ | refine I4 ?_ | refine I5 ?_ | refine I6 rfl ?_ | refine I7 ?_ | refine I8 ?_ | refine z4 ?_) | (refine M3 ?_; first | refine O6 ?_ | refine z2 tok rfl ?_ | refine O8 rfl ?_ | refine O7 rfl ?_ rfl | refine O9 rfl ?_ rfl | refine U1 _ (U4 rfl rfl) rfl ?_ | refine U1 _ (U5 rfl rfl) rfl ?_ | refine U1 _ (U2 rfl) rfl ?_ | refine U1 _ (U3 tok rfl rfl rfl rfl rfl) rfl ?_) | (refine M4 ?_; first | refine M6 ?_ | refine U6 rfl (by kernel_rfl) ?_ | refine U7 (by kernel_rfl) ?_) | (refine M5 ?_; first | exact M7 | refine U8 rfl ?_ | refine U9 rfl rfl ?_ ?_))
      have hk4v : b.v0 ≤ vol4 b s t ∧ vol4 b s t ≤ 1000000000 := (stepOk_of ho hs (stepE_0 hbad (c1 (by omega)) (c2 (by omega)) (c3 (by omega)))).v4
      by_cases hm0 : b.pols.length = 0
      · refine XL.callT (B' := g9) 0 (fst := [.pointer (some ⟨g9, 0, none⟩)]) (cap := []) (vs := []) (ck rfl) rfl rfl rfl rfl rfl (fun w5 S5 => (polders0_any (g := g9) (p := p) (b := b) (q := q2) (s := ⟨vol4 b s t, s.fil⟩) (t := t) (r := ⟨none, 0, 0⟩) (f := floK b s t 4) (S5.obj (i := 0) rfl) ((hb2.below S5.toBelow).more (by omega)) hm0 :)) ?_
        have e5 : staK b s t 5 = ⟨vol4 b s t, s.fil⟩ := by simp [staK, hm0, polV]
        have e6 : filS b s t 5 = s.fil := by simp [filS, stepS, hm0, rg]; rw [hm0] at hl; exact List.length_eq_zero_iff.1 hl
        have e7 : tkS b s t 5 = [] := by simp [tkS, stepF, hm0, rg]
        repeat (first | (refine M0 ?_; first | refine O0 ?_ | refine z1 tok rfl ?_ | refine O1 rfl ?_ rfl | refine O2 rfl ?_ | refine O3 rfl ?_ rfl | refine O4 rfl rfl rfl (fun _ _ => ?_) | refine O5 tok rfl rfl rfl (fun _ _ => ?_) | refine U0 _ (U2 rfl) rfl ?_ | refine U0 _ (U3 tok rfl rfl rfl rfl rfl) rfl ?_ | refine z3 tok rfl ?_ | refine U0 _ (U4 rfl rfl) rfl ?_ | refine U0 _ (U5 rfl rfl) rfl ?_) | (refine M1 ?_; first | refine J0 ?_ | refine J1 ?_ | refine J2 mixed rfl (by kernel_rfl) ?_ | refine J3 mixed rfl rfl (by kernel_rfl) ?_ | refine J4 ?_ | refine J5 ?_ | refine J6 ?_ | refine J7 ?_ | refine J8 rfl ?_ | refine J9 rfl ?_) | (refine M2 ?_; first | refine I0 ?_ | refine I1 ?_ | refine I2 ?_ | refine I3 ?_ | refine I4 ?_ | refine I5 ?_ | refine I6 rfl ?_ | refine I7 ?_ | refine I8 ?_ | refine z4 ?_) | (refine M3 ?_; first | refine O6 ?_ | refine z2 tok rfl ?_ | refine O8 rfl ?_ | refine O7 rfl ?_ rfl | refine O9 rfl ?_ rfl | refine U1 _ (U4 rfl rfl) rfl ?_ | refine U1 _ (U5 rfl rfl) rfl ?_ | refine U1 _ (U2 rfl) rfl ?_ | refine U1 _ (U3 tok rfl rfl rfl rfl rfl) rfl ?_) | (refine M4 ?_; first | refine M6 ?_ | refine U6 rfl (by kernel_rfl) ?_ | refine U7 (by kernel_rfl) ?_) | (refine M5 ?_; first | exact M7 | refine U8 rfl ?_ | refine U9 rfl rfl ?_ ?_))
        refine XE.round (s := (4, W, ⟨none, 0, 0⟩)) (4 + 1, W, ⟨none, 0, 0⟩) ⟨by simp, hB2, by simp only [e6]; exact hown, by simp only [e7]; exact World.ownsRow_nil _ _ _ _, fun h => absurd h (by simp), fun _ => c1 (by omega), fun _ => c2 (by omega), fun _ => c3 (by omega), fun x hx => by cases hx⟩ (by simp) (by repeat (first | exact Sub.nil | refine Sub.cons rfl ?_)) (fun w6 S6 => by simp only [e5]; exact S6)
      · obtain ⟨fb, sp, hA, hnq, hbf, hheap, hlen, hcm⟩ := owns_block hownC (by omega)
        obtain ⟨Aq, nq, cq⟩ := q2
        simp only at hA hnq hlen hcm
        subst hA hnq
        have hfW := (Array.getElem?_eq_some_iff.1 hheap).1
        have hnot := hsQ fb rfl
        simp only [List.mem_cons, List.not_mem_nil, or_false, not_or] at hnot
        have hs' : StaOk b ⟨vol4 b s t, s.fil⟩ := ⟨hs.len, hk4v, hs.fil⟩
        refine XL.callr (fst := [.pointer (some ⟨g9, 0, none⟩)]) (cap := []) (vs := []) (fun w5 v w6 => v = .bool true ∧ ∃ r : SV, Sys w.heap.size w5 [(g9, watO p b ⟨some ⟨fb, 0, none⟩, s.fil.length, cq⟩ (staK b s t 5) t r (floK b s t 5)), (fb, cel 3 (ints (stepS b s t).fil ++ sp))] w6 ∧
          w6.ownsRow w5.heap.size 3 1 (svV r) (stepF b s t).taken.length (ints (stepF b s t).taken)) (ck rfl) rfl rfl rfl (fun w5 S5 => ?_) (fun w5 v w6 S5 hR => ?_)
        · have hfw5 : w5.heap[fb]? = some (cel 3 (ints s.fil ++ sp)) := by
            rw [S5.old fb hfW (fun e he e1 => by
              simp only [List.mem_cons, List.not_mem_nil, or_false] at he
              rcases he with rfl | rfl | rfl | rfl | rfl | rfl <;> simp only at e1 <;> omega)]
            exact hheap
          refine (polders_any (g := g9) (fb := fb) (B := w.heap.size) (p := p) (b := b) (n := s.fil.length) (c := cq) (s := ⟨vol4 b s t, s.fil⟩) (t := t) (f := floK b s t 4) (sp := sp) (S5.obj (i := 0) rfl) hfw5 (fun e => hnot.1 e.symm) (by omega) (by omega) (hb2.below S5.toBelow) ho hs' hs.len).mono fun e w6 he => ?_
          obtain ⟨rfl, r1, hS, hT⟩ := he
          refine ⟨_, rfl, rfl, r1, ?_, ?_⟩
          · simp only [polV_vol, polT_vol] at hS
            exact hS
          · simp only [polT_vol] at hT
            have : (stepF b s t).taken.length = b.pols.length := by simp [stepF, rg_len]
            rw [this]; exact hT
        · obtain ⟨rfl, r1, hS, hT⟩ := hR
          refine ⟨_, w6, S5.turnedF 0 rfl rfl hS (fun e he e1 => ?_), ?_⟩
          · simp only [List.mem_cons, List.not_mem_nil, or_false] at he
            rcases he with rfl | rfl | rfl | rfl | rfl | rfl <;> simp only at e1 <;> omega
          have hB6 : Below w.heap.size w w6 := hB2.trans (S5.toBelow.trans hS.toBelow)
          have hfil : (stepS b s t).fil.length = s.fil.length := by simp [stepS, rg_len, hl]
          have hfb6 := (hS.own (fb, _) (List.mem_cons_of_mem _ List.mem_cons_self)).2
          have hids := fun e he => S5.lt (e := e) he
          simp only [List.mem_cons, forall_eq_or_imp, List.not_mem_nil, false_implies, implies_true, and_true] at hids
          repeat (first | (refine M0 ?_; first | refine O0 ?_ | refine z1 tok rfl ?_ | refine O1 rfl ?_ rfl | refine O2 rfl ?_ | refine O3 rfl ?_ rfl | refine O4 rfl rfl rfl (fun _ _ => ?_) | refine O5 tok rfl rfl rfl (fun _ _ => ?_) | refine U0 _ (U2 rfl) rfl ?_ | refine U0 _ (U3 tok rfl rfl rfl rfl rfl) rfl ?_ | refine z3 tok rfl ?_ | refine U0 _ (U4 rfl rfl) rfl ?_ | refine U0 _ (U5 rfl rfl) rfl ?_) | (refine M1 ?_; first | refine J0 ?_ | refine J1 ?_ | refine J2 mixed rfl (by kernel_rfl) ?_ | refine J3 mixed rfl rfl (by kernel_rfl) ?_ | refine J4 ?_ | refine J5 ?_ | refine J6 ?_ | refine J7 ?_ | refine J8 rfl ?_ | refine J9 rfl ?_) | (refine M2 ?_; first | refine I0 ?_ | refine I1 ?_ | refine I2 ?_ | refine I3 ?_ | refine I4 ?_ | refine I5 ?_ | refine I6 rfl ?_ | refine I7 ?_ | refine I8 ?_ | refine z4 ?_) | (refine M3 ?_; first | refine O6 ?_ | refine z2 tok rfl ?_ | refine O8 rfl ?_ | refine O7 rfl ?_ rfl | refine O9 rfl ?_ rfl | refine U1 _ (U4 rfl rfl) rfl ?_ | refine U1 _ (U5 rfl rfl) rfl ?_ | refine U1 _ (U2 rfl) rfl ?_ | refine U1 _ (U3 tok rfl rfl rfl rfl rfl) rfl ?_) | (refine M4 ?_; first | refine M6 ?_ | refine U6 rfl (by kernel_rfl) ?_ | refine U7 (by kernel_rfl) ?_) | (refine M5 ?_; first | exact M7 | refine U8 rfl ?_ | refine U9 rfl rfl ?_ ?_))
          refine XE.round (s := (4, W, ⟨none, 0, 0⟩)) (4 + 1, w6, r1) ⟨by simp, hB6, ?_, ?_, fun h => absurd h (by simp), fun _ => c1 (by omega), fun _ => c2 (by omega), fun _ => c3 (by omega), fun x hx hm' => ?_⟩ (by simp) (by repeat (first | exact Sub.nil | refine Sub.cons rfl ?_)) (fun _ h => h)
          · exact owns_of (xs := ints (stepS b s t).fil) hfb6 (by omega) (by rw [ints_len, hfil]) (by rw [ints_len, hfil, ← hlen, ints_len]) hcm
          · exact owns_base hT (Nat.le_trans hB2.size S5.size)
          · have := hT.lt x hx
            simp only [List.mem_cons, List.not_mem_nil, or_false] at hm'
            omega
    · omega
  · simp only [decide_eq_false_iff_not] at h5
    obtain rfl : k = 5 := by omega
    have hE : stepE b s t = 0 := stepE_0 hbad (c1 (by omega)) (c2 (by omega)) (c3 (by omega))
    repeat (first | (refine M0 ?_; first | refine O0 ?_ | refine z1 tok rfl ?_ | refine O1 rfl ?_ rfl | refine O2 rfl ?_ | refine O3 rfl ?_ rfl | refine O4 rfl rfl rfl (fun _ _ => ?_) | refine O5 tok rfl rfl rfl (fun _ _ => ?_) | refine U0 _ (U2 rfl) rfl ?_ | refine U0 _ (U3 tok rfl rfl rfl rfl rfl) rfl ?_ | refine z3 tok rfl ?_ | refine U0 _ (U4 rfl rfl) rfl ?_ | refine U0 _ (U5 rfl rfl) rfl ?_) | (refine M1 ?_; first | refine J0 ?_ | refine J1 ?_ | refine J2 mixed rfl (by kernel_rfl) ?_ | refine J3 mixed rfl rfl (by kernel_rfl) ?_ | refine J4 ?_ | refine J5 ?_ | refine J6 ?_ | refine J7 ?_ | refine J8 rfl ?_ | refine J9 rfl ?_) | (refine M2 ?_; first | refine I0 ?_ | refine I1 ?_ | refine I2 ?_ | refine I3 ?_ | refine I4 ?_ | refine I5 ?_ | refine I6 rfl ?_ | refine I7 ?_ | refine I8 ?_ | refine z4 ?_) | (refine M3 ?_; first | refine O6 ?_ | refine z2 tok rfl ?_ | refine O8 rfl ?_ | refine O7 rfl ?_ rfl | refine O9 rfl ?_ rfl | refine U1 _ (U4 rfl rfl) rfl ?_ | refine U1 _ (U5 rfl rfl) rfl ?_ | refine U1 _ (U2 rfl) rfl ?_ | refine U1 _ (U3 tok rfl rfl rfl rfl rfl) rfl ?_) | (refine M4 ?_; first | refine M6 ?_ | refine U6 rfl (by kernel_rfl) ?_ | refine U7 (by kernel_rfl) ?_) | (refine M5 ?_; first | exact M7 | refine U8 rfl ?_ | refine U9 rfl rfl ?_ ?_))
    refine XC.drawRS _ [(g9, watO p b q2 (staK b s t 5) t r (floK b s t 5))] [0, 1, 2, 3, 4, 5, 6, 7] [8, 9, 10] mixed (fun _ h => Sys.anchor (by assumption) h (by simp) (by simp)) rfl (by kernel_rfl) ?_
    repeat (any_goals (first | (refine M0 ?_; first | refine O0 ?_ | refine z1 tok rfl ?_ | refine O1 rfl ?_ rfl | refine O2 rfl ?_ | refine O3 rfl ?_ rfl | (refine XL.split _ _ rfl (fun h => ?_) (fun h => ?_) <;> rw [h]) | refine O4 rfl rfl rfl (fun _ _ => ?_) | refine O5 tok rfl rfl rfl (fun _ _ => ?_) | refine U0 _ (U2 rfl) rfl ?_ | refine U0 _ (U3 tok rfl rfl rfl rfl rfl) rfl ?_ | refine z3 tok rfl ?_ | refine U0 _ (U4 rfl rfl) rfl ?_ | refine U0 _ (U5 rfl rfl) rfl ?_) | (refine M1 ?_; first | refine J0 ?_ | refine J1 ?_ | refine J2 mixed rfl (by kernel_rfl) ?_ | refine J3 mixed rfl rfl (by kernel_rfl) ?_ | refine J4 ?_ | refine J5 ?_ | refine J6 ?_ | refine J7 ?_ | refine J8 rfl ?_ | refine J9 rfl ?_ | refine XC.cond _ rfl (fun h => ?_) (fun h => ?_)) | (refine M2 ?_; first | refine I0 ?_ | refine I1 ?_ | refine I2 ?_ | refine I3 ?_ | refine I4 ?_ | refine I5 ?_ | refine I6 rfl ?_ | refine I7 ?_ | refine I8 ?_ | refine z4 ?_) | (refine M3 ?_; first | refine O6 ?_ | refine z2 tok rfl ?_ | refine O8 rfl ?_ | refine O7 rfl ?_ rfl | refine O9 rfl ?_ rfl | (refine Fw.split _ _ rfl (fun h => ?_) (fun h => ?_) <;> rw [h]) | refine U1 _ (U4 rfl rfl) rfl ?_ | refine U1 _ (U5 rfl rfl) rfl ?_ | refine U1 _ (U2 rfl) rfl ?_ | refine U1 _ (U3 tok rfl rfl rfl rfl rfl) rfl ?_) | (refine M4 ?_; first | refine M6 ?_ | refine U6 rfl (by kernel_rfl) ?_ | refine U7 (by kernel_rfl) ?_) | (refine M5 ?_; first | exact M7 | refine U8 rfl ?_ | refine U9 rfl rfl ?_ ?_)))
    refine XE.retg tok Tryd.results48 rfl (by simp only [and_self, and_true]) (fun w' S => ?_)
    have sepL : ∀ (v : SV), (∀ x, (svV v).ownBlock = some x → x ∉ [g9, g7, g6, g5, g4, g3]) → ∀ k, (svV v).ownBlock = some k → ∀ e : Nat × Obj, e.1 ∈ [g9, g7, g6, g5, g4, g3] → e.1 ≠ k := fun v hv k hk e he e1 => hv k hk (e1 ▸ he)
    refine ⟨_, rfl, q2, r, by rw [outS_0 hE, outF_0 hE, hE]; rfl, ?_, ?_, hBW.trans S.toBelow⟩
    · rw [outS_0 hE]
      refine IntsAt.own (e := 3) ?_
      have := owns_sys hoF S (fun k hk e he => sepL q2 hsQ k hk e (by simp only [List.mem_cons, List.not_mem_nil, or_false] at he ⊢; rcases he with rfl | rfl | rfl | rfl | rfl | rfl <;> simp))
      have hfil : (stepS b s t).fil.length = s.fil.length := by simp [stepS, rg_len, hl]
      rw [hfil]; exact this
    · rw [outF_0 hE]
      exact IntsAt.own (e := 3) (owns_sys hoT S (fun k hk e he => sepL r hsR k hk e (by simp only [List.mem_cons, List.not_mem_nil, or_false] at he ⊢; rcases he with rfl | rfl | rfl | rfl | rfl | rfl <;> simp)))
end Go.Proofs.YtoiepgcjinccpaaDoor.X
/-
  The walk of the document's step.
-/
namespace Go.Proofs.YtoiepgcjinccpaaDoor.X
open Go Go.RowKit Go.Proofs.YtoiepgcjinccpaaDoor.Bs
set_option linter.unusedVariables false
/-- what leaks, as the document reckons it. -/
theorem leak_alt (b : Bas) (outer v : Int) : b.leak * (outer * den b v - num b v) = b.leak * (-(num b v) - (-outer) * den b v) := by rw [Int.neg_mul]; congr 1; omega
theorem take_alt {b : Bas} (ho : Ok b) {v : Int} {i : Nat} (hi : i < b.pols.length) (h2 : (b.pol i).sill * den b v < num b v) :
    ((b.pol i).take * (num b v - (b.pol i).sill * den b v)).tdiv (den b v) = (b.pol i).take * (num b v - (b.pol i).sill * den b v) / den b v :=
  Int.tdiv_eq_ediv_of_nonneg (Int.mul_nonneg (ho.take i hi).1 (by omega))
set_option maxHeartbeats 16000000 in
theorem refStep_any {p : BV} {b : Bas} {q : SV} {s : Sta} {t : Tick} {w : World} (hb : BasAt w w.heap.size p b) (hq : IntsAt w (Lt w.heap.size) q s.fil) (ho : Ok b) (hs : StaOk b s) :
    Calls Tryd.prog 49 #[basV p b, staV q s, tickV t] w fun e w' => ∃ v, e = .returned v ∧ StepR b s t w v w' := by
  have hm := ho.m6
  have hl := hs.len
  obtain ⟨A, n, c⟩ := q
  have hn := hq.len
  simp only at hn
  subst hn
  obtain ⟨Ap, n1, c1, A2, n2, c2⟩ := p
  have hn1 := hb.n_eq
  have hn2 := hb.n2_eq
  simp only at hn1 hn2
  subst hn1 hn2
  have h2r := ho.n2
  obtain ⟨ad, rfl, hlt⟩ := hb.rows.addr (by simp only; omega)
  simp only [basV, basC, staV, staC, tickV, tickC]
  refine enter Tryd.func49 rfl Tryd.ntmps49 rfl ?_; simp only [frame, Nat.zero_add, Nat.reduceAdd]
  repeat (any_goals (first | (refine M0 ?_; first | refine O0 ?_ | refine z1 tok rfl ?_ | refine O1 rfl ?_ rfl | refine O2 rfl ?_ | refine O3 rfl ?_ rfl | (refine XL.split _ _ rfl (fun h => ?_) (fun h => ?_) <;> rw [h]) | refine U0 _ (Ev.call (f := 64) (ck rfl) rfl (fun w _ => level_any _ w)) rfl ?_ | refine U0 _ (Ev.call (f := 54) (ck rfl) rfl (fun w _ => in_any _ _ _ w)) rfl ?_ | refine O4 rfl rfl rfl (fun _ _ => ?_) | refine O5 tok rfl rfl rfl (fun _ _ => ?_) | refine U0 _ (U2 rfl) rfl ?_ | refine U0 _ (U3 tok rfl rfl rfl rfl rfl) rfl ?_ | refine z3 tok rfl ?_ | refine U0 _ (U4 rfl rfl) rfl ?_ | refine U0 _ (U5 rfl rfl) rfl ?_) | (refine M1 ?_; first | refine J0 ?_ | refine J1 ?_ | refine J2 mixed rfl (by kernel_rfl) ?_ | refine J3 mixed rfl rfl (by kernel_rfl) ?_ | refine J4 ?_ | refine J5 ?_ | refine J6 ?_ | refine J7 ?_ | refine J8 rfl ?_ | refine J9 rfl ?_ | refine XC.cond _ rfl (fun h => ?_) (fun h => ?_)) | (refine M2 ?_; first | refine I0 ?_ | refine I1 ?_ | refine I2 ?_ | refine I3 ?_ | refine I4 ?_ | refine I5 ?_ | refine I6 rfl ?_ | refine I7 ?_ | refine I8 ?_ | refine z4 ?_) | (refine M3 ?_; first | refine O6 ?_ | refine z2 tok rfl ?_ | refine O8 rfl ?_ | refine O7 rfl ?_ rfl | refine O9 rfl ?_ rfl | (refine Fw.split _ _ rfl (fun h => ?_) (fun h => ?_) <;> rw [h]) | refine U1 _ (Ev.call (f := 64) (ck rfl) rfl (fun w _ => level_any _ w)) rfl ?_ | refine U1 _ (Ev.call (f := 54) (ck rfl) rfl (fun w _ => in_any _ _ _ w)) rfl ?_ | refine U1 _ (U4 rfl rfl) rfl ?_ | refine U1 _ (U5 rfl rfl) rfl ?_ | refine U1 _ (U2 rfl) rfl ?_ | refine U1 _ (U3 tok rfl rfl rfl rfl rfl) rfl ?_) | (refine M4 ?_; first | refine M6 ?_ | refine U6 rfl (by kernel_rfl) ?_ | refine U7 (by kernel_rfl) ?_) | (refine M5 ?_; first | exact M7 | refine U8 rfl ?_ | refine U9 rfl rfl ?_ ?_)))
  all_goals simp only [Bool.not_not] at *
  all_goals try (refine XE.retg tok Tryd.results49 rfl (by simp only [and_self, and_true]) (fun w' S => ?_)
                 refine ⟨_, rfl, StepR.err (stepE_7 (by simp [tickBad, *])) (by decide) S.toBelow⟩)
  rename_i g3 hg3 g4 hg4 g5 hg5 g6 hg6 g7 hg7 h1 h2
  have h3 := h
  have hbad : tickBad t = false := by simp [tickBad, *]
  have o1 := outB_f.1 h1
  have o2 := outB_f.1 h2
  have o3 := outB_f.1 h3
  have hv0 := v0_bd ho
  have hvs := hs.vol
  have hov := over_bd ho t o1
  have hcr := ho.crest
  have e1 : vol1 s t = s.vol + t.river := rfl
  have e2 : vol2 b s t = vol1 s t + overOf b t := rfl
  have e0 : b.v0 = (b.row 0).vol := rfl
  have k0 : i64in (overOf b t) := by unfold i64in; omega
  have k1 : i64in (b.over * max 0 (t.outer - b.crest)) := k0
  repeat (first | (refine M0 ?_; first | refine O0 ?_ | refine z1 tok rfl ?_ | refine O1 rfl ?_ rfl | refine O2 rfl ?_ | refine O3 rfl ?_ rfl | refine U0 _ (Ev.load_old tok rfl rfl (add_lt2 hlt) (hb.rowVol (i := 0) (by omega))) rfl ?_ | refine O4 rfl rfl rfl (fun _ _ => ?_) | refine O5 tok rfl rfl rfl (fun _ _ => ?_) | refine U0 _ (U2 rfl) rfl ?_ | refine U0 _ (U3 tok rfl rfl rfl rfl rfl) rfl ?_ | refine z3 tok rfl ?_ | refine U0 _ (U4 rfl rfl) rfl ?_ | refine U0 _ (U5 rfl rfl) rfl ?_) | (refine M1 ?_; first | refine J0 ?_ | refine J1 ?_ | refine J2 mixed rfl (by kernel_rfl) ?_ | refine J3 mixed rfl rfl (by kernel_rfl) ?_ | refine J4 ?_ | refine J5 ?_ | refine J6 ?_ | refine J7 ?_ | refine J8 rfl ?_ | refine J9 rfl ?_) | (refine M2 ?_; first | refine I0 ?_ | refine I1 ?_ | refine I2 ?_ | refine I3 ?_ | refine I4 ?_ | refine I5 ?_ | refine I6 rfl ?_ | refine I7 ?_ | refine I8 ?_ | refine z4 ?_) | (refine M3 ?_; first | refine O6 ?_ | refine z2 tok rfl ?_ | refine O8 rfl ?_ | refine O7 rfl ?_ rfl | refine O9 rfl ?_ rfl | refine U1 _ (Ev.load_old tok rfl rfl (add_lt2 hlt) (hb.rowVol (i := 0) (by omega))) rfl ?_ | refine U1 _ (U4 rfl rfl) rfl ?_ | refine U1 _ (U5 rfl rfl) rfl ?_ | refine U1 _ (U2 rfl) rfl ?_ | refine U1 _ (U3 tok rfl rfl rfl rfl rfl) rfl ?_) | (refine M4 ?_; first | refine M6 ?_ | refine U6 rfl (by kernel_rfl) ?_ | refine U7 (by kernel_rfl) ?_) | (refine M5 ?_; first | exact M7 | refine U8 rfl ?_ | refine U9 rfl rfl ?_ ?_))
  rename_i g9 hg9
  refine XC.cond _ rfl (fun h4 => ?_) (fun h4 => ?_)
  · simp only [decide_eq_true_eq] at h4
    repeat (first | (refine M0 ?_; first | refine O0 ?_ | refine z1 tok rfl ?_ | refine O1 rfl ?_ rfl | refine O2 rfl ?_ | refine O3 rfl ?_ rfl | refine O4 rfl rfl rfl (fun _ _ => ?_) | refine O5 tok rfl rfl rfl (fun _ _ => ?_) | refine U0 _ (U2 rfl) rfl ?_ | refine U0 _ (U3 tok rfl rfl rfl rfl rfl) rfl ?_ | refine z3 tok rfl ?_ | refine U0 _ (U4 rfl rfl) rfl ?_ | refine U0 _ (U5 rfl rfl) rfl ?_) | (refine M1 ?_; first | refine J0 ?_ | refine J1 ?_ | refine J2 mixed rfl (by kernel_rfl) ?_ | refine J3 mixed rfl rfl (by kernel_rfl) ?_ | refine J4 ?_ | refine J5 ?_ | refine J6 ?_ | refine J7 ?_ | refine J8 rfl ?_ | refine J9 rfl ?_) | (refine M2 ?_; first | refine I0 ?_ | refine I1 ?_ | refine I2 ?_ | refine I3 ?_ | refine I4 ?_ | refine I5 ?_ | refine I6 rfl ?_ | refine I7 ?_ | refine I8 ?_ | refine z4 ?_) | (refine M3 ?_; first | refine O6 ?_ | refine z2 tok rfl ?_ | refine O8 rfl ?_ | refine O7 rfl ?_ rfl | refine O9 rfl ?_ rfl | refine U1 _ (U4 rfl rfl) rfl ?_ | refine U1 _ (U5 rfl rfl) rfl ?_ | refine U1 _ (U2 rfl) rfl ?_ | refine U1 _ (U3 tok rfl rfl rfl rfl rfl) rfl ?_) | (refine M4 ?_; first | refine M6 ?_ | refine U6 rfl (by kernel_rfl) ?_ | refine U7 (by kernel_rfl) ?_) | (refine M5 ?_; first | exact M7 | refine U8 rfl ?_ | refine U9 rfl rfl ?_ ?_))
    refine XE.retg tok Tryd.results49 rfl (by simp only [and_self, and_true]) (fun w' S => ?_)
    exact ⟨_, rfl, StepR.err (stepE_3 hbad (.inl h4)) (by decide) S.toBelow⟩
  simp only [decide_eq_false_iff_not] at h4
  have k2 : i64in (s.vol + t.river + b.over * max 0 (t.outer - b.crest)) := by have : i64in (s.vol + t.river + overOf b t) := (by unfold i64in; omega); exact this
  repeat (first | (refine M0 ?_; first | refine O0 ?_ | refine z1 tok rfl ?_ | refine O1 rfl ?_ rfl | refine O2 rfl ?_ | refine O3 rfl ?_ rfl | refine O4 rfl rfl rfl (fun _ _ => ?_) | refine O5 tok rfl rfl rfl (fun _ _ => ?_) | refine U0 _ (U2 rfl) rfl ?_ | refine U0 _ (U3 tok rfl rfl rfl rfl rfl) rfl ?_ | refine z3 tok rfl ?_ | refine U0 _ (U4 rfl rfl) rfl ?_ | refine U0 _ (U5 rfl rfl) rfl ?_) | (refine M1 ?_; first | refine J0 ?_ | refine J1 ?_ | refine J2 mixed rfl (by kernel_rfl) ?_ | refine J3 mixed rfl rfl (by kernel_rfl) ?_ | refine J4 ?_ | refine J5 ?_ | refine J6 ?_ | refine J7 ?_ | refine J8 rfl ?_ | refine J9 rfl ?_) | (refine M2 ?_; first | refine I0 ?_ | refine I1 ?_ | refine I2 ?_ | refine I3 ?_ | refine I4 ?_ | refine I5 ?_ | refine I6 rfl ?_ | refine I7 ?_ | refine I8 ?_ | refine z4 ?_) | (refine M3 ?_; first | refine O6 ?_ | refine z2 tok rfl ?_ | refine O8 rfl ?_ | refine O7 rfl ?_ rfl | refine O9 rfl ?_ rfl | refine U1 _ (U4 rfl rfl) rfl ?_ | refine U1 _ (U5 rfl rfl) rfl ?_ | refine U1 _ (U2 rfl) rfl ?_ | refine U1 _ (U3 tok rfl rfl rfl rfl rfl) rfl ?_) | (refine M4 ?_; first | refine M6 ?_ | refine U6 rfl (by kernel_rfl) ?_ | refine U7 (by kernel_rfl) ?_) | (refine M5 ?_; first | exact M7 | refine U8 rfl ?_ | refine U9 rfl rfl ?_ ?_))
  refine XC.cond _ rfl (fun h5 => ?_) (fun h5 => ?_)
  · simp only [decide_eq_true_eq] at h5
    repeat (first | (refine M0 ?_; first | refine O0 ?_ | refine z1 tok rfl ?_ | refine O1 rfl ?_ rfl | refine O2 rfl ?_ | refine O3 rfl ?_ rfl | refine O4 rfl rfl rfl (fun _ _ => ?_) | refine O5 tok rfl rfl rfl (fun _ _ => ?_) | refine U0 _ (U2 rfl) rfl ?_ | refine U0 _ (U3 tok rfl rfl rfl rfl rfl) rfl ?_ | refine z3 tok rfl ?_ | refine U0 _ (U4 rfl rfl) rfl ?_ | refine U0 _ (U5 rfl rfl) rfl ?_) | (refine M1 ?_; first | refine J0 ?_ | refine J1 ?_ | refine J2 mixed rfl (by kernel_rfl) ?_ | refine J3 mixed rfl rfl (by kernel_rfl) ?_ | refine J4 ?_ | refine J5 ?_ | refine J6 ?_ | refine J7 ?_ | refine J8 rfl ?_ | refine J9 rfl ?_) | (refine M2 ?_; first | refine I0 ?_ | refine I1 ?_ | refine I2 ?_ | refine I3 ?_ | refine I4 ?_ | refine I5 ?_ | refine I6 rfl ?_ | refine I7 ?_ | refine I8 ?_ | refine z4 ?_) | (refine M3 ?_; first | refine O6 ?_ | refine z2 tok rfl ?_ | refine O8 rfl ?_ | refine O7 rfl ?_ rfl | refine O9 rfl ?_ rfl | refine U1 _ (U4 rfl rfl) rfl ?_ | refine U1 _ (U5 rfl rfl) rfl ?_ | refine U1 _ (U2 rfl) rfl ?_ | refine U1 _ (U3 tok rfl rfl rfl rfl rfl) rfl ?_) | (refine M4 ?_; first | refine M6 ?_ | refine U6 rfl (by kernel_rfl) ?_ | refine U7 (by kernel_rfl) ?_) | (refine M5 ?_; first | exact M7 | refine U8 rfl ?_ | refine U9 rfl rfl ?_ ?_))
    refine XE.retg tok Tryd.results49 rfl (by simp only [and_self, and_true]) (fun w' S => ?_)
    exact ⟨_, rfl, StepR.err (stepE_3 hbad (.inr (.inl h5))) (by decide) S.toBelow⟩
  simp only [decide_eq_false_iff_not] at h5
  rw [show s.vol + t.river + b.over * max 0 (t.outer - b.crest) = vol2 b s t from rfl] at *
  rw [show b.over * max 0 (t.outer - b.crest) = overOf b t from rfl] at *
  have hv2 : b.v0 ≤ vol2 b s t ∧ vol2 b s t ≤ 1000000000 := by omega
  have hd := den_pos ho.rowsOk (vol2 b s t)
  have hnm := num_bd ho.rowsOk hv2
  obtain ⟨j1, j2, j3⟩ := leakQ_bd ho hv2 o1
  rw [← leak_alt] at j2
  have j4 : -20000000000000 ≤ t.outer * den b (vol2 b s t) ∧ t.outer * den b (vol2 b s t) ≤ 20000000000000 := by rw [Int.neg_mul] at j1; omega
  repeat (first | (refine M0 ?_; first | refine O0 ?_ | refine z1 tok rfl ?_ | refine O1 rfl ?_ rfl | refine O2 rfl ?_ | refine O3 rfl ?_ rfl | refine U0 _ (Ev.call (f := 68) (ck rfl) rfl (fun w S => (refExact_any (p := ⟨some ad, b.rows.length, c1, A2, b.pols.length, c2⟩) (hb.sys S) ho.rowsOk hv2 :))) rfl ?_ | refine U0 _ (Ev.call (f := 69) (ck rfl) rfl (fun w S => (down_any (a := b.leak * (t.outer * den b (vol2 b s t) - num b (vol2 b s t))) (b := den b (vol2 b s t)) hd.1 (by omega) w :))) rfl ?_ | refine O4 rfl rfl rfl (fun _ _ => ?_) | refine O5 tok rfl rfl rfl (fun _ _ => ?_) | refine U0 _ (U2 rfl) rfl ?_ | refine U0 _ (U3 tok rfl rfl rfl rfl rfl) rfl ?_ | refine z3 tok rfl ?_ | refine U0 _ (U4 rfl rfl) rfl ?_ | refine U0 _ (U5 rfl rfl) rfl ?_) | (refine M1 ?_; first | refine J0 ?_ | refine J1 ?_ | refine J2 mixed rfl (by kernel_rfl) ?_ | refine J3 mixed rfl rfl (by kernel_rfl) ?_ | refine J4 ?_ | refine J5 ?_ | refine J6 ?_ | refine J7 ?_ | refine J8 rfl ?_ | refine J9 rfl ?_) | (refine M2 ?_; first | refine I0 ?_ | refine I1 ?_ | refine I2 ?_ | refine I3 ?_ | refine I4 ?_ | refine I5 ?_ | refine I6 rfl ?_ | refine I7 ?_ | refine I8 ?_ | refine z4 ?_) | (refine M3 ?_; first | refine O6 ?_ | refine z2 tok rfl ?_ | refine O8 rfl ?_ | refine O7 rfl ?_ rfl | refine O9 rfl ?_ rfl | refine U1 _ (Ev.call (f := 68) (ck rfl) rfl (fun w S => (refExact_any (p := ⟨some ad, b.rows.length, c1, A2, b.pols.length, c2⟩) (hb.sys S) ho.rowsOk hv2 :))) rfl ?_ | refine U1 _ (Ev.call (f := 69) (ck rfl) rfl (fun w S => (down_any (a := b.leak * (t.outer * den b (vol2 b s t) - num b (vol2 b s t))) (b := den b (vol2 b s t)) hd.1 (by omega) w :))) rfl ?_ | refine U1 _ (U4 rfl rfl) rfl ?_ | refine U1 _ (U5 rfl rfl) rfl ?_ | refine U1 _ (U2 rfl) rfl ?_ | refine U1 _ (U3 tok rfl rfl rfl rfl rfl) rfl ?_) | (refine M4 ?_; first | refine M6 ?_ | refine U6 rfl (by kernel_rfl) ?_ | refine U7 (by kernel_rfl) ?_) | (refine M5 ?_; first | exact M7 | refine U8 rfl ?_ | refine U9 rfl rfl ?_ ?_))
  rw [show max (b.leak * (t.outer * den b (vol2 b s t) - num b (vol2 b s t)) / den b (vol2 b s t)) ((b.row 0).vol - vol2 b s t) = leakOf b t.outer (vol2 b s t) from by unfold leakOf leakQ; rw [leak_alt]; rfl]
  have e3 : vol3 b s t = vol2 b s t + leakOf b t.outer (vol2 b s t) := rfl
  have e4 : b.v0 - vol2 b s t ≤ leakOf b t.outer (vol2 b s t) ∧ leakOf b t.outer (vol2 b s t) ≤ 900000000000000000 := by unfold leakOf; omega
  have k3 : i64in (vol2 b s t + leakOf b t.outer (vol2 b s t)) := by unfold i64in; omega
  repeat (first | (refine M0 ?_; first | refine O0 ?_ | refine z1 tok rfl ?_ | refine O1 rfl ?_ rfl | refine O2 rfl ?_ | refine O3 rfl ?_ rfl | refine O4 rfl rfl rfl (fun _ _ => ?_) | refine O5 tok rfl rfl rfl (fun _ _ => ?_) | refine U0 _ (U2 rfl) rfl ?_ | refine U0 _ (U3 tok rfl rfl rfl rfl rfl) rfl ?_ | refine z3 tok rfl ?_ | refine U0 _ (U4 rfl rfl) rfl ?_ | refine U0 _ (U5 rfl rfl) rfl ?_) | (refine M1 ?_; first | refine J0 ?_ | refine J1 ?_ | refine J2 mixed rfl (by kernel_rfl) ?_ | refine J3 mixed rfl rfl (by kernel_rfl) ?_ | refine J4 ?_ | refine J5 ?_ | refine J6 ?_ | refine J7 ?_ | refine J8 rfl ?_ | refine J9 rfl ?_) | (refine M2 ?_; first | refine I0 ?_ | refine I1 ?_ | refine I2 ?_ | refine I3 ?_ | refine I4 ?_ | refine I5 ?_ | refine I6 rfl ?_ | refine I7 ?_ | refine I8 ?_ | refine z4 ?_) | (refine M3 ?_; first | refine O6 ?_ | refine z2 tok rfl ?_ | refine O8 rfl ?_ | refine O7 rfl ?_ rfl | refine O9 rfl ?_ rfl | refine U1 _ (U4 rfl rfl) rfl ?_ | refine U1 _ (U5 rfl rfl) rfl ?_ | refine U1 _ (U2 rfl) rfl ?_ | refine U1 _ (U3 tok rfl rfl rfl rfl rfl) rfl ?_) | (refine M4 ?_; first | refine M6 ?_ | refine U6 rfl (by kernel_rfl) ?_ | refine U7 (by kernel_rfl) ?_) | (refine M5 ?_; first | exact M7 | refine U8 rfl ?_ | refine U9 rfl rfl ?_ ?_))
  refine XC.cond _ rfl (fun h6 => ?_) (fun h6 => ?_)
  · simp only [decide_eq_true_eq] at h6
    repeat (first | (refine M0 ?_; first | refine O0 ?_ | refine z1 tok rfl ?_ | refine O1 rfl ?_ rfl | refine O2 rfl ?_ | refine O3 rfl ?_ rfl | refine O4 rfl rfl rfl (fun _ _ => ?_) | refine O5 tok rfl rfl rfl (fun _ _ => ?_) | refine U0 _ (U2 rfl) rfl ?_ | refine U0 _ (U3 tok rfl rfl rfl rfl rfl) rfl ?_ | refine z3 tok rfl ?_ | refine U0 _ (U4 rfl rfl) rfl ?_ | refine U0 _ (U5 rfl rfl) rfl ?_) | (refine M1 ?_; first | refine J0 ?_ | refine J1 ?_ | refine J2 mixed rfl (by kernel_rfl) ?_ | refine J3 mixed rfl rfl (by kernel_rfl) ?_ | refine J4 ?_ | refine J5 ?_ | refine J6 ?_ | refine J7 ?_ | refine J8 rfl ?_ | refine J9 rfl ?_) | (refine M2 ?_; first | refine I0 ?_ | refine I1 ?_ | refine I2 ?_ | refine I3 ?_ | refine I4 ?_ | refine I5 ?_ | refine I6 rfl ?_ | refine I7 ?_ | refine I8 ?_ | refine z4 ?_) | (refine M3 ?_; first | refine O6 ?_ | refine z2 tok rfl ?_ | refine O8 rfl ?_ | refine O7 rfl ?_ rfl | refine O9 rfl ?_ rfl | refine U1 _ (U4 rfl rfl) rfl ?_ | refine U1 _ (U5 rfl rfl) rfl ?_ | refine U1 _ (U2 rfl) rfl ?_ | refine U1 _ (U3 tok rfl rfl rfl rfl rfl) rfl ?_) | (refine M4 ?_; first | refine M6 ?_ | refine U6 rfl (by kernel_rfl) ?_ | refine U7 (by kernel_rfl) ?_) | (refine M5 ?_; first | exact M7 | refine U8 rfl ?_ | refine U9 rfl rfl ?_ ?_))
    refine XE.retg tok Tryd.results49 rfl (by simp only [and_self, and_true]) (fun w' S => ?_)
    exact ⟨_, rfl, StepR.err (stepE_3 hbad (.inr (.inr h6))) (by decide) S.toBelow⟩
  simp only [decide_eq_false_iff_not] at h6
  rw [show vol2 b s t + leakOf b t.outer (vol2 b s t) = vol3 b s t from rfl] at *
  have hE : stepE b s t = 0 := stepE_0 hbad (by rw [e1]; omega) (by omega) (by omega)
  have hok := stepOk_of ho hs hE
  have hv3 := hok.v3
  have hv4 := hok.v4
  have k4 : i64in (vol3 b s t - (b.row 0).vol) := by unfold i64in; omega
  have k5 : i64in (vol3 b s t - min t.out (vol3 b s t - (b.row 0).vol)) := by have : i64in (vol4 b s t) := (by unfold i64in; omega); exact this
  repeat (first | (refine M0 ?_; first | refine O0 ?_ | refine z1 tok rfl ?_ | refine O1 rfl ?_ rfl | refine O2 rfl ?_ | refine O3 rfl ?_ rfl | refine O4 rfl rfl rfl (fun _ _ => ?_) | refine O5 tok rfl rfl rfl (fun _ _ => ?_) | refine U0 _ (U2 rfl) rfl ?_ | refine U0 _ (U3 tok rfl rfl rfl rfl rfl) rfl ?_ | refine z3 tok rfl ?_ | refine U0 _ (U4 rfl rfl) rfl ?_ | refine U0 _ (U5 rfl rfl) rfl ?_) | (refine M1 ?_; first | refine J0 ?_ | refine J1 ?_ | refine J2 mixed rfl (by kernel_rfl) ?_ | refine J3 mixed rfl rfl (by kernel_rfl) ?_ | refine J4 ?_ | refine J5 ?_ | refine J6 ?_ | refine J7 ?_ | refine J8 rfl ?_ | refine J9 rfl ?_) | (refine M2 ?_; first | refine I0 ?_ | refine I1 ?_ | refine I2 ?_ | refine I3 ?_ | refine I4 ?_ | refine I5 ?_ | refine I6 rfl ?_ | refine I7 ?_ | refine I8 ?_ | refine z4 ?_) | (refine M3 ?_; first | refine O6 ?_ | refine z2 tok rfl ?_ | refine O8 rfl ?_ | refine O7 rfl ?_ rfl | refine O9 rfl ?_ rfl | refine U1 _ (U4 rfl rfl) rfl ?_ | refine U1 _ (U5 rfl rfl) rfl ?_ | refine U1 _ (U2 rfl) rfl ?_ | refine U1 _ (U3 tok rfl rfl rfl rfl rfl) rfl ?_) | (refine M4 ?_; first | refine M6 ?_ | refine U6 rfl (by kernel_rfl) ?_ | refine U7 (by kernel_rfl) ?_) | (refine M5 ?_; first | exact M7 | refine U8 rfl ?_ | refine U9 rfl rfl ?_ ?_))
  rw [show min t.out (vol3 b s t - (b.row 0).vol) = outOf b s t from rfl]
  rw [show vol3 b s t - outOf b s t = vol4 b s t from rfl]
  refine XC.loopk [3, 4, 6, 7, 9] rfl (fun x : Nat × World × SV × SV => [(11, .int .i64 (polV b s (vol4 b s t) x.1)), (14, svV x.2.2.1), (15, .int .i64 (x.1 : Nat))])
    (fun x => [(g9, cel 32 (floC x.2.2.2 (floK b s t 4))), _, _, _, _, _]) (fun x => x.2.1)
    (fun x => x.1 ≤ b.pols.length ∧ Below w.heap.size w x.2.1 ∧ x.2.1.ownsRow w.heap.size 3 1 (svV x.2.2.1) x.1 (ints (rg x.1 fun i => s.f i + polT b s (vol4 b s t) i)) ∧
      x.2.1.ownsRow w.heap.size 3 1 (svV x.2.2.2) x.1 (ints (rg x.1 fun i => polT b s (vol4 b s t) i)) ∧ (∀ k, (svV x.2.2.1).ownBlock = some k → k ∉ [g9, g7, g6, g5, g4, g3]) ∧
      (∀ k, (svV x.2.2.2).ownBlock = some k → k ∉ [g9, g7, g6, g5, g4, g3] ∧ (svV x.2.2.1).ownBlock ≠ some k))
    (fun x => b.pols.length - x.1) (0, w, ⟨none, 0, 0⟩, ⟨none, 0, 0⟩) ⟨Nat.zero_le _, Below.refl _ _, World.ownsRow_nil _ _ _ _, World.ownsRow_nil _ _ _ _, fun k hk => (by cases hk), fun k hk => (by cases hk)⟩ (by repeat (first | exact Sub.nil | refine Sub.cons rfl ?_)) (fun _ h => h) ?_
  rintro ⟨k, W, rF, rT⟩ ⟨hk, hBW, hoF, hoT, sF, sT⟩
  simp only at hk hBW hoF hoT sF sT
  simp only [floC, svV]
  dsimp only [List.cons_append, List.nil_append]
  repeat (first | (refine M0 ?_; first | refine O0 ?_ | refine z1 tok rfl ?_ | refine O1 rfl ?_ rfl | refine O2 rfl ?_ | refine O3 rfl ?_ rfl | refine O4 rfl rfl rfl (fun _ _ => ?_) | refine O5 tok rfl rfl rfl (fun _ _ => ?_) | refine U0 _ (U2 rfl) rfl ?_ | refine U0 _ (U3 tok rfl rfl rfl rfl rfl) rfl ?_ | refine z3 tok rfl ?_ | refine U0 _ (U4 rfl rfl) rfl ?_ | refine U0 _ (U5 rfl rfl) rfl ?_) | (refine M1 ?_; first | refine J0 ?_ | refine J1 ?_ | refine J2 mixed rfl (by kernel_rfl) ?_ | refine J3 mixed rfl rfl (by kernel_rfl) ?_ | refine J4 ?_ | refine J5 ?_ | refine J6 ?_ | refine J7 ?_ | refine J8 rfl ?_ | refine J9 rfl ?_) | (refine M2 ?_; first | refine I0 ?_ | refine I1 ?_ | refine I2 ?_ | refine I3 ?_ | refine I4 ?_ | refine I5 ?_ | refine I6 rfl ?_ | refine I7 ?_ | refine I8 ?_ | refine z4 ?_) | (refine M3 ?_; first | refine O6 ?_ | refine z2 tok rfl ?_ | refine O8 rfl ?_ | refine O7 rfl ?_ rfl | refine O9 rfl ?_ rfl | refine U1 _ (U4 rfl rfl) rfl ?_ | refine U1 _ (U5 rfl rfl) rfl ?_ | refine U1 _ (U2 rfl) rfl ?_ | refine U1 _ (U3 tok rfl rfl rfl rfl rfl) rfl ?_) | (refine M4 ?_; first | refine M6 ?_ | refine U6 rfl (by kernel_rfl) ?_ | refine U7 (by kernel_rfl) ?_) | (refine M5 ?_; first | exact M7 | refine U8 rfl ?_ | refine U9 rfl rfl ?_ ?_))
  refine XC.cond _ rfl (fun h7 => ?_) (fun h7 => ?_)
  · have hkm : k < b.pols.length := by simpa using h7
    have hbW := hb.below hBW
    have hqW := hq.below hBW
    obtain ⟨ad3, rfl, hlt3, hc3⟩ := hqW.at_ (by omega)
    obtain ⟨ad2, rfl, hlt2⟩ := hb.pols.addr (by simp only; omega)
    have hpv := polV_bd ho hs (v := vol4 b s t) hv4 k hk
    have hv : b.v0 ≤ polV b s (vol4 b s t) k ∧ polV b s (vol4 b s t) k ≤ 1000000000 := by omega
    have hdk := den_pos ho.rowsOk (polV b s (vol4 b s t) k)
    have hnk := num_bd ho.rowsOk hv
    obtain ⟨q1, q2⟩ := takeOver_bd ho hv hkm
    have htk := takeOf_bd ho hv hkm (hs.fil k hkm)
    have hrm := ho.room k hkm
    have hfk := hs.fil k hkm
    have hfa : 0 ≤ at0 s.fil k ∧ at0 s.fil k ≤ (b.pol k).room := hfk
    obtain ⟨tk, htkq⟩ : ∃ tk, tk = takeOf b k (polV b s (vol4 b s t) k) (s.f k) := ⟨_, rfl⟩
    repeat (first | (refine M0 ?_; first | refine O0 ?_ | refine z1 tok rfl ?_ | refine O1 rfl ?_ rfl | refine O2 rfl ?_ | refine O3 rfl ?_ rfl | refine U0 _ (Ev.load_old_agg tok (polC (b.pol k)) rfl rfl rfl (add_lt hlt2) (hbW.pol hkm)) rfl ?_ | refine O4 rfl rfl rfl (fun _ _ => ?_) | refine O5 tok rfl rfl rfl (fun _ _ => ?_) | refine U0 _ (U2 rfl) rfl ?_ | refine U0 _ (U3 tok rfl rfl rfl rfl rfl) rfl ?_ | refine z3 tok rfl ?_ | refine U0 _ (U4 rfl rfl) rfl ?_ | refine U0 _ (U5 rfl rfl) rfl ?_) | (refine M1 ?_; first | refine J0 ?_ | refine J1 ?_ | refine J2 mixed rfl (by kernel_rfl) ?_ | refine J3 mixed rfl rfl (by kernel_rfl) ?_ | refine J4 ?_ | refine J5 ?_ | refine J6 ?_ | refine J7 ?_ | refine J8 rfl ?_ | refine J9 rfl ?_) | (refine M2 ?_; first | refine I0 ?_ | refine I1 ?_ | refine I2 ?_ | refine I3 ?_ | refine I4 ?_ | refine I5 ?_ | refine I6 rfl ?_ | refine I7 ?_ | refine I8 ?_ | refine z4 ?_) | (refine M3 ?_; first | refine O6 ?_ | refine z2 tok rfl ?_ | refine O8 rfl ?_ | refine O7 rfl ?_ rfl | refine O9 rfl ?_ rfl | refine U1 _ (Ev.load_old_agg tok (polC (b.pol k)) rfl rfl rfl (add_lt hlt2) (hbW.pol hkm)) rfl ?_ | refine U1 _ (U4 rfl rfl) rfl ?_ | refine U1 _ (U5 rfl rfl) rfl ?_ | refine U1 _ (U2 rfl) rfl ?_ | refine U1 _ (U3 tok rfl rfl rfl rfl rfl) rfl ?_) | (refine M4 ?_; first | refine M6 ?_ | refine U6 rfl (by kernel_rfl) ?_ | refine U7 (by kernel_rfl) ?_) | (refine M5 ?_; first | exact M7 | refine U8 rfl ?_ | refine U9 rfl rfl ?_ ?_))
    rename_i gx hgx
    repeat (first | (refine M0 ?_; first | refine O0 ?_ | refine z1 tok rfl ?_ | refine O1 rfl ?_ rfl | refine O2 rfl ?_ | refine O3 rfl ?_ rfl | refine U0 _ (Ev.call (f := 68) (ck rfl) rfl (fun w S => (refExact_any (p := ⟨some ad, b.rows.length, c1, some ad2, b.pols.length, c2⟩) (hbW.sys S) ho.rowsOk hv :))) rfl ?_ | refine O4 rfl rfl rfl (fun _ _ => ?_) | refine O5 tok rfl rfl rfl (fun _ _ => ?_) | refine U0 _ (U2 rfl) rfl ?_ | refine U0 _ (U3 tok rfl rfl rfl rfl rfl) rfl ?_ | refine z3 tok rfl ?_ | refine U0 _ (U4 rfl rfl) rfl ?_ | refine U0 _ (U5 rfl rfl) rfl ?_) | (refine M1 ?_; first | refine J0 ?_ | refine J1 ?_ | refine J2 mixed rfl (by kernel_rfl) ?_ | refine J3 mixed rfl rfl (by kernel_rfl) ?_ | refine J4 ?_ | refine J5 ?_ | refine J6 ?_ | refine J7 ?_ | refine J8 rfl ?_ | refine J9 rfl ?_) | (refine M2 ?_; first | refine I0 ?_ | refine I1 ?_ | refine I2 ?_ | refine I3 ?_ | refine I4 ?_ | refine I5 ?_ | refine I6 rfl ?_ | refine I7 ?_ | refine I8 ?_ | refine z4 ?_) | (refine M3 ?_; first | refine O6 ?_ | refine z2 tok rfl ?_ | refine O8 rfl ?_ | refine O7 rfl ?_ rfl | refine O9 rfl ?_ rfl | refine U1 _ (Ev.call (f := 68) (ck rfl) rfl (fun w S => (refExact_any (p := ⟨some ad, b.rows.length, c1, some ad2, b.pols.length, c2⟩) (hbW.sys S) ho.rowsOk hv :))) rfl ?_ | refine U1 _ (U4 rfl rfl) rfl ?_ | refine U1 _ (U5 rfl rfl) rfl ?_ | refine U1 _ (U2 rfl) rfl ?_ | refine U1 _ (U3 tok rfl rfl rfl rfl rfl) rfl ?_) | (refine M4 ?_; first | refine M6 ?_ | refine U6 rfl (by kernel_rfl) ?_ | refine U7 (by kernel_rfl) ?_) | (refine M5 ?_; first | exact M7 | refine U8 rfl ?_ | refine U9 rfl rfl ?_ ?_))
    refine XC.cutln [3, 4, 6, 7, 9, 11, 14, 15] rfl (fun _ : Unit => [(19, .int .i64 tk)]) (fun _ => []) (fun _ => True) ?_ (fun _ _ => ?_)
    · refine XC.cond _ rfl (fun h8 => ?_) (fun h8 => ?_)
      · simp only [decide_eq_true_eq] at h8
        have h8' : (b.pol k).sill * den b (polV b s (vol4 b s t) k) < num b (polV b s (vol4 b s t) k) := h8
        have hta := take_alt ho hkm h8'
        unfold takeOf at htkq
        rw [if_pos h8'] at htkq
        repeat (first | (refine M0 ?_; first | refine O0 ?_ | refine z1 tok rfl ?_ | refine O1 rfl ?_ rfl | refine O2 rfl ?_ | refine O3 rfl ?_ rfl | refine U0 _ (Ev.load_old tok rfl rfl (add_lt hlt3) (hc3 k (by omega))) rfl ?_ | refine O4 rfl rfl rfl (fun _ _ => ?_) | refine O5 tok rfl rfl rfl (fun _ _ => ?_) | refine U0 _ (U2 rfl) rfl ?_ | refine U0 _ (U3 tok rfl rfl rfl rfl rfl) rfl ?_ | refine z3 tok rfl ?_ | refine U0 _ (U4 rfl rfl) rfl ?_ | refine U0 _ (U5 rfl rfl) rfl ?_) | (refine M1 ?_; first | refine J0 ?_ | refine J1 ?_ | refine J2 mixed rfl (by kernel_rfl) ?_ | refine J3 mixed rfl rfl (by kernel_rfl) ?_ | refine J4 ?_ | refine J5 ?_ | refine J6 ?_ | refine J7 ?_ | refine J8 rfl ?_ | refine J9 rfl ?_) | (refine M2 ?_; first | refine I0 ?_ | refine I1 ?_ | refine I2 ?_ | refine I3 ?_ | refine I4 ?_ | refine I5 ?_ | refine I6 rfl ?_ | refine I7 ?_ | refine I8 ?_ | refine z4 ?_) | (refine M3 ?_; first | refine O6 ?_ | refine z2 tok rfl ?_ | refine O8 rfl ?_ | refine O7 rfl ?_ rfl | refine O9 rfl ?_ rfl | refine U1 _ (Ev.load_old tok rfl rfl (add_lt hlt3) (hc3 k (by omega))) rfl ?_ | refine U1 _ (U4 rfl rfl) rfl ?_ | refine U1 _ (U5 rfl rfl) rfl ?_ | refine U1 _ (U2 rfl) rfl ?_ | refine U1 _ (U3 tok rfl rfl rfl rfl rfl) rfl ?_) | (refine M4 ?_; first | refine M6 ?_ | refine U6 rfl (by kernel_rfl) ?_ | refine U7 (by kernel_rfl) ?_) | (refine M5 ?_; first | exact M7 | refine U8 rfl ?_ | refine U9 rfl rfl ?_ ?_))
        rw [hta]
        rw [show min ((b.pol k).take * (num b (polV b s (vol4 b s t) k) - (b.pol k).sill * den b (polV b s (vol4 b s t) k)) / den b (polV b s (vol4 b s t) k)) ((b.pol k).room - at0 s.fil k) = tk from htkq.symm]
        refine XE.leaf () (by repeat (first | exact Sub.nil | refine Sub.cons rfl ?_)) (fun _ S' => by first | exact S' | exact S'.perm (by repeat (first | exact List.Perm.refl _ | refine perm1 ?_ | refine List.Perm.cons _ ?_ | refine perm2 ?_)) | exact (S'.pop (by assumption)) | exact (S'.pop2 (by assumption))) ?_
        trivial
      · simp only [decide_eq_false_iff_not] at h8
        unfold takeOf at htkq
        rw [if_neg h8] at htkq
        rw [htkq]
        repeat (first | (refine M0 ?_; first | refine O0 ?_ | refine z1 tok rfl ?_ | refine O1 rfl ?_ rfl | refine O2 rfl ?_ | refine O3 rfl ?_ rfl | refine O4 rfl rfl rfl (fun _ _ => ?_) | refine O5 tok rfl rfl rfl (fun _ _ => ?_) | refine U0 _ (U2 rfl) rfl ?_ | refine U0 _ (U3 tok rfl rfl rfl rfl rfl) rfl ?_ | refine z3 tok rfl ?_ | refine U0 _ (U4 rfl rfl) rfl ?_ | refine U0 _ (U5 rfl rfl) rfl ?_) | (refine M1 ?_; first | refine J0 ?_ | refine J1 ?_ | refine J2 mixed rfl (by kernel_rfl) ?_ | refine J3 mixed rfl rfl (by kernel_rfl) ?_ | refine J4 ?_ | refine J5 ?_ | refine J6 ?_ | refine J7 ?_ | refine J8 rfl ?_ | refine J9 rfl ?_) | (refine M2 ?_; first | refine I0 ?_ | refine I1 ?_ | refine I2 ?_ | refine I3 ?_ | refine I4 ?_ | refine I5 ?_ | refine I6 rfl ?_ | refine I7 ?_ | refine I8 ?_ | refine z4 ?_) | (refine M3 ?_; first | refine O6 ?_ | refine z2 tok rfl ?_ | refine O8 rfl ?_ | refine O7 rfl ?_ rfl | refine O9 rfl ?_ rfl | refine U1 _ (U4 rfl rfl) rfl ?_ | refine U1 _ (U5 rfl rfl) rfl ?_ | refine U1 _ (U2 rfl) rfl ?_ | refine U1 _ (U3 tok rfl rfl rfl rfl rfl) rfl ?_) | (refine M4 ?_; first | refine M6 ?_ | refine U6 rfl (by kernel_rfl) ?_ | refine U7 (by kernel_rfl) ?_) | (refine M5 ?_; first | exact M7 | refine U8 rfl ?_ | refine U9 rfl rfl ?_ ?_))
        refine XE.leaf () (by repeat (first | exact Sub.nil | refine Sub.cons rfl ?_)) (fun _ S' => by first | exact S' | exact S'.perm (by repeat (first | exact List.Perm.refl _ | refine perm1 ?_ | refine List.Perm.cons _ ?_ | refine perm2 ?_)) | exact (S'.pop (by assumption)) | exact (S'.pop2 (by assumption))) ?_
        trivial
    dsimp only [List.cons_append, List.nil_append]
    rw [← htkq] at htk
    have k6 : i64in (at0 s.fil k + tk) := by have : i64in (s.f k + tk) := (by unfold i64in; omega); exact this
    repeat (first | (refine M0 ?_; first | refine O0 ?_ | refine z1 tok rfl ?_ | refine O1 rfl ?_ rfl | refine O2 rfl ?_ | refine O3 rfl ?_ rfl | refine O4 rfl rfl rfl (fun _ _ => ?_) | refine O5 tok rfl rfl rfl (fun _ _ => ?_) | refine U0 _ (U2 rfl) rfl ?_ | refine U0 _ (U3 tok rfl rfl rfl rfl rfl) rfl ?_ | refine z3 tok rfl ?_ | refine U0 _ (U4 rfl rfl) rfl ?_ | refine U0 _ (U5 rfl rfl) rfl ?_) | (refine M1 ?_; first | refine J0 ?_ | refine J1 ?_ | refine J2 mixed rfl (by kernel_rfl) ?_ | refine J3 mixed rfl rfl (by kernel_rfl) ?_ | refine J4 ?_ | refine J5 ?_ | refine J6 ?_ | refine J7 ?_ | refine J8 rfl ?_ | refine J9 rfl ?_) | (refine M2 ?_; first | refine I0 ?_ | refine I1 ?_ | refine I2 ?_ | refine I3 ?_ | refine I4 ?_ | refine I5 ?_ | refine I6 rfl ?_ | refine I7 ?_ | refine I8 ?_ | refine z4 ?_) | (refine M3 ?_; first | refine O6 ?_ | refine z2 tok rfl ?_ | refine O8 rfl ?_ | refine O7 rfl ?_ rfl | refine O9 rfl ?_ rfl | refine U1 _ (U4 rfl rfl) rfl ?_ | refine U1 _ (U5 rfl rfl) rfl ?_ | refine U1 _ (U2 rfl) rfl ?_ | refine U1 _ (U3 tok rfl rfl rfl rfl rfl) rfl ?_) | (refine M4 ?_; first | refine M6 ?_ | refine U6 rfl (by kernel_rfl) ?_ | refine U7 (by kernel_rfl) ?_) | (refine M5 ?_; first | exact M7 | refine U8 rfl ?_ | refine U9 rfl rfl ?_ ?_))
    refine XL.buildSlice tok rfl rfl rfl rfl rfl rfl rfl rfl rfl (fun gb hgb => ?_)
    have hWs : w.heap.size ≤ W.heap.size := hBW.size
    refine XL.append2 (v := svV rT) (m := 1) (n := k) (size := 1) (bytes := 8) (news := [.int .i64 tk]) int_el (by decide) rfl rfl rfl hoT
      (fun q hq' e he e1 => by
        have h9 := (sT q hq').1
        have h10 := hoT.lt q hq'
        simp only [List.mem_cons, List.not_mem_nil, or_false, not_or] at h9 he
        rcases he with rfl | rfl | rfl | rfl | rfl | rfl | rfl | rfl <;> simp only at e1 <;> omega) rfl
      (fun w' S j u hj => by rw [add_off]; exact (S.cell (List.mem_cons_self) _).trans (by simpa using hj)) rfl (by unfold maxLen; omega) (by omega) hWs
      (List.Sublist.cons _ (List.Sublist.cons _ (List.Sublist.refl _))) (fun w1 v1 w2 S1 ho1 hg1 _ hf1 => ?_)
    obtain ⟨r2, rfl, hr2⟩ := owns_sv ho1
    have hids := fun e he => S1.lt (e := e) he
    simp only [List.mem_cons, forall_eq_or_imp, List.not_mem_nil, false_implies, implies_true, and_true] at hids
    have hBW2 : Below w.heap.size w w2 := hBW.trans (grown_below S1 hg1 (fun q hq' => (hoT.lt q hq').1))
    have hW1 : W.heap.size ≤ w1.heap.size := S1.size
    have hF1 : w1.ownsRow w.heap.size 3 1 (svV rF) k (ints (rg k fun i => s.f i + polT b s (vol4 b s t) i)) := owns_sys hoF S1 (fun q hq' e he e1 => by
      have h9 := sF q hq'
      have h10 := hoF.lt q hq'
      simp only [List.mem_cons, List.not_mem_nil, or_false, not_or] at h9 he
      rcases he with rfl | rfl | rfl | rfl | rfl | rfl | rfl | rfl <;> simp only at e1 <;> omega)
    have hF2 := hF1.kept hg1 (by
      cases hx : (svV rF).ownBlock with
      | none => exact .inl rfl
      | some q => exact .inr fun e => (sT q e.symm).2 hx)
    have hqW2 := hq.below hBW2
    obtain ⟨ad3', e3', hlt3', hc3'⟩ := hqW2.at_ (by omega)
    cases e3'
    simp only [svV]
    repeat (first | (refine M0 ?_; first | refine O0 ?_ | refine z1 tok rfl ?_ | refine O1 rfl ?_ rfl | refine O2 rfl ?_ | refine O3 rfl ?_ rfl | refine U0 _ (Ev.load_old tok rfl rfl (add_lt hlt3') (hc3' k (by omega))) rfl ?_ | refine O4 rfl rfl rfl (fun _ _ => ?_) | refine O5 tok rfl rfl rfl (fun _ _ => ?_) | refine U0 _ (U2 rfl) rfl ?_ | refine U0 _ (U3 tok rfl rfl rfl rfl rfl) rfl ?_ | refine z3 tok rfl ?_ | refine U0 _ (U4 rfl rfl) rfl ?_ | refine U0 _ (U5 rfl rfl) rfl ?_) | (refine M1 ?_; first | refine J0 ?_ | refine J1 ?_ | refine J2 mixed rfl (by kernel_rfl) ?_ | refine J3 mixed rfl rfl (by kernel_rfl) ?_ | refine J4 ?_ | refine J5 ?_ | refine J6 ?_ | refine J7 ?_ | refine J8 rfl ?_ | refine J9 rfl ?_) | (refine M2 ?_; first | refine I0 ?_ | refine I1 ?_ | refine I2 ?_ | refine I3 ?_ | refine I4 ?_ | refine I5 ?_ | refine I6 rfl ?_ | refine I7 ?_ | refine I8 ?_ | refine z4 ?_) | (refine M3 ?_; first | refine O6 ?_ | refine z2 tok rfl ?_ | refine O8 rfl ?_ | refine O7 rfl ?_ rfl | refine O9 rfl ?_ rfl | refine U1 _ (Ev.load_old tok rfl rfl (add_lt hlt3') (hc3' k (by omega))) rfl ?_ | refine U1 _ (U4 rfl rfl) rfl ?_ | refine U1 _ (U5 rfl rfl) rfl ?_ | refine U1 _ (U2 rfl) rfl ?_ | refine U1 _ (U3 tok rfl rfl rfl rfl rfl) rfl ?_) | (refine M4 ?_; first | refine M6 ?_ | refine U6 rfl (by kernel_rfl) ?_ | refine U7 (by kernel_rfl) ?_) | (refine M5 ?_; first | exact M7 | refine U8 rfl ?_ | refine U9 rfl rfl ?_ ?_))
    refine XL.buildSlice tok rfl rfl rfl rfl rfl rfl rfl rfl rfl (fun gb2 hgb2 => ?_)
    refine XL.append2 (v := svV rF) (m := 1) (n := k) (size := 1) (bytes := 8) (news := [.int .i64 (at0 s.fil k + tk)]) int_el (by decide) rfl rfl rfl hF2
      (fun q hq' e he e1 => by
        have h9 := sF q hq'
        have h10 := hF2.lt q hq'
        simp only [List.mem_cons, List.not_mem_nil, or_false, not_or] at h9 he
        rcases he with rfl | rfl | rfl | rfl | rfl | rfl | rfl <;> simp only at e1 <;> omega) rfl
      (fun w' S j u hj => by rw [add_off]; exact (S.cell (List.mem_cons_self) _).trans (by simpa using hj)) rfl (by unfold maxLen; omega) (by omega) hBW2.size
      (List.Sublist.cons _ (List.Sublist.refl _)) (fun w3 v3 w4 S3 ho3 hg3 _ hf3 => ?_)
    obtain ⟨r3, rfl, hr3⟩ := owns_sv ho3
    have h12 : w1.heap.size ≤ w2.heap.size := hg1.size
    have h23 : w2.heap.size ≤ w3.heap.size := S3.size
    have hBW4 : Below w.heap.size w w4 := hBW2.trans (grown_below S3 hg3 (fun q hq' => (hF2.lt q hq').1))
    have hT2 : ∀ q, (svV r2).ownBlock = some q → q ∉ [g9, g7, g6, g5, g4, g3] ∧ (svV rF).ownBlock ≠ some q ∧ w.heap.size ≤ q ∧ q < w2.heap.size := fun q hq' => by
      have h10 := ho1.lt q hq'
      rcases hf1 q hq' with h9 | h9
      · exact ⟨(sT q h9).1, (sT q h9).2, h10⟩
      · refine ⟨?_, fun hx => ?_, h10⟩
        · simp only [List.mem_cons, List.not_mem_nil, or_false, not_or]; omega
        · have := hoF.lt q hx; omega
    have hT3 : w3.ownsRow w.heap.size 3 1 (svV r2) (k + 1) (ints (rg k fun i => polT b s (vol4 b s t) i) ++ [.int .i64 tk]) := owns_sys ho1 S3 (fun q hq' e he e1 => by
      have h9 := hT2 q hq'
      simp only [List.mem_cons, List.not_mem_nil, or_false, not_or] at h9 he
      rcases he with rfl | rfl | rfl | rfl | rfl | rfl | rfl <;> simp only at e1 <;> omega)
    have hT4 := hT3.kept hg3 (by
      cases hx : (svV r2).ownBlock with
      | none => exact .inl rfl
      | some q => exact .inr fun e => (hT2 q hx).2.1 e.symm)
    simp only [svV]
    repeat (first | (refine M0 ?_; first | refine O0 ?_ | refine z1 tok rfl ?_ | refine O1 rfl ?_ rfl | refine O2 rfl ?_ | refine O3 rfl ?_ rfl | refine O4 rfl rfl rfl (fun _ _ => ?_) | refine O5 tok rfl rfl rfl (fun _ _ => ?_) | refine U0 _ (U2 rfl) rfl ?_ | refine U0 _ (U3 tok rfl rfl rfl rfl rfl) rfl ?_ | refine z3 tok rfl ?_ | refine U0 _ (U4 rfl rfl) rfl ?_ | refine U0 _ (U5 rfl rfl) rfl ?_) | (refine M1 ?_; first | refine J0 ?_ | refine J1 ?_ | refine J2 mixed rfl (by kernel_rfl) ?_ | refine J3 mixed rfl rfl (by kernel_rfl) ?_ | refine J4 ?_ | refine J5 ?_ | refine J6 ?_ | refine J7 ?_ | refine J8 rfl ?_ | refine J9 rfl ?_) | (refine M2 ?_; first | refine I0 ?_ | refine I1 ?_ | refine I2 ?_ | refine I3 ?_ | refine I4 ?_ | refine I5 ?_ | refine I6 rfl ?_ | refine I7 ?_ | refine I8 ?_ | refine z4 ?_) | (refine M3 ?_; first | refine O6 ?_ | refine z2 tok rfl ?_ | refine O8 rfl ?_ | refine O7 rfl ?_ rfl | refine O9 rfl ?_ rfl | refine U1 _ (U4 rfl rfl) rfl ?_ | refine U1 _ (U5 rfl rfl) rfl ?_ | refine U1 _ (U2 rfl) rfl ?_ | refine U1 _ (U3 tok rfl rfl rfl rfl rfl) rfl ?_) | (refine M4 ?_; first | refine M6 ?_ | refine U6 rfl (by kernel_rfl) ?_ | refine U7 (by kernel_rfl) ?_) | (refine M5 ?_; first | exact M7 | refine U8 rfl ?_ | refine U9 rfl rfl ?_ ?_))
    refine XE.roundW (s := (k, W, rF, rT)) ?_
    intro w5 S5
    have e5 : polV b s (vol4 b s t) (k + 1) = polV b s (vol4 b s t) k - tk := by rw [htkq]; rfl
    have e6 : ints (rg (k + 1) fun i => polT b s (vol4 b s t) i) = ints (rg k fun i => polT b s (vol4 b s t) i) ++ [.int .i64 tk] := by rw [rg_succ, htkq]; simp [ints, polT]
    have e7 : ints (rg (k + 1) fun i => s.f i + polT b s (vol4 b s t) i) = ints (rg k fun i => s.f i + polT b s (vol4 b s t) i) ++ [.int .i64 (at0 s.fil k + tk)] := by rw [rg_succ, htkq]; simp [ints, polT]; rfl
    have hF3 : ∀ q, (svV r3).ownBlock = some q → q ∉ [g9, g7, g6, g5, g4, g3] ∧ (svV r2).ownBlock ≠ some q ∧ w.heap.size ≤ q := fun q hq' => by
      have h10 := ho3.lt q hq'
      rcases hf3 q hq' with h9 | h9
      · exact ⟨sF q h9, fun hx => (hT2 q hx).2.1 h9, h10.1⟩
      · refine ⟨?_, fun hx => ?_, h10.1⟩
        · simp only [List.mem_cons, List.not_mem_nil, or_false, not_or]; omega
        · have := (hT2 q hx).2.2.2; omega
    have sepL : ∀ (v : SV), (∀ x, (svV v).ownBlock = some x → x ∉ [g9, g7, g6, g5, g4, g3]) → ∀ k, (svV v).ownBlock = some k → ∀ e : Nat × Obj, e.1 ∈ [g9, g7, g6, g5, g4, g3] → e.1 ≠ k := fun v hv k hk e he e1 => hv k hk (e1 ▸ he)
    refine ⟨(k + 1, w5, r3, r2), ⟨hkm, hBW4.trans S5.toBelow, ?_, ?_, fun q hq' => (hF3 q hq').1, fun q hq' => ⟨(hT2 q hq').1, fun hx => (hF3 q hx).2.1 hq'⟩⟩, ?_, ?_, ?_⟩
    · simp only [e7]
      exact owns_sys ho3 S5 (fun q hk e he => sepL r3 (fun x hx => (hF3 x hx).1) q hk e (by simp only [List.mem_cons, List.not_mem_nil, or_false] at he ⊢; rcases he with rfl | rfl | rfl | rfl | rfl | rfl <;> simp))
    · simp only [e6]
      exact owns_sys hT4 S5 (fun q hk e he => sepL r2 (fun x hx => (hT2 x hx).1) q hk e (by simp only [List.mem_cons, List.not_mem_nil, or_false] at he ⊢; rcases he with rfl | rfl | rfl | rfl | rfl | rfl <;> simp))
    · simp only; omega
    · simp only [e5]; exact (by repeat (first | exact Sub.nil | refine Sub.cons rfl ?_))
    · exact S5.rebase (List.Sublist.refl _)
  · have hge : k = b.pols.length := by simp at h7; omega
    subst hge
    repeat (first | (refine M0 ?_; first | refine O0 ?_ | refine z1 tok rfl ?_ | refine O1 rfl ?_ rfl | refine O2 rfl ?_ | refine O3 rfl ?_ rfl | refine O4 rfl rfl rfl (fun _ _ => ?_) | refine O5 tok rfl rfl rfl (fun _ _ => ?_) | refine U0 _ (U2 rfl) rfl ?_ | refine U0 _ (U3 tok rfl rfl rfl rfl rfl) rfl ?_ | refine z3 tok rfl ?_ | refine U0 _ (U4 rfl rfl) rfl ?_ | refine U0 _ (U5 rfl rfl) rfl ?_) | (refine M1 ?_; first | refine J0 ?_ | refine J1 ?_ | refine J2 mixed rfl (by kernel_rfl) ?_ | refine J3 mixed rfl rfl (by kernel_rfl) ?_ | refine J4 ?_ | refine J5 ?_ | refine J6 ?_ | refine J7 ?_ | refine J8 rfl ?_ | refine J9 rfl ?_) | (refine M2 ?_; first | refine I0 ?_ | refine I1 ?_ | refine I2 ?_ | refine I3 ?_ | refine I4 ?_ | refine I5 ?_ | refine I6 rfl ?_ | refine I7 ?_ | refine I8 ?_ | refine z4 ?_) | (refine M3 ?_; first | refine O6 ?_ | refine z2 tok rfl ?_ | refine O8 rfl ?_ | refine O7 rfl ?_ rfl | refine O9 rfl ?_ rfl | refine U1 _ (U4 rfl rfl) rfl ?_ | refine U1 _ (U5 rfl rfl) rfl ?_ | refine U1 _ (U2 rfl) rfl ?_ | refine U1 _ (U3 tok rfl rfl rfl rfl rfl) rfl ?_) | (refine M4 ?_; first | refine M6 ?_ | refine U6 rfl (by kernel_rfl) ?_ | refine U7 (by kernel_rfl) ?_) | (refine M5 ?_; first | exact M7 | refine U8 rfl ?_ | refine U9 rfl rfl ?_ ?_))
    refine XC.drawRS _ [(g9, cel 32 [.int .i64 (floK b s t 4).river, .int .i64 (floK b s t 4).over, .int .i64 (floK b s t 4).leak, .int .i64 (floK b s t 4).out, .slice rT.A rT.n rT.c])] [0, 1, 2, 3] [4, 5, 6] mixed (fun _ h => Sys.anchor (by assumption) h (by simp) (by simp)) rfl (by kernel_rfl) ?_
    repeat (any_goals (first | (refine M0 ?_; first | refine O0 ?_ | refine z1 tok rfl ?_ | refine O1 rfl ?_ rfl | refine O2 rfl ?_ | refine O3 rfl ?_ rfl | (refine XL.split _ _ rfl (fun h => ?_) (fun h => ?_) <;> rw [h]) | refine O4 rfl rfl rfl (fun _ _ => ?_) | refine O5 tok rfl rfl rfl (fun _ _ => ?_) | refine U0 _ (U2 rfl) rfl ?_ | refine U0 _ (U3 tok rfl rfl rfl rfl rfl) rfl ?_ | refine z3 tok rfl ?_ | refine U0 _ (U4 rfl rfl) rfl ?_ | refine U0 _ (U5 rfl rfl) rfl ?_) | (refine M1 ?_; first | refine J0 ?_ | refine J1 ?_ | refine J2 mixed rfl (by kernel_rfl) ?_ | refine J3 mixed rfl rfl (by kernel_rfl) ?_ | refine J4 ?_ | refine J5 ?_ | refine J6 ?_ | refine J7 ?_ | refine J8 rfl ?_ | refine J9 rfl ?_ | refine XC.cond _ rfl (fun h => ?_) (fun h => ?_)) | (refine M2 ?_; first | refine I0 ?_ | refine I1 ?_ | refine I2 ?_ | refine I3 ?_ | refine I4 ?_ | refine I5 ?_ | refine I6 rfl ?_ | refine I7 ?_ | refine I8 ?_ | refine z4 ?_) | (refine M3 ?_; first | refine O6 ?_ | refine z2 tok rfl ?_ | refine O8 rfl ?_ | refine O7 rfl ?_ rfl | refine O9 rfl ?_ rfl | (refine Fw.split _ _ rfl (fun h => ?_) (fun h => ?_) <;> rw [h]) | refine U1 _ (U4 rfl rfl) rfl ?_ | refine U1 _ (U5 rfl rfl) rfl ?_ | refine U1 _ (U2 rfl) rfl ?_ | refine U1 _ (U3 tok rfl rfl rfl rfl rfl) rfl ?_) | (refine M4 ?_; first | refine M6 ?_ | refine U6 rfl (by kernel_rfl) ?_ | refine U7 (by kernel_rfl) ?_) | (refine M5 ?_; first | exact M7 | refine U8 rfl ?_ | refine U9 rfl rfl ?_ ?_)))
    refine XE.retg tok Tryd.results49 rfl (by simp only [and_self, and_true]) (fun w' S => ?_)
    have sepL : ∀ (v : SV), (∀ x, (svV v).ownBlock = some x → x ∉ [g9, g7, g6, g5, g4, g3]) → ∀ k, (svV v).ownBlock = some k → ∀ e : Nat × Obj, e.1 ∈ [g9, g7, g6, g5, g4, g3] → e.1 ≠ k := fun v hv k hk e he e1 => hv k hk (e1 ▸ he)
    refine ⟨_, rfl, rF, rT, by rw [outS_0 hE, outF_0 hE, hE]; rfl, ?_, ?_, hBW.trans S.toBelow⟩
    · rw [outS_0 hE]
      refine IntsAt.own (e := 3) ?_
      have := owns_sys hoF S (fun k hk e he => sepL rF sF k hk e (by simp only [List.mem_cons, List.not_mem_nil, or_false] at he ⊢; rcases he with rfl | rfl | rfl | rfl | rfl | rfl <;> simp))
      have hfil : (stepS b s t).fil.length = b.pols.length := by simp [stepS, rg_len]
      rw [hfil]; exact this
    · rw [outF_0 hE]
      refine IntsAt.own (e := 3) ?_
      have := owns_sys hoT S (fun k hk e he => sepL rT (fun x hx => (sT x hx).1) k hk e (by simp only [List.mem_cons, List.not_mem_nil, or_false] at he ⊢; rcases he with rfl | rfl | rfl | rfl | rfl | rfl <;> simp))
      have hfil : (stepF b s t).taken.length = b.pols.length := by simp [stepF, rg_len]
      rw [hfil]; exact this
end Go.Proofs.YtoiepgcjinccpaaDoor.X
/-
  The walks of Step (both texts), and of the examples' basin, state and tick.
-/
namespace Go.Proofs.YtoiepgcjinccpaaDoor.Bs
open Classical in
noncomputable def fullE (b : Bas) (s : Sta) (t : Tick) : Int := if staErr b s = 0 then stepE b s t else staErr b s
open Classical in
noncomputable def fullS (b : Bas) (s : Sta) (t : Tick) : Sta := if staErr b s = 0 then outS b s t else ⟨0, []⟩
open Classical in
noncomputable def fullF (b : Bas) (s : Sta) (t : Tick) : Flo := if staErr b s = 0 then outF b s t else ⟨0, 0, 0, 0, []⟩
theorem full_n {b : Bas} {s : Sta} {t : Tick} (h : staErr b s ≠ 0) : fullE b s t = staErr b s ∧ fullS b s t = ⟨0, []⟩ ∧ fullF b s t = ⟨0, 0, 0, 0, []⟩ := by simp [fullE, fullS, fullF, h]
theorem full_0 {b : Bas} {s : Sta} {t : Tick} (h : staErr b s = 0) : fullE b s t = stepE b s t ∧ fullS b s t = outS b s t ∧ fullF b s t = outF b s t := by simp [fullE, fullS, fullF, h]
end Go.Proofs.YtoiepgcjinccpaaDoor.Bs
namespace Go.Proofs.YtoiepgcjinccpaaDoor.X
open Go Go.RowKit Go.Proofs.YtoiepgcjinccpaaDoor.Bs
set_option linter.unusedVariables false
def StepCR (b : Bas) (s : Sta) (t : Tick) (w : World) (v : Value) (w' : World) : Prop :=
  ∃ q r : SV, v = .tuple ⟨[staV q (fullS b s t), floV r (fullF b s t), .int .i64 (fullE b s t)]⟩ ∧ IntsAt w' (Btw w.heap.size w'.heap.size) q (fullS b s t).fil ∧ IntsAt w' (Btw w.heap.size w'.heap.size) r (fullF b s t).taken ∧ Below w.heap.size w w'
set_option maxHeartbeats 4000000 in
theorem Step_any {p : BV} {b : Bas} {q : SV} {s : Sta} {t : Tick} {w : World} (hb : BasAt w w.heap.size p b) (hq : IntsAt w (Lt w.heap.size) q s.fil) :
    Calls Tryd.prog 17 #[basV p b, staV q s, tickV t] w fun e w' => ∃ v, e = .returned v ∧ StepCR b s t w v w' := by
  simp only [basV, basC, staV, staC, tickV, tickC]
  refine enter Tryd.func17 rfl Tryd.ntmps17 rfl ?_; simp only [frame, Nat.zero_add, Nat.reduceAdd]
  repeat (first | (refine M0 ?_; first | refine O0 ?_ | refine z1 tok rfl ?_ | refine O1 rfl ?_ rfl | refine O2 rfl ?_ | refine O3 rfl ?_ rfl | refine U0 _ (Ev.call (f := 19) (ck rfl) rfl (fun w S => (checkState_any (hb.sys S) (hq.arg S) :))) rfl ?_ | refine O4 rfl rfl rfl (fun _ _ => ?_) | refine O5 tok rfl rfl rfl (fun _ _ => ?_) | refine U0 _ (U2 rfl) rfl ?_ | refine U0 _ (U3 tok rfl rfl rfl rfl rfl) rfl ?_ | refine z3 tok rfl ?_ | refine U0 _ (U4 rfl rfl) rfl ?_ | refine U0 _ (U5 rfl rfl) rfl ?_) | (refine M1 ?_; first | refine J0 ?_ | refine J1 ?_ | refine J2 mixed rfl (by kernel_rfl) ?_ | refine J3 mixed rfl rfl (by kernel_rfl) ?_ | refine J4 ?_ | refine J5 ?_ | refine J6 ?_ | refine J7 ?_ | refine J8 rfl ?_ | refine J9 rfl ?_) | (refine M2 ?_; first | refine I0 ?_ | refine I1 ?_ | refine I2 ?_ | refine I3 ?_ | refine I4 ?_ | refine I5 ?_ | refine I6 rfl ?_ | refine I7 ?_ | refine I8 ?_ | refine z4 ?_) | (refine M3 ?_; first | refine O6 ?_ | refine z2 tok rfl ?_ | refine O8 rfl ?_ | refine O7 rfl ?_ rfl | refine O9 rfl ?_ rfl | refine U1 _ (Ev.call (f := 19) (ck rfl) rfl (fun w S => (checkState_any (hb.sys S) (hq.arg S) :))) rfl ?_ | refine U1 _ (U4 rfl rfl) rfl ?_ | refine U1 _ (U5 rfl rfl) rfl ?_ | refine U1 _ (U2 rfl) rfl ?_ | refine U1 _ (U3 tok rfl rfl rfl rfl rfl) rfl ?_) | (refine M4 ?_; first | refine M6 ?_ | refine U6 rfl (by kernel_rfl) ?_ | refine U7 (by kernel_rfl) ?_) | (refine M5 ?_; first | exact M7 | refine U8 rfl ?_ | refine U9 rfl rfl ?_ ?_))
  refine XC.cond _ rfl (fun h0 => ?_) (fun h0 => ?_)
  · repeat (first | (refine M0 ?_; first | refine O0 ?_ | refine z1 tok rfl ?_ | refine O1 rfl ?_ rfl | refine O2 rfl ?_ | refine O3 rfl ?_ rfl | refine O4 rfl rfl rfl (fun _ _ => ?_) | refine O5 tok rfl rfl rfl (fun _ _ => ?_) | refine U0 _ (U2 rfl) rfl ?_ | refine U0 _ (U3 tok rfl rfl rfl rfl rfl) rfl ?_ | refine z3 tok rfl ?_ | refine U0 _ (U4 rfl rfl) rfl ?_ | refine U0 _ (U5 rfl rfl) rfl ?_) | (refine M1 ?_; first | refine J0 ?_ | refine J1 ?_ | refine J2 mixed rfl (by kernel_rfl) ?_ | refine J3 mixed rfl rfl (by kernel_rfl) ?_ | refine J4 ?_ | refine J5 ?_ | refine J6 ?_ | refine J7 ?_ | refine J8 rfl ?_ | refine J9 rfl ?_) | (refine M2 ?_; first | refine I0 ?_ | refine I1 ?_ | refine I2 ?_ | refine I3 ?_ | refine I4 ?_ | refine I5 ?_ | refine I6 rfl ?_ | refine I7 ?_ | refine I8 ?_ | refine z4 ?_) | (refine M3 ?_; first | refine O6 ?_ | refine z2 tok rfl ?_ | refine O8 rfl ?_ | refine O7 rfl ?_ rfl | refine O9 rfl ?_ rfl | refine U1 _ (U4 rfl rfl) rfl ?_ | refine U1 _ (U5 rfl rfl) rfl ?_ | refine U1 _ (U2 rfl) rfl ?_ | refine U1 _ (U3 tok rfl rfl rfl rfl rfl) rfl ?_) | (refine M4 ?_; first | refine M6 ?_ | refine U6 rfl (by kernel_rfl) ?_ | refine U7 (by kernel_rfl) ?_) | (refine M5 ?_; first | exact M7 | refine U8 rfl ?_ | refine U9 rfl rfl ?_ ?_))
    refine XE.retg tok Tryd.results17 rfl (by simp only [and_self, and_true]) (fun w' S => ?_)
    obtain ⟨f1, f2, f3⟩ := full_n (t := t) (show staErr b s ≠ 0 by simpa using h0)
    exact ⟨_, rfl, ⟨none, 0, 0⟩, ⟨none, 0, 0⟩, by rw [f1, f2, f3]; rfl, by rw [f2]; exact IntsAt.nil, by rw [f3]; exact IntsAt.nil, S.toBelow⟩
  have hE : staErr b s = 0 := by simpa using h0
  obtain ⟨ho, hs⟩ := staOk_of hE
  obtain ⟨f1, f2, f3⟩ := full_0 (t := t) hE
  repeat (first | (refine M0 ?_; first | refine O0 ?_ | refine z1 tok rfl ?_ | refine O1 rfl ?_ rfl | refine O2 rfl ?_ | refine O3 rfl ?_ rfl | refine O4 rfl rfl rfl (fun _ _ => ?_) | refine O5 tok rfl rfl rfl (fun _ _ => ?_) | refine U0 _ (U2 rfl) rfl ?_ | refine U0 _ (U3 tok rfl rfl rfl rfl rfl) rfl ?_ | refine z3 tok rfl ?_ | refine U0 _ (U4 rfl rfl) rfl ?_ | refine U0 _ (U5 rfl rfl) rfl ?_) | (refine M1 ?_; first | refine J0 ?_ | refine J1 ?_ | refine J2 mixed rfl (by kernel_rfl) ?_ | refine J3 mixed rfl rfl (by kernel_rfl) ?_ | refine J4 ?_ | refine J5 ?_ | refine J6 ?_ | refine J7 ?_ | refine J8 rfl ?_ | refine J9 rfl ?_) | (refine M2 ?_; first | refine I0 ?_ | refine I1 ?_ | refine I2 ?_ | refine I3 ?_ | refine I4 ?_ | refine I5 ?_ | refine I6 rfl ?_ | refine I7 ?_ | refine I8 ?_ | refine z4 ?_) | (refine M3 ?_; first | refine O6 ?_ | refine z2 tok rfl ?_ | refine O8 rfl ?_ | refine O7 rfl ?_ rfl | refine O9 rfl ?_ rfl | refine U1 _ (U4 rfl rfl) rfl ?_ | refine U1 _ (U5 rfl rfl) rfl ?_ | refine U1 _ (U2 rfl) rfl ?_ | refine U1 _ (U3 tok rfl rfl rfl rfl rfl) rfl ?_) | (refine M4 ?_; first | refine M6 ?_ | refine U6 rfl (by kernel_rfl) ?_ | refine U7 (by kernel_rfl) ?_) | (refine M5 ?_; first | exact M7 | refine U8 rfl ?_ | refine U9 rfl rfl ?_ ?_))
  refine XL.call (fst := []) (cap := []) (ck rfl) rfl rfl rfl (List.Sublist.refl _) (fun w1 v w2 => StepR b s t w1 v w2)
    (fun w1 S1 => (step_any (p := p) (hb.sys S1) (hq.arg S1) ho hs).mono fun e w' ⟨v, h, h4⟩ => ⟨v, h, h4, h4.choose_spec.choose_spec.2.2.2⟩) (fun w1 v w2 S1 hR hB S2 => ?_)
  obtain ⟨q2, r2, rfl, hq2, hr2, _⟩ := hR
  simp only [staV, staC, floV, floC]
  repeat (first | (refine M0 ?_; first | refine O0 ?_ | refine z1 tok rfl ?_ | refine O1 rfl ?_ rfl | refine O2 rfl ?_ | refine O3 rfl ?_ rfl | refine O4 rfl rfl rfl (fun _ _ => ?_) | refine O5 tok rfl rfl rfl (fun _ _ => ?_) | refine U0 _ (U2 rfl) rfl ?_ | refine U0 _ (U3 tok rfl rfl rfl rfl rfl) rfl ?_ | refine z3 tok rfl ?_ | refine U0 _ (U4 rfl rfl) rfl ?_ | refine U0 _ (U5 rfl rfl) rfl ?_) | (refine M1 ?_; first | refine J0 ?_ | refine J1 ?_ | refine J2 mixed rfl (by kernel_rfl) ?_ | refine J3 mixed rfl rfl (by kernel_rfl) ?_ | refine J4 ?_ | refine J5 ?_ | refine J6 ?_ | refine J7 ?_ | refine J8 rfl ?_ | refine J9 rfl ?_) | (refine M2 ?_; first | refine I0 ?_ | refine I1 ?_ | refine I2 ?_ | refine I3 ?_ | refine I4 ?_ | refine I5 ?_ | refine I6 rfl ?_ | refine I7 ?_ | refine I8 ?_ | refine z4 ?_) | (refine M3 ?_; first | refine O6 ?_ | refine z2 tok rfl ?_ | refine O8 rfl ?_ | refine O7 rfl ?_ rfl | refine O9 rfl ?_ rfl | refine U1 _ (U4 rfl rfl) rfl ?_ | refine U1 _ (U5 rfl rfl) rfl ?_ | refine U1 _ (U2 rfl) rfl ?_ | refine U1 _ (U3 tok rfl rfl rfl rfl rfl) rfl ?_) | (refine M4 ?_; first | refine M6 ?_ | refine U6 rfl (by kernel_rfl) ?_ | refine U7 (by kernel_rfl) ?_) | (refine M5 ?_; first | exact M7 | refine U8 rfl ?_ | refine U9 rfl rfl ?_ ?_))
  refine XE.retg tok Tryd.results17 rfl (by simp only [and_self, and_true]) (fun w' S => ?_)
  have hk : Keep (Btw w1.heap.size w2.heap.size) w2 _ := Keep.made S1 (Nat.le_refl _)
  refine ⟨_, rfl, q2, r2, by rw [f1, f2, f3]; rfl, ?_, ?_, S2.toBelow.trans S.toBelow⟩
  · rw [f2]
    exact (hq2.keep (hk.sysT S rfl)).mono fun k hk' => ⟨Nat.le_trans S1.size hk'.1, Nat.lt_of_lt_of_le hk'.2 S.size⟩
  · rw [f3]
    exact (hr2.keep (hk.sysT S rfl)).mono fun k hk' => ⟨Nat.le_trans S1.size hk'.1, Nat.lt_of_lt_of_le hk'.2 S.size⟩
set_option maxHeartbeats 4000000 in
theorem refStepC_any {p : BV} {b : Bas} {q : SV} {s : Sta} {t : Tick} {w : World} (hb : BasAt w w.heap.size p b) (hq : IntsAt w (Lt w.heap.size) q s.fil) :
    Calls Tryd.prog 18 #[basV p b, staV q s, tickV t] w fun e w' => ∃ v, e = .returned v ∧ StepCR b s t w v w' := by
  simp only [basV, basC, staV, staC, tickV, tickC]
  refine enter Tryd.func18 rfl Tryd.ntmps18 rfl ?_; simp only [frame, Nat.zero_add, Nat.reduceAdd]
  repeat (first | (refine M0 ?_; first | refine O0 ?_ | refine z1 tok rfl ?_ | refine O1 rfl ?_ rfl | refine O2 rfl ?_ | refine O3 rfl ?_ rfl | refine U0 _ (Ev.call (f := 20) (ck rfl) rfl (fun w S => (refCheckState_any (hb.sys S) (hq.arg S) :))) rfl ?_ | refine O4 rfl rfl rfl (fun _ _ => ?_) | refine O5 tok rfl rfl rfl (fun _ _ => ?_) | refine U0 _ (U2 rfl) rfl ?_ | refine U0 _ (U3 tok rfl rfl rfl rfl rfl) rfl ?_ | refine z3 tok rfl ?_ | refine U0 _ (U4 rfl rfl) rfl ?_ | refine U0 _ (U5 rfl rfl) rfl ?_) | (refine M1 ?_; first | refine J0 ?_ | refine J1 ?_ | refine J2 mixed rfl (by kernel_rfl) ?_ | refine J3 mixed rfl rfl (by kernel_rfl) ?_ | refine J4 ?_ | refine J5 ?_ | refine J6 ?_ | refine J7 ?_ | refine J8 rfl ?_ | refine J9 rfl ?_) | (refine M2 ?_; first | refine I0 ?_ | refine I1 ?_ | refine I2 ?_ | refine I3 ?_ | refine I4 ?_ | refine I5 ?_ | refine I6 rfl ?_ | refine I7 ?_ | refine I8 ?_ | refine z4 ?_) | (refine M3 ?_; first | refine O6 ?_ | refine z2 tok rfl ?_ | refine O8 rfl ?_ | refine O7 rfl ?_ rfl | refine O9 rfl ?_ rfl | refine U1 _ (Ev.call (f := 20) (ck rfl) rfl (fun w S => (refCheckState_any (hb.sys S) (hq.arg S) :))) rfl ?_ | refine U1 _ (U4 rfl rfl) rfl ?_ | refine U1 _ (U5 rfl rfl) rfl ?_ | refine U1 _ (U2 rfl) rfl ?_ | refine U1 _ (U3 tok rfl rfl rfl rfl rfl) rfl ?_) | (refine M4 ?_; first | refine M6 ?_ | refine U6 rfl (by kernel_rfl) ?_ | refine U7 (by kernel_rfl) ?_) | (refine M5 ?_; first | exact M7 | refine U8 rfl ?_ | refine U9 rfl rfl ?_ ?_))
  refine XC.cond _ rfl (fun h0 => ?_) (fun h0 => ?_)
  · repeat (first | (refine M0 ?_; first | refine O0 ?_ | refine z1 tok rfl ?_ | refine O1 rfl ?_ rfl | refine O2 rfl ?_ | refine O3 rfl ?_ rfl | refine O4 rfl rfl rfl (fun _ _ => ?_) | refine O5 tok rfl rfl rfl (fun _ _ => ?_) | refine U0 _ (U2 rfl) rfl ?_ | refine U0 _ (U3 tok rfl rfl rfl rfl rfl) rfl ?_ | refine z3 tok rfl ?_ | refine U0 _ (U4 rfl rfl) rfl ?_ | refine U0 _ (U5 rfl rfl) rfl ?_) | (refine M1 ?_; first | refine J0 ?_ | refine J1 ?_ | refine J2 mixed rfl (by kernel_rfl) ?_ | refine J3 mixed rfl rfl (by kernel_rfl) ?_ | refine J4 ?_ | refine J5 ?_ | refine J6 ?_ | refine J7 ?_ | refine J8 rfl ?_ | refine J9 rfl ?_) | (refine M2 ?_; first | refine I0 ?_ | refine I1 ?_ | refine I2 ?_ | refine I3 ?_ | refine I4 ?_ | refine I5 ?_ | refine I6 rfl ?_ | refine I7 ?_ | refine I8 ?_ | refine z4 ?_) | (refine M3 ?_; first | refine O6 ?_ | refine z2 tok rfl ?_ | refine O8 rfl ?_ | refine O7 rfl ?_ rfl | refine O9 rfl ?_ rfl | refine U1 _ (U4 rfl rfl) rfl ?_ | refine U1 _ (U5 rfl rfl) rfl ?_ | refine U1 _ (U2 rfl) rfl ?_ | refine U1 _ (U3 tok rfl rfl rfl rfl rfl) rfl ?_) | (refine M4 ?_; first | refine M6 ?_ | refine U6 rfl (by kernel_rfl) ?_ | refine U7 (by kernel_rfl) ?_) | (refine M5 ?_; first | exact M7 | refine U8 rfl ?_ | refine U9 rfl rfl ?_ ?_))
    refine XE.retg tok Tryd.results18 rfl (by simp only [and_self, and_true]) (fun w' S => ?_)
    obtain ⟨f1, f2, f3⟩ := full_n (t := t) (show staErr b s ≠ 0 by simpa using h0)
    exact ⟨_, rfl, ⟨none, 0, 0⟩, ⟨none, 0, 0⟩, by rw [f1, f2, f3]; rfl, by rw [f2]; exact IntsAt.nil, by rw [f3]; exact IntsAt.nil, S.toBelow⟩
  have hE : staErr b s = 0 := by simpa using h0
  obtain ⟨ho, hs⟩ := staOk_of hE
  obtain ⟨f1, f2, f3⟩ := full_0 (t := t) hE
  repeat (first | (refine M0 ?_; first | refine O0 ?_ | refine z1 tok rfl ?_ | refine O1 rfl ?_ rfl | refine O2 rfl ?_ | refine O3 rfl ?_ rfl | refine O4 rfl rfl rfl (fun _ _ => ?_) | refine O5 tok rfl rfl rfl (fun _ _ => ?_) | refine U0 _ (U2 rfl) rfl ?_ | refine U0 _ (U3 tok rfl rfl rfl rfl rfl) rfl ?_ | refine z3 tok rfl ?_ | refine U0 _ (U4 rfl rfl) rfl ?_ | refine U0 _ (U5 rfl rfl) rfl ?_) | (refine M1 ?_; first | refine J0 ?_ | refine J1 ?_ | refine J2 mixed rfl (by kernel_rfl) ?_ | refine J3 mixed rfl rfl (by kernel_rfl) ?_ | refine J4 ?_ | refine J5 ?_ | refine J6 ?_ | refine J7 ?_ | refine J8 rfl ?_ | refine J9 rfl ?_) | (refine M2 ?_; first | refine I0 ?_ | refine I1 ?_ | refine I2 ?_ | refine I3 ?_ | refine I4 ?_ | refine I5 ?_ | refine I6 rfl ?_ | refine I7 ?_ | refine I8 ?_ | refine z4 ?_) | (refine M3 ?_; first | refine O6 ?_ | refine z2 tok rfl ?_ | refine O8 rfl ?_ | refine O7 rfl ?_ rfl | refine O9 rfl ?_ rfl | refine U1 _ (U4 rfl rfl) rfl ?_ | refine U1 _ (U5 rfl rfl) rfl ?_ | refine U1 _ (U2 rfl) rfl ?_ | refine U1 _ (U3 tok rfl rfl rfl rfl rfl) rfl ?_) | (refine M4 ?_; first | refine M6 ?_ | refine U6 rfl (by kernel_rfl) ?_ | refine U7 (by kernel_rfl) ?_) | (refine M5 ?_; first | exact M7 | refine U8 rfl ?_ | refine U9 rfl rfl ?_ ?_))
  refine XL.call (fst := []) (cap := []) (ck rfl) rfl rfl rfl (List.Sublist.refl _) (fun w1 v w2 => StepR b s t w1 v w2)
    (fun w1 S1 => (refStep_any (p := p) (hb.sys S1) (hq.arg S1) ho hs).mono fun e w' ⟨v, h, h4⟩ => ⟨v, h, h4, h4.choose_spec.choose_spec.2.2.2⟩) (fun w1 v w2 S1 hR hB S2 => ?_)
  obtain ⟨q2, r2, rfl, hq2, hr2, _⟩ := hR
  simp only [staV, staC, floV, floC]
  repeat (first | (refine M0 ?_; first | refine O0 ?_ | refine z1 tok rfl ?_ | refine O1 rfl ?_ rfl | refine O2 rfl ?_ | refine O3 rfl ?_ rfl | refine O4 rfl rfl rfl (fun _ _ => ?_) | refine O5 tok rfl rfl rfl (fun _ _ => ?_) | refine U0 _ (U2 rfl) rfl ?_ | refine U0 _ (U3 tok rfl rfl rfl rfl rfl) rfl ?_ | refine z3 tok rfl ?_ | refine U0 _ (U4 rfl rfl) rfl ?_ | refine U0 _ (U5 rfl rfl) rfl ?_) | (refine M1 ?_; first | refine J0 ?_ | refine J1 ?_ | refine J2 mixed rfl (by kernel_rfl) ?_ | refine J3 mixed rfl rfl (by kernel_rfl) ?_ | refine J4 ?_ | refine J5 ?_ | refine J6 ?_ | refine J7 ?_ | refine J8 rfl ?_ | refine J9 rfl ?_) | (refine M2 ?_; first | refine I0 ?_ | refine I1 ?_ | refine I2 ?_ | refine I3 ?_ | refine I4 ?_ | refine I5 ?_ | refine I6 rfl ?_ | refine I7 ?_ | refine I8 ?_ | refine z4 ?_) | (refine M3 ?_; first | refine O6 ?_ | refine z2 tok rfl ?_ | refine O8 rfl ?_ | refine O7 rfl ?_ rfl | refine O9 rfl ?_ rfl | refine U1 _ (U4 rfl rfl) rfl ?_ | refine U1 _ (U5 rfl rfl) rfl ?_ | refine U1 _ (U2 rfl) rfl ?_ | refine U1 _ (U3 tok rfl rfl rfl rfl rfl) rfl ?_) | (refine M4 ?_; first | refine M6 ?_ | refine U6 rfl (by kernel_rfl) ?_ | refine U7 (by kernel_rfl) ?_) | (refine M5 ?_; first | exact M7 | refine U8 rfl ?_ | refine U9 rfl rfl ?_ ?_))
  refine XE.retg tok Tryd.results18 rfl (by simp only [and_self, and_true]) (fun w' S => ?_)
  have hk : Keep (Btw w1.heap.size w2.heap.size) w2 _ := Keep.made S1 (Nat.le_refl _)
  refine ⟨_, rfl, q2, r2, by rw [f1, f2, f3]; rfl, ?_, ?_, S2.toBelow.trans S.toBelow⟩
  · rw [f2]
    exact (hq2.keep (hk.sysT S rfl)).mono fun k hk' => ⟨Nat.le_trans S1.size hk'.1, Nat.lt_of_lt_of_le hk'.2 S.size⟩
  · rw [f3]
    exact (hr2.keep (hk.sysT S rfl)).mono fun k hk' => ⟨Nat.le_trans S1.size hk'.1, Nat.lt_of_lt_of_le hk'.2 S.size⟩
end Go.Proofs.YtoiepgcjinccpaaDoor.X
/-
  A walk by lemmas (14): a range over a function: the frame of a round, the iterator's calls of yield, the function that holds the statement.
-/
namespace Go.Proofs.YtoiepgcjinccpaaDoor.X
open Go Go.RowKit
set_option linter.unusedVariables false
/-- everything is let in; a round's frame, or none. -/
def fen : Option Nat → Fence
  | none => Fence.wide
  | some l => Fence.wide.inRound l
theorem fen_fn (r : Option Nat) (f : FuncId) : (fen r).fn f := by cases r <;> trivial
theorem fen_round (r : Option Nat) : (fen r).round = r := by cases r <;> rfl
theorem fen_depth (r : Option Nat) : (fen r).depth.isSome = true → False := by cases r <;> (intro h; cases h)
theorem fen_calls {r : Option Nat} {n : Nat} {P : Program} {f : FuncId} {args : Array Value} {w : World} {R : Ending → World → Prop} (h : Calls P f args w R) : CallsIn (fen r) n P f args w R := by
  cases r with
  | none => exact callsIn_wide.2 h
  | some l => exact CallsIn.inRound l (callsIn_wide.2 h)
theorem fen_steps {r : Option Nat} {P : Program} {m m' : Machine} (h : Steps P m m') : StepsIn (Machine.fenced P (fen r)) P m m' := by
  cases r with
  | none => exact stepsIn_wide.2 h
  | some l =>
    show StepsIn (Machine.fenced P (Fence.wide.inRound l)) P m m'
    rw [fenced_inRound]; exact stepsIn_wide.2 h
def notDefer (o : Oper) : Bool := match o.op with
  | .defer _ => false
  | _ => true
theorem upon_in {r : Option Nat} {n : Nat} {P : Program} {o : Oper} {a : Act} {K : Act → World → Prop} {Q : Exit → Act → World → Prop} {res : Result Next} (hQ : ∀ e a w, Q e a w → e = .normal)
    {Q' : Exit → Act → World → Prop} (h : o.upon P a K Q res) : o.uponIn (fen r) n P a K Q' res := by
  cases res with
  | ok nx w =>
    cases nx <;> simp only [Oper.upon, Oper.uponIn] at h ⊢ <;> first
      | exact h
      | exact ⟨fun hd => (fen_depth r hd).elim, fen_calls (Calls.mono h fun e w'' he => by
          cases e with
          | returned v => exact he
          | panicked c => exact absurd (hQ _ _ _ he) (by simp)
          | outgrown => obtain ⟨a0, w0, q⟩ := he; exact absurd (hQ _ _ _ q) (by simp))⟩
      | exact ⟨fun hd => (fen_depth r hd).elim, fun c cs _ => (by obtain ⟨v, w', h1, h2⟩ := h c cs; exact ⟨v, w', h1, fen_steps h2⟩)⟩
      | exact h.elim
  | halt x w =>
    cases x <;> simp only [Oper.upon, Oper.uponIn] at h ⊢ <;> first
      | exact absurd (hQ _ _ _ h) (by simp)
      | exact h.elim
theorem only_normal {K : Act → World → Prop} : ∀ e a w, only K e a w → e = .normal := fun e a w h => by cases e <;> first | rfl | exact h.elim

section
variable {P : Program} {T : TT} {N : Nat} {B : Nat} {w0 : World} {ds : List Deferred} {Q : Exit → Act → World → Prop} {F : Fr} {L L' : Lo} {ops : Array Oper} {rest : List Oper} {r : Option Nat} {n : Nat}
variable (P N B w0 ds Q r n) in
/-- operations, in a frame of r's. -/
structure XI (ops : Array Oper) (l : List Oper) (F : Fr) (L : Lo) : Prop where
  run : ∀ a w, Fits N ds F a → Sys B w0 L w → wpListIn (fen r) n P ops Q l a w
variable (P N B w0 ds Q r n) in
/-- code, in a frame of r's. -/
structure XR' (c : Code) (F : Fr) (L : Lo) : Prop where
  run : ∀ a w, Fits N ds F a → Sys B w0 L w → c.wpIn (fen r) n P Q a w
theorem XI.done (h : XE N B w0 ds Q .normal F L) : XI P N B w0 ds Q r n ops [] F L := ⟨h.run⟩
theorem XI.one {o : Oper} (hd : notDefer o = true) (h : XL P N B w0 ds (only (wpListIn (fen r) n P ops Q rest)) ops [o] F L) : XI P N B w0 ds Q r n ops (o :: rest) F L := by
  refine ⟨fun a w hf hs => ?_⟩
  have h1 := h.run a w hf hs
  unfold wpList at h1
  unfold wpListIn
  split
  · rename_i hw
    rw [if_pos hw] at h1
    rcases h1 with h1 | ⟨_, a0, w0, q⟩
    · refine ⟨fun f _ => fen_fn r f, ?_⟩
      rw [fen_round]
      rw [Oper.semAt_eq r a.eval o (fun c e => by simp [notDefer, e] at hd)]
      exact upon_in only_normal h1
    · exact q.elim
  · rename_i hw
    rw [if_neg hw] at h1
    exact ⟨fun f _ => fen_fn r f, h1⟩
theorem XE.nextI (h : XI P N B w0 ds Q r n ops rest F L) : XE N B w0 ds (only (wpListIn (fen r) n P ops Q rest)) .normal F L := ⟨h.run⟩
/-- yield is called: what the round comes to is told by R. -/
theorem XI.yield {d : Nat} {c : Operand} {args : Array Operand} {vs : List Value} {l : Nat} {ats : Array TypeId} {ty : TypeId} {p : String} {af : Array Edge} (hcv : evo F c = some (.func (.yield l) #[] #[])) (ha : evos F args.toList = some vs) (hd : Nat.blt d N = true)
    (R : World → Value → World → Prop)
    (hy : ∀ w, Sys B w0 L w → ∃ fn tmps assign body, (Instr.yield l vs.toArray).run P w = .ok (.round l fn tmps assign body) w ∧ RoundIn (fen r) (n - 1) P l fn tmps assign body w fun e w' => ∃ v, e = .returned v ∧ R w v w')
    (k : ∀ w v w', Sys B w0 L w → R w v w' → ∃ L' w1, Sys B w1 L' w' ∧ XI P N B w1 ds Q r n ops rest ((d, v) :: F) L') :
    XI P N B w0 ds Q r n ops ({ dst := some d, op := .call { callee := .value c, args := args, argTypes := ats }, type := ty, pos := p, after := af, guard := none } :: rest) F L := by
  refine ⟨fun a w hf hs => ?_⟩
  obtain ⟨fn, tmps, assign, body, h1, h2⟩ := hy w hs
  refine wpListIn_plain rfl fun K hK => ⟨fun f _ => fen_fn r f, ?_⟩
  have hm : args.map a.eval = vs.toArray := by
    apply Array.ext'
    rw [Array.toList_map]
    exact evos_spec hf _ _ ha
  have hsem : ((Oper.semAt (fen r).round a.eval { dst := some d, op := .call { callee := .value c, args := args, argTypes := ats }, type := ty, pos := p, after := af, guard := none })).run P w = .ok (.round l fn tmps assign body) w := by
    rw [Oper.semAt_eq _ _ _ (fun c e => by cases e)]
    simp [execOp, resolve, hf.eval hcv, Deferred.ofValue, invoke, hm, h1]
  rw [hsem]
  refine ⟨fun hd => (fen_depth r hd).elim, h2.mono fun e w' he => ?_⟩
  obtain ⟨v, rfl, hR⟩ := he
  obtain ⟨L', w1, hS, hk⟩ := k w v w' hs hR
  exact hK _ _ (hk.run _ _ (hf.put hd) hS)
/-- a region in which yield is called, in a frame of no round's. -/
theorem XC.regionI {id : Nat} {l : List Oper} (n : Nat) (h : XI P N B w0 ds Q none n l.toArray l F L) : XC P N B w0 ds Q (.region id l.toArray false) F L :=
  ⟨fun a w hf hs => (wpIn_wide (n := n)).1 (wpIn_region_lit (F := Fence.wide) (h.run a w hf hs))⟩

/-! ### code in a round's frame -/
theorem XR'.region {id : Nat} {l : List Oper} (h : XI P N B w0 ds Q r n l.toArray l F L) : XR' P N B w0 ds Q r n (.region id l.toArray false) F L := ⟨fun a w hf hs => wpIn_region_lit (h.run a w hf hs)⟩
theorem XR'.seq {x y : Code} (h : XR' P N B w0 ds (Exit.then (y.wpIn (fen r) n P Q) Q) r n x F L) : XR' P N B w0 ds Q r n (.seq x y) F L := ⟨fun a w hf hs => wpIn_seq (h.run a w hf hs)⟩
theorem XE.nextR {y : Code} (h : XR' P N B w0 ds Q r n y F L) : XE N B w0 ds (Exit.then (y.wpIn (fen r) n P Q) Q) .normal F L := ⟨h.run⟩
theorem XR'.skip (h : XE N B w0 ds Q .normal F L) : XR' P N B w0 ds Q r n .skip F L := ⟨fun a w hf hs => wpIn_skip (h.run a w hf hs)⟩
theorem XR'.ret (h : XE N B w0 ds Q .ret F L) : XR' P N B w0 ds Q r n .ret F L := ⟨fun a w hf hs => wpIn_ret (h.run a w hf hs)⟩
theorem XR'.block {id : Nat} {c : Code} (h : XR' P N B w0 ds (Exit.inBlock id Q) r n c F L) : XR' P N B w0 ds Q r n (.block id c) F L := ⟨fun a w hf hs => wpIn_block (h.run a w hf hs)⟩
theorem XR'.cond {c : Operand} {x y : Code} (b : Bool) (hc : evo F c = some (.bool b)) (ht : b = true → XR' P N B w0 ds Q r n x F L) (he : b = false → XR' P N B w0 ds Q r n y F L) : XR' P N B w0 ds Q r n (.cond c x y) F L := ⟨fun a w hf hs => by
  cases b with
  | true => exact wpIn_cond_true (hf.eval hc) ((ht rfl).run a w hf hs)
  | false => exact wpIn_cond_false (hf.eval hc) ((he rfl).run a w hf hs)⟩
theorem XR'.cond_t {c : Operand} {x y : Code} (hc : evo F c = some (.bool true)) (ht : XR' P N B w0 ds Q r n x F L) : XR' P N B w0 ds Q r n (.cond c x y) F L := XR'.cond true hc (fun _ => ht) (fun h => by cases h)
theorem XR'.cond_f {c : Operand} {x y : Code} (hc : evo F c = some (.bool false)) (he : XR' P N B w0 ds Q r n y F L) : XR' P N B w0 ds Q r n (.cond c x y) F L := XR'.cond false hc (fun h => by cases h) (fun _ => he)
theorem XI.id {l : List Oper} (h : XI P N B w0 ds Q r n ops l F L) : XI P N B w0 ds Q r n ops l F L := h
theorem XR'.id {c : Code} (h : XR' P N B w0 ds Q r n c F L) : XR' P N B w0 ds Q r n c F L := h

/-! ### the function that holds the statement -/
/-- its deferred calls: the mark of the block D, which holds none. -/
def markD (D : Nat) : Deferred := { target := .collected D, args := #[] }
theorem enterM {f : FuncId} {fn : Func} {c : Code} {vs : List Value} {w : World} {R : Ending → World → Prop} {n : Nat} (hf : P.funcs[f]? = some fn) (hb : fn.body = some c) (hN : fn.ntmps = n)
    (hn : Nat.ble vs.length n = true) (h : XC P n w.heap.size w [] (bodyPostM Fence.wide 0 P fn R) c (frame 0 vs) []) : Calls P f vs.toArray w R := by
  subst hN
  have hn' := Nat.le_of_ble_eq_true hn
  refine (callsIn_wide (n := 0)).1 (callsIn_of_wp_marks (F := Fence.wide) hf hb trivial ((wpIn_wide (n := 0)).2 (h.run _ w ⟨?_, rfl, fun t v _ hv => ?_⟩ (Sys.enter w))))
  · simp; omega
  · obtain ⟨_, h2⟩ := lk_frame vs 0 t v hv
    have hlt : t < vs.length := (List.getElem?_eq_some_iff.1 h2).1
    simp only [Array.getD_eq_getD_getElem?]
    rw [Array.getElem?_append_left (by simpa using hlt)]
    simp at h2 ⊢
    rw [h2]; rfl
/-- it returns, the mark taken. -/
theorem XE.retM (hT : TOK P T) {fn : Func} {R : Ending → World → Prop} {rs : List ResultVar} {vs : List Value} {c : Prop} {D i : Nat} {L' : Lo} (h : fn.results = ⟨rs⟩) (hL : L[i]? = some (D, .deferred (some []))) (hL' : setN L i (D, .deferred none) = some L')
    (hv : resO T F L' rs = some (vs, c)) (hc : c) (hR : ∀ w, Sys B w0 L' w → R (.returned (tupV vs)) w) : XE N B w0 [markD D] (bodyPostM Fence.wide 0 P fn R) .ret F L := by
  refine ⟨fun a w hf hw => ?_⟩
  show LeavesInM Fence.wide 0 P fn a.tmps R a.defers .returning w
  rw [hf.defers]
  have hD := (hw.own _ (List.mem_of_getElem? hL)).2
  obtain ⟨e, hlt⟩ := setN_spec _ _ _ _ hL'
  have hsys : Sys B w0 L' (w.putObj D (.deferred none)) := hw.setObj hL e
  refine ⟨by simp, .inl ⟨D, w.putObj D (.deferred none), rfl, run_takeDeferred hD, ?_⟩⟩
  have hf' : Fits N [] F { a with defers := [] } := ⟨hf.size, rfl, hf.get⟩
  have h1 := resO_run hT hf' hsys hv hc
  have h2 : (results fn a.tmps).run P (w.putObj D (.deferred none)) = .ok (tupV vs) (w.putObj D (.deferred none)) := by
    unfold results
    rw [h, Array.mapM_eq_mapM_toList]
    simp only [Sem.run_bind, Sem.run_map]
    refine (congrArg (fun r : Result (List Value) => (r.andThen fun a w' => Result.ok a.toArray w').andThen fun a w' => Sem.run P (pure (if h : a.size = 1 then a[0] else Value.tuple a)) w') h1).trans ?_
    simp only [Result.andThen_ok, Sem.run_pure]
    cases vs with
    | nil => rfl
    | cons v vs => cases vs with
      | nil => rfl
      | cons u vs => simp [tupV]
  show LeavesIn Fence.wide 0 P fn a.tmps R [] .returning (w.putObj D (.deferred none))
  exact ⟨_, h2, hR _ hsys⟩
end
end Go.Proofs.YtoiepgcjinccpaaDoor.X
/-
  A walk by lemmas (15): the statement that ranges over a function; a round's beginning and its end.
-/
namespace Go.Proofs.YtoiepgcjinccpaaDoor.X
open Go Go.RowKit
set_option linter.unusedVariables false
/-- the loop's record. -/
abbrev recO (fn : FuncId) (tmps : Array Value) (ps : Array Tmp) (assign body : Code) (D : Nat) (st : LoopState) (pe : Option Code) : Loop :=
  { state := st, pending := pe, fn := fn, tmps := tmps, params := ps, assign := assign, body := body, defers := D }
section
variable {P : Program} {T : TT} {N : Nat} {B : Nat} {w0 : World} {ds : List Deferred} {Q : Exit → Act → World → Prop} {F : Fr} {L L' : Lo} {n : Nat}
theorem XE.begin {l i : Nat} {r : Loop} {body : Code} {Q' : Exit → Act → World → Prop} (hL : L[i]? = some (l, .loop r)) (hr : r.state = .ready) (hL' : setN L i (l, .loop { r with state := .busy }) = some L')
    (h : XR' P N B w0 ds Q' (some l) n body F L') :
    XE N B w0 ds (Exit.then (fun a₁ w₁ => ∃ w₂, (Instr.beginRound l).run P w₁ = .ok () w₂ ∧ body.wpIn (Fence.wide.inRound l) n P Q' a₁ w₂) (fun _ _ _ => False)) .normal F L :=
  ⟨fun a w hf hs => by
    obtain ⟨e, _⟩ := setN_spec _ _ _ _ hL'
    exact ⟨_, run_beginRound (hs.own _ (List.mem_of_getElem? hL)).2 hr, h.run a _ hf (hs.setObj hL e)⟩⟩
theorem XE.endR {l i : Nat} {r : Loop} {R : Ending → World → Prop} (hL : L[i]? = some (l, .loop r)) (hL' : setN L i (l, .loop { r with state := .ready, pending := none }) = some L')
    (h : ∀ w, Sys B w0 L' w → R (.returned (.bool true)) w) : XE N B w0 ds (roundPost P l R) .normal F L :=
  ⟨fun a w hf hs => by
    obtain ⟨e, _⟩ := setN_spec _ _ _ _ hL'
    exact ⟨_, _, run_endRound none (hs.own _ (List.mem_of_getElem? hL)).2, h _ (hs.setObj hL e)⟩⟩
theorem XE.endRet {l i : Nat} {r : Loop} {R : Ending → World → Prop} (hL : L[i]? = some (l, .loop r)) (hL' : setN L i (l, .loop { r with state := .done, pending := some .ret }) = some L')
    (h : ∀ w, Sys B w0 L' w → R (.returned (.bool false)) w) : XE N B w0 ds (roundPost P l R) .ret F L :=
  ⟨fun a w hf hs => by
    obtain ⟨e, _⟩ := setN_spec _ _ _ _ hL'
    exact ⟨_, _, run_endRound (some .ret) (hs.own _ (List.mem_of_getElem? hL)).2, h _ (hs.setObj hL e)⟩⟩
theorem XE.inBlock_ret {l : Nat} {id : Nat} {R : Ending → World → Prop} (h : XE N B w0 ds (roundPost P l R) .ret F L) : XE N B w0 ds (Exit.inBlock id (roundPost P l R)) .ret F L := ⟨h.run⟩
/-- two loop variables. -/
theorem Fits.params2 {a : Act} {t u : Nat} {v x : Value} (h : Fits N ds F a) (ht : Nat.blt t N = true) (hu : Nat.blt u N = true) :
    Fits N [] ((u, x) :: (t, v) :: F) { tmps := ((#[t, u] : Array Tmp).zip #[v, x]).foldl (fun s (p, y) => s.setIfInBounds p y) a.tmps, defers := [] } := by
  have h1 := (h.put (v := v) ht).put (v := x) hu
  have e : ((#[t, u] : Array Tmp).zip #[v, x]).foldl (fun s (p, y) => s.setIfInBounds p y) a.tmps = ((a.put (some t) v).put (some u) x).tmps := by
    simp [Act.put]
  rw [e]
  exact ⟨h1.size, rfl, h1.get⟩
/-- one round of yield. -/
theorem round_of {l : Nat} {fn : FuncId} {tmps : Array Value} {assign body : Code} {w : World} {R : Ending → World → Prop} (hf : Fits N [] F { tmps := tmps, defers := [] }) (hs : Sys B w0 L w)
    (h : XR' P N B w0 [] (Exit.then (fun a₁ w₁ => ∃ w₂, (Instr.beginRound l).run P w₁ = .ok () w₂ ∧ body.wpIn (Fence.wide.inRound l) n P (roundPost P l R) a₁ w₂) (fun _ _ _ => False)) (some l) n assign F L) :
    RoundIn Fence.wide n P l fn tmps assign body w R :=
  roundIn_of_wpIn trivial (h.run _ w hf hs)
theorem XC.rangeFunc {g : Operand} {ps : Array Tmp} {assign body : Code} {gf : FuncId} {cap : List Value} (hg : evo F g = some (.func (.func gf) #[] ⟨cap⟩)) (hk : callOk P gf = true)
    (hc : ∀ (fn : FuncId) (a : Act) (D : Nat) (w : World), w0.heap.size ≤ D → Fits N [] F a → Sys B w0 ((D + 1, .loop (recO fn a.tmps ps assign body D .ready none)) :: (D, .deferred (some [])) :: L) w →
      Calls P gf (Value.func (.yield (D + 1)) #[] #[] :: cap).toArray w fun e w3 => ∃ v, e = .returned v ∧
        ((∃ L3 w1, Sys B w1 ((D + 1, .loop (recO fn a.tmps ps assign body D .ready none)) :: L3) w3 ∧ XE N B w1 [markD D] Q .normal F ((D + 1, .loop (recO fn a.tmps ps assign body D .exhausted none)) :: L3)) ∨
         (∃ L3 w1, Sys B w1 ((D + 1, .loop (recO fn a.tmps ps assign body D .done (some .ret))) :: L3) w3 ∧ XE N B w1 [markD D] Q .ret F ((D + 1, .loop (recO fn a.tmps ps assign body D .exhausted (some .ret))) :: L3)))) :
    XC P N B w0 [] Q (.rangeFunc g ps assign body) F L := by
  refine ⟨fun a w hf hs => (wpIn_wide (n := 1)).1 (wpIn_rangeFunc (F := Fence.wide) fun fn _ => ?_)⟩
  have S1 := (hs.box (.deferred (some []))).box (.loop (recO fn a.tmps ps assign body w.heap.size .ready none))
  have hsz : (w.alloc (.deferred (some []))).heap.size = w.heap.size + 1 := by simp
  rw [hsz] at S1
  obtain ⟨W1, hW1⟩ : ∃ W1, (w.alloc (.deferred (some []))).alloc (.loop (recO fn a.tmps ps assign body w.heap.size .ready none)) = W1 := ⟨_, rfl⟩
  rw [hW1] at S1
  have hcall := hc fn a w.heap.size W1 hs.size hf S1
  refine ⟨w.heap.size + 1, [markD w.heap.size], W1, { target := .fn (.func gf) ⟨cap⟩, args := #[.func (.yield (w.heap.size + 1)) #[] #[]] }, W1, gf, (Value.func (.yield (w.heap.size + 1)) #[] #[] :: cap).toArray, W1,
    by rw [← hW1]; exact run_enterLoop_outer _ _ _ _ _, ?_, fun f' _ => trivial, ?_, fun h => (by cases h), ?_⟩
  · have : evo F g = some (.func (.func gf) ⟨[]⟩ ⟨cap⟩) := hg
    have e := hf.eval this
    simp only [resolve, rangeCall, e, Deferred.ofValue]
    simp [Act.eval]
  · have : (#[Value.func (.yield (w.heap.size + 1)) #[] #[]] ++ (⟨cap⟩ : Array Value)) = (Value.func (.yield (w.heap.size + 1)) #[] #[] :: cap).toArray := by simp
    simp only [invoke, this]
    exact callFunc_run hk _ _
  · refine callsIn_wide.2 (hcall.mono fun e w3 he => ?_)
    obtain ⟨v, rfl, hR⟩ := he
    have hf' : Fits N [markD w.heap.size] F { a with defers := [markD w.heap.size] ++ a.defers } := ⟨hf.size, by simp [hf.defers], hf.get⟩
    rcases hR with ⟨L3, w1, hS, hx⟩ | ⟨L3, w1, hS, hx⟩
    · have hl := (hS.own _ List.mem_cons_self).2
      exact ⟨none, _, run_endLoop hl (by simp), hx.run _ _ hf' (hS.setObj (i := 0) rfl rfl)⟩
    · have hl := (hS.own _ List.mem_cons_self).2
      exact ⟨some .ret, _, run_endLoop hl (by simp), wpIn_ret (hx.run _ _ hf' (hS.setObj (i := 0) rfl rfl))⟩
end
end Go.Proofs.YtoiepgcjinccpaaDoor.X
/-
  The plain words of a run: the state, the flows and the fault of every tick.
-/
namespace Go.Proofs.YtoiepgcjinccpaaDoor.Bs
def tk (ts : List Tick) (k : Nat) : Tick := ts[k]?.getD ⟨0, 0, 0⟩
/-- the state behind the first k ticks. -/
noncomputable def staAt (b : Bas) (s : Sta) (ts : List Tick) : Nat → Sta
  | 0 => s
  | k + 1 => outS b (staAt b s ts k) (tk ts k)
/-- the flows in tick k. -/
noncomputable def floAt (b : Bas) (s : Sta) (ts : List Tick) (k : Nat) : Flo := outF b (staAt b s ts k) (tk ts k)
/-- the fault in tick k. -/
noncomputable def errAt (b : Bas) (s : Sta) (ts : List Tick) (k : Nat) : Int := stepE b (staAt b s ts k) (tk ts k)
/-- the first tick with a fault. -/
noncomputable def badAt (b : Bas) (s : Sta) (ts : List Tick) : Option Nat := (List.range ts.length).find? fun k => decide (errAt b s ts k ≠ 0)
/-- the moments of the first k ticks. -/
noncomputable def momsAt (b : Bas) (s : Sta) (ts : List Tick) (k : Nat) : List (Sta × Flo) := (List.range k).map fun i => (staAt b s ts (i + 1), floAt b s ts i)
open Classical in
noncomputable def runE (b : Bas) (s : Sta) (ts : List Tick) : Int :=
  if staErr b s ≠ 0 then staErr b s else if 300 < ts.length then 3 else match badAt b s ts with
    | none => 0
    | some k => errAt b s ts k
theorem badAt_none {b : Bas} {s : Sta} {ts : List Tick} (h : ∀ k, k < ts.length → errAt b s ts k = 0) : badAt b s ts = none := by
  unfold badAt
  rw [List.find?_eq_none]
  intro k hk
  simpa using h k (by simpa using hk)
theorem badAt_some {b : Bas} {s : Sta} {ts : List Tick} {k : Nat} (hk : k < ts.length) (h : ∀ j, j < k → errAt b s ts j = 0) (h1 : errAt b s ts k ≠ 0) : badAt b s ts = some k := by
  unfold badAt
  rw [List.find?_range_eq_some]
  exact ⟨by simpa using h1, by simpa using hk, fun j hj => by simpa using h j hj⟩
theorem staAt_ok {b : Bas} {s : Sta} {ts : List Tick} (ho : Ok b) (hs : StaOk b s) : ∀ k, (∀ j, j < k → errAt b s ts j = 0) → StaOk b (staAt b s ts k) := by
  intro k
  induction k with
  | zero => intro _; exact hs
  | succ k ih =>
    intro h
    have h0 : stepE b (staAt b s ts k) (tk ts k) = 0 := h k (by omega)
    have := stepS_ok ho (ih fun j hj => h j (by omega)) h0
    show StaOk b (outS b (staAt b s ts k) (tk ts k))
    unfold outS
    rw [if_pos h0]
    exact this
theorem momsAt_succ {b : Bas} {s : Sta} {ts : List Tick} (k : Nat) : momsAt b s ts (k + 1) = momsAt b s ts k ++ [(staAt b s ts (k + 1), floAt b s ts k)] := by
  simp [momsAt, List.range_succ]
end Go.Proofs.YtoiepgcjinccpaaDoor.Bs
/-
  How ticks and moments lie in memory; the walk of moments.
-/
namespace Go.Proofs.YtoiepgcjinccpaaDoor.X
open Go Go.RowKit Go.Proofs.YtoiepgcjinccpaaDoor.Bs
set_option linter.unusedVariables false
theorem tickC_len (t : Tick) : (tickC t).length = 3 := rfl
structure TksAt (w : World) (ok : Nat → Prop) (q : SV) (ts : List Tick) : Prop where
  rd : ReadsP w ok 3 q.A q.n (ts.flatMap tickC)
  max : q.n ≤ 9223372036854775807
def momC (q r : SV) (s : Sta) (f : Flo) : List Value := staC q s ++ floC r f
section
variable {w w' w0 : World} {ok ok' : Nat → Prop} {B : Nat} {q : SV} {ts : List Tick} {L : Lo}
theorem TksAt.len (h : TksAt w ok q ts) : q.n = ts.length := by have := h.rd.len; rw [flat_len tickC 3 tickC_len] at this; omega
theorem TksAt.keep (h : TksAt w ok q ts) (hk : ∀ k, ok k → w'.heap[k]? = w.heap[k]?) : TksAt w' ok q ts := ⟨h.rd.keep hk, h.max⟩
theorem TksAt.below (h : TksAt w (Lt B) q ts) (hb : Below B w w') : TksAt w' (Lt B) q ts := h.keep fun k hk => hb.block k hk
theorem TksAt.mono (h : TksAt w ok q ts) (hk : ∀ k, ok k → ok' k) : TksAt w ok' q ts := ⟨h.rd.mono hk, h.max⟩
theorem TksAt.arg (h : TksAt w0 (Lt B) q ts) (S : Sys B w0 L w) : TksAt w (Lt w.heap.size) q ts := ⟨h.rd.arg S, h.max⟩
theorem TksAt.sys (h : TksAt w0 ok q ts) (S : Sys B w0 L w) (hk : Keep ok w0 L) : TksAt w (Lt w.heap.size) q ts := ⟨h.rd.sys S hk, h.max⟩
theorem TksAt.tick {ad : Addr} {n c : Nat} (h : TksAt w ok ⟨some ad, n, c⟩ ts) {k : Nat} (hk : k < ts.length) : ∀ j u, (tickC (tk ts k))[j]? = some u → w.cell? ((ad.add (k * 3)).add j) = some u := fun j u hj => by
  have hn := h.len
  obtain ⟨ad', e, _, h1⟩ := h.rd.at_ (by simp only at hn ⊢; omega)
  cases e
  have hj3 : j < 3 := (List.getElem?_eq_some_iff.1 hj).1
  have e2 := flat_at tickC 3 tickC_len ts k j (tk ts k) (by unfold tk; rw [List.getElem?_eq_getElem hk]; rfl) hj3
  have := h1 (k * 3 + j) u (e2.trans hj)
  rw [add_add]
  exact this
end
theorem moments_any {x y z : Value} {p : BV} {b : Bas} {q r : SV} {s : Sta} {w : World} :
    Calls Tryd.prog 119 #[basV p b, staV q s, svV r] w fun e w' => ∃ v, e = .returned v ∧ ∃ gb gs gl, v = .func (.func 129) #[] #[.pointer (some ⟨gl, 0, none⟩), .pointer (some ⟨gb, 0, none⟩), .pointer (some ⟨gs, 0, none⟩)] ∧
      Sys w.heap.size w [(gl, cel 41 [svV r]), (gs, cel 28 (staC q s)), (gb, cel 25 (basC p b))] w' := by
  simp only [basV, basC, staV, staC, svV]
  refine enter Tryd.func119 rfl Tryd.ntmps119 rfl ?_; simp only [frame, Nat.zero_add, Nat.reduceAdd]
  repeat (first | (refine M0 ?_; first | refine O0 ?_ | refine z1 tok rfl ?_ | refine O1 rfl ?_ rfl | refine O2 rfl ?_ | refine O3 rfl ?_ rfl | refine O4 rfl rfl rfl (fun _ _ => ?_) | refine O5 tok rfl rfl rfl (fun _ _ => ?_) | refine U0 _ (U2 rfl) rfl ?_ | refine U0 _ (U3 tok rfl rfl rfl rfl rfl) rfl ?_ | refine z3 tok rfl ?_ | refine U0 _ (U4 rfl rfl) rfl ?_ | refine U0 _ (U5 rfl rfl) rfl ?_) | (refine M1 ?_; first | refine J0 ?_ | refine J1 ?_ | refine J2 mixed rfl (by kernel_rfl) ?_ | refine J3 mixed rfl rfl (by kernel_rfl) ?_ | refine J4 ?_ | refine J5 ?_ | refine J6 ?_ | refine J7 ?_ | refine J8 rfl ?_ | refine J9 rfl ?_) | (refine M2 ?_; first | refine I0 ?_ | refine I1 ?_ | refine I2 ?_ | refine I3 ?_ | refine I4 ?_ | refine I5 ?_ | refine I6 rfl ?_ | refine I7 ?_ | refine I8 ?_ | refine z4 ?_) | (refine M3 ?_; first | refine O6 ?_ | refine z2 tok rfl ?_ | refine O8 rfl ?_ | refine O7 rfl ?_ rfl | refine O9 rfl ?_ rfl | refine U1 _ (U4 rfl rfl) rfl ?_ | refine U1 _ (U5 rfl rfl) rfl ?_ | refine U1 _ (U2 rfl) rfl ?_ | refine U1 _ (U3 tok rfl rfl rfl rfl rfl) rfl ?_) | (refine M4 ?_; first | refine M6 ?_ | refine U6 rfl (by kernel_rfl) ?_ | refine U7 (by kernel_rfl) ?_) | (refine M5 ?_; first | exact M7 | refine U8 rfl ?_ | refine U9 rfl rfl ?_ ?_))
  refine XL.step _ (Ev.makeFunc rfl rfl) rfl ?_
  repeat (first | (refine M0 ?_; first | refine O0 ?_ | refine z1 tok rfl ?_ | refine O1 rfl ?_ rfl | refine O2 rfl ?_ | refine O3 rfl ?_ rfl | refine O4 rfl rfl rfl (fun _ _ => ?_) | refine O5 tok rfl rfl rfl (fun _ _ => ?_) | refine U0 _ (U2 rfl) rfl ?_ | refine U0 _ (U3 tok rfl rfl rfl rfl rfl) rfl ?_ | refine z3 tok rfl ?_ | refine U0 _ (U4 rfl rfl) rfl ?_ | refine U0 _ (U5 rfl rfl) rfl ?_) | (refine M1 ?_; first | refine J0 ?_ | refine J1 ?_ | refine J2 mixed rfl (by kernel_rfl) ?_ | refine J3 mixed rfl rfl (by kernel_rfl) ?_ | refine J4 ?_ | refine J5 ?_ | refine J6 ?_ | refine J7 ?_ | refine J8 rfl ?_ | refine J9 rfl ?_) | (refine M2 ?_; first | refine I0 ?_ | refine I1 ?_ | refine I2 ?_ | refine I3 ?_ | refine I4 ?_ | refine I5 ?_ | refine I6 rfl ?_ | refine I7 ?_ | refine I8 ?_ | refine z4 ?_) | (refine M3 ?_; first | refine O6 ?_ | refine z2 tok rfl ?_ | refine O8 rfl ?_ | refine O7 rfl ?_ rfl | refine O9 rfl ?_ rfl | refine U1 _ (U4 rfl rfl) rfl ?_ | refine U1 _ (U5 rfl rfl) rfl ?_ | refine U1 _ (U2 rfl) rfl ?_ | refine U1 _ (U3 tok rfl rfl rfl rfl rfl) rfl ?_) | (refine M4 ?_; first | refine M6 ?_ | refine U6 rfl (by kernel_rfl) ?_ | refine U7 (by kernel_rfl) ?_) | (refine M5 ?_; first | exact M7 | refine U8 rfl ?_ | refine U9 rfl rfl ?_ ?_))
  refine XE.retg tok Tryd.results119 rfl (by simp only [and_self, and_true]) (fun w' S => ?_)
  exact ⟨_, rfl, _, _, _, rfl, S⟩
end Go.Proofs.YtoiepgcjinccpaaDoor.X
