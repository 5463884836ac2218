/-
  A walk by lemmas (11): a region that draws its order, whose last operation comes behind all the others and may do whatever it does.
-/
import Derived.Test.YtoiepgcjinccpaaDoorEngA
namespace Go.Proofs.YtoiepgcjinccpaaDoor.X
open Go Go.RowKit
set_option linter.unusedVariables false
def cutLast : List Oper → Option (List Oper × Oper)
  | [] => none
  | [o] => some ([], o)
  | o :: r => match cutLast r with
    | some (l, z) => some (o :: l, z)
    | none => none
theorem cutLast_eq : ∀ {l l1 : List Oper} {z : Oper}, cutLast l = some (l1, z) → l = l1 ++ [z] := by
  intro l
  induction l with
  | nil => intro l1 z h; cases h
  | cons o r ih =>
    intro l1 z h
    cases r with
    | nil => simp only [cutLast, Option.some.injEq, Prod.mk.injEq] at h; obtain ⟨rfl, rfl⟩ := h; rfl
    | cons o2 r2 =>
      simp only [cutLast] at h
      split at h
      · rename_i l' z' hx
        simp only [Option.some.injEq, Prod.mk.injEq] at h
        obtain ⟨rfl, rfl⟩ := h
        rw [ih hx]; rfl
      · cases h
/-- the last operation stands behind all the others. -/
def tailB (l : List Oper) : Bool := (List.range (l.length - 1)).all fun i => (((ahead l [])[l.length - 1]?).getD []).contains i
theorem tailB_spec {l : List Oper} {n : Nat} (h : tailB l = true) (hn : l.length = n + 1) : ∀ i, i < n → i ∈ ((ahead l [])[n]?).getD [] := fun i hi => by
  unfold tailB at h
  rw [List.all_eq_true] at h
  have := h i (List.mem_range.2 (by omega))
  rw [show l.length - 1 = n from by omega] at this
  simpa using this
section
variable {P : Program} {T : TT} {N : Nat} {B : Nat} {w0 : World} {ds : List Deferred} {Q : Exit → Act → World → Prop} {F : Fr} {L : Lo}
theorem XC.drawT {id : Nat} {l l1 : List Oper} {z : Oper} (hm : P.follows .mixedOrders = true) (hcut : cutLast l = some (l1, z)) (hq : l1.all quietO = true) (hc : (edgesOk l && tailB l) = true)
    (h : Fw P N B w0 ds True (fun F' => XL P N B w0 ds Q l.toArray [z] F' L) l.toArray L l1 F) : XC P N B w0 ds Q (.region id l.toArray true) F L := by
  have hl := cutLast_eq hcut
  simp only [Bool.and_eq_true] at hc
  obtain ⟨hc, htl⟩ := hc
  refine ⟨fun a w hf hs => ?_⟩
  obtain ⟨vs1, hmap1, ⟨G', hal, hK⟩, hok⟩ := Fw0.values l1 F h.run
  have hlen1 : vs1.length = l1.length := by rw [← hmap1]; simp
  obtain ⟨vs, hvs⟩ : ∃ vs, vs = vs1 ++ [(z, undef)] := ⟨_, rfl⟩
  have hmap : vs.map (·.1) = l := by rw [hvs, hl]; simp [hmap1]
  have hlen : vs.length = l.length := by rw [← hmap]; simp
  have hll : l.length = l1.length + 1 := by rw [hl]; simp
  have hlow : ∀ (i : Nat) o v, i < l1.length → vs[i]? = some (o, v) → vs1[i]? = some (o, v) := fun i o v hi hx => by rw [hvs, List.getElem?_append_left (by omega)] at hx; exact hx
  have hdN1 : ∀ (i : Nat) o v, vs1[i]? = some (o, v) → ∀ d, o.dst = some d → d < N := fun i o v hi => (hok i o v hi).1
  have hfin : ∀ (D : Array Bool) a' w', (∀ i, i < l1.length → on D i = true) → on D l1.length = false → (∀ t : Nat, a'.tmps[t]? = (runD (on D) 0 vs a).tmps[t]?) → a'.defers = a.defers → Sys B w0 L w' → wpList P l.toArray Q [z] a' w' := by
    intro D a' w' hall hno hpt hdf hs'
    have : a' = runD (fun _ => true) 0 vs1 a := act_ext (fun t => by
      rw [hpt t]
      have e1 := runD_take l1.length vs 0 a
      rw [hvs, List.take_left' hlen1] at e1
      rw [← e1, hvs]
      exact runD_get _ _ t _ 0 _ _ (fun j o v hj _ => by
        have hjl := (List.getElem?_eq_some_iff.1 hj).1
        simp only [List.length_append, List.length_cons, List.length_nil] at hjl
        simp only [Nat.zero_add]
        by_cases hjn : j < l1.length
        · rw [hall j hjn]; simp [hjn]
        · obtain rfl : j = l1.length := by omega
          rw [hno]; simp) rfl rfl) (by rw [hdf, runD_defers])
    rw [this]
    exact hK.run _ _ (hal.fits (runD_all vs1 0 a F hf hdN1)) hs'
  have hzi : l[l1.length]? = some z := by rw [hl]; simp
  have hzb : ∀ D : Array Bool, Closed l D → (∀ j ∈ binds z, on D j = true) → ∀ i, i < l1.length → on D i = true := fun D hcl hb i hi =>
    ahead_closed (edgesOk_low hc) hcl l1.length z hzi hb i (tailB_spec htl hll i hi)
  have key : ∀ fuel (D : Array Bool) a' w', on D l1.length = false → D.size = l.length → Closed l D → D.toList.count false ≤ fuel → (∀ t : Nat, a'.tmps[t]? = (runD (on D) 0 vs a).tmps[t]?) → a'.defers = a.defers →
      Sys B w0 L w' → wpAny P .any l.toArray Q fuel D a' w' := by
    intro fuel
    induction fuel with
    | zero =>
      intro D a' w' hno hsz hcl hcnt hpt hdf hs'
      have := count_set (D := D) (i := l1.length) (by omega) hno
      omega
    | succ fuel ih =>
      intro D a' w' hno hsz hcl hcnt hpt hdf hs'
      refine ⟨fun hr => (by have := all_done hsz (edgesOk_low hc) hr l1.length (by omega); rw [hno] at this; cases this), fun i hi => ?_⟩
      obtain ⟨o, ho, hn, hb⟩ := ready_spec hsz hi
      have hilt : i < l.length := (List.getElem?_eq_some_iff.1 ho).1
      by_cases hil : i = l1.length
      · subst hil
        rw [hzi] at ho
        obtain rfl := Option.some.inj ho
        have hall := hzb D hcl hb
        have hx := hfin D a' w' hall hno hpt hdf hs'
        have hoi : l.toArray[l1.length]? = some z := by simpa using hzi
        refine wpOp_mono (K := fun a w => Q .normal a w) (fun a'' w'' q => ?_) ?_
        · have hr : Region.ready .any l.toArray (D.setIfInBounds l1.length true) = [] := by
            apply List.eq_nil_iff_forall_not_mem.2
            intro j hj
            obtain ⟨o2, ho2, hn2, _⟩ := ready_spec (by simpa using hsz) hj
            have hj2 := (List.getElem?_eq_some_iff.1 ho2).1
            rw [on_set (by omega)] at hn2
            simp only [Bool.or_eq_false_iff, beq_eq_false_iff_ne] at hn2
            rw [hall j (by omega)] at hn2
            cases hn2.1
          exact wpAny_done hr q fuel
        · unfold wpOp
          rw [hoi]
          unfold wpList at hx
          simp only
          split
          · rename_i hw; rw [if_pos hw] at hx; exact hx
          · rename_i hw; rw [if_neg hw] at hx; exact hx
      have hil2 : i < l1.length := by omega
      obtain ⟨v, hv⟩ := map_at hmap ho
      -- the slots that i names hold what they hold in the text's order
      have hsame : ∀ t ∈ names l.toArray o, a'.tmps[t]? = (runD (fun x => decide (x < 0 + i)) 0 vs a).tmps[t]? := by
        intro t ht
        rw [hpt t]
        refine runD_get _ _ t vs 0 _ _ (fun j oj vj hj hdj => ?_) rfl rfl
        simp only [Nat.zero_add]
        by_cases hij : i = j
        · subst hij; rw [hn]; simp
        · exact writer_iff hc hcl ho hn hb (map_at' hmap hj) hdj ht hij
      have hfi : Fits N ds (seqF (vs1.take i) F) (runD (fun x => decide (x < 0 + i)) 0 vs a) := by
        rw [runD_take]
        rw [hvs, List.take_append_of_le_length (by omega)]
        exact runD_all _ 0 a F hf (fun j oj vj hj => by
          rw [List.getElem?_take] at hj
          split at hj
          · exact hdN1 j oj vj hj
          · cases hj)
      have hexec : execOp a'.eval o = execOp (runD (fun x => decide (x < 0 + i)) 0 vs a).eval o := by
        refine execOp_congr o ?_ ?_
        · intro cs b e
          have := (low_at l 0 i o (edgesOk_low hc) ho).2
          simp [notSelect, e] at this
        · intro x hx
          refine eval_of fun t e => hsame t ?_
          subst e
          unfold names Oper.looksAt
          simp only [List.mem_append, List.mem_filterMap]
          exact .inr (.inl ⟨.tmp t, by simpa using hx, rfl⟩)
      -- what follows
      have hgo : ∀ w'', Sys B w0 L w'' → wpAny P .any l.toArray Q fuel (D.setIfInBounds i true) (a'.put o.dst v) w'' := by
        intro w'' hs''
        have hD' : on (D.setIfInBounds i true) = fun x => on D x || x == 0 + i := by funext x; rw [on_set (by omega), Nat.zero_add]
        refine ih _ _ _ (by rw [on_set (by omega), hno]; simp; omega) (by simpa using hsz) ?_ (by have := count_set (D := D) (i := i) (by omega) hn; omega) ?_ (by rw [put_defers]; exact hdf) hs''
        · intro k hk ok hok' j hj
          rw [on_set (by omega)] at hk ⊢
          simp only [Bool.or_eq_true, beq_iff_eq] at hk ⊢
          rcases hk with hk | rfl
          · exact .inl (hcl k hk ok hok' j hj)
          · rw [ho] at hok'
            obtain rfl := Option.some.inj hok'
            exact .inl (hb j hj)
        · intro t
          rw [hD', runD_put (on D) i o v t vs 0 a hv (by rw [Nat.zero_add]; exact hn) (fun j oj vj hj hdj hdo hlt => ?_)]
          · rw [put_get, put_get, hpt t]
            have : a'.tmps.size = (runD (on D) 0 vs a).tmps.size := by
              have e : a'.tmps = (runD (on D) 0 vs a).tmps := Array.ext_getElem? hpt
              rw [e]
            rw [this]
          · rw [Nat.zero_add]
            have := writer_iff hc hcl ho hn hb (map_at' hmap hj) hdj (show t ∈ names l.toArray o by unfold names; simp [hdo]) (by omega)
            rw [this]
            simp; omega
      unfold wpOp
      have hoi : l.toArray[i]? = some o := by simpa using ho
      rw [hoi]
      simp only
      obtain ⟨_, hcase⟩ := hok i o v (hlow i o v hil2 hv)
      cases hg : o.guard with
      | none =>
        rw [hg] at hcase
        simp only at hcase
        rw [if_pos (by simp [Region.wanted, hg])]
        refine .inl ?_
        unfold Oper.wp
        rw [hexec]
        exact (hcase.run _ w' hfi hs').upon fun w'' hb => hgo w'' (hs'.below hb)
      | some gw =>
        obtain ⟨j, wb⟩ := gw
        rw [hg] at hcase
        simp only at hcase
        have hsj : yielded l.toArray a'.tmps j = yielded l.toArray (runD (fun x => decide (x < 0 + i)) 0 vs a).tmps j := by
          unfold yielded
          cases hdj : (l.toArray[j]?).bind (·.dst) with
          | none => rfl
          | some t =>
            simp only [Option.bind_some]
            rw [hsame t (by unfold names Oper.looksAt; rw [hg]; simp only [List.mem_append]; right; right; rw [hdj]; exact List.mem_singleton.2 rfl)]
        rcases hcase with ⟨c, hask, hy, hno⟩ | ⟨hask, hno⟩
        case inr =>
          have hyn : yielded l.toArray a'.tmps j = none := by rw [hsj]; exact askedU_spec hask hfi
          have hwant : Region.wanted o (yielded l.toArray a'.tmps) = false := by simp [Region.wanted, hg, hyn]
          rw [hwant, if_neg (by simp)]
          have := hgo w' hs'
          rw [hno] at this
          exact this
        have hyl : yielded l.toArray a'.tmps j = some c := by
          rw [hsj, asked_spec hask hfi]
        have hwant : Region.wanted o (yielded l.toArray a'.tmps) = (c == wb) := by simp [Region.wanted, hg, hyl]
        rw [hwant]
        by_cases hcw : c = wb
        · rw [if_pos (by simp [hcw])]
          refine .inl ?_
          unfold Oper.wp
          rw [hexec]
          exact ((hy hcw).run _ w' hfi hs').upon fun w'' hb => hgo w'' (hs'.below hb)
        · have hc' : c = !wb := by cases c <;> cases wb <;> simp_all
          rw [if_neg (by simpa using hcw)]
          have := hgo w' hs'
          rw [hno hc'] at this
          exact this
  refine wp_region_any hm (key _ _ _ _ (by unfold on; simp [hll]) (by simp) ?_ ?_ ?_ rfl hs.drew)
  · intro i hi
    exfalso
    unfold on at hi
    simp only [Array.getD_eq_getD_getElem?, Array.getElem?_replicate] at hi
    split at hi <;> simp at hi
  · simp
  · intro t
    have nothing : ∀ (r : List (Oper × Value)) (k : Nat) (a : Act), runD (on (Array.replicate l.toArray.size false)) k r a = a := by
      intro r
      induction r with
      | nil => intro k a; rfl
      | cons x r ih =>
        intro k a
        obtain ⟨o, v⟩ := x
        have : on (Array.replicate l.toArray.size false) k = false := by
          unfold on
          simp only [Array.getD_eq_getD_getElem?, Array.getElem?_replicate]
          split <;> simp
        simp only [runD, this]
        exact ih _ _
    rw [nothing]
variable {pu : Prop} {dst : Option Tmp} {ty : TypeId} {p : String} {af : Array Edge} {gd : Option (Nat × Bool)}
def conB : Option TypeDesc → Bool
  | some (.interface _) => false
  | some _ => true
  | none => false
theorem Ev.makeI {t : Nat} {x : Operand} {v : Value} (hu : conB (P.underlying t) = true) (hx : evo F x = some v) : Ev P N B w0 ds pu F L ⟨dst, .makeInterface t x, ty, p, af, gd⟩ (.iface t v) := .of_run fun a w hf hw => by
  cases h : P.underlying t with
  | none => rw [h] at hu; cases hu
  | some d => rw [h] at hu; cases d <;> first | (simp [execOp, Instr.makeInterface, hf.eval hx, run_underlying h]; done) | cases hu
end
end Go.Proofs.YtoiepgcjinccpaaDoor.X
