/-
  The walks of alone, of the ticks at which closing can begin, and of Last (closure).
-/
import Derived.Test.YtgddcbpbadookaaGreatDoorPart3
import Derived.Test.YtgddcbpbadookaaGreatDoorPart2
import Derived.Test.YtgddcbpbadookaaGreatDoorProg
import Derived.WalkKit
import Derived.LaidEql
import Derived.Stop.Asserts
import Derived.RowKitTokens
import Derived.Maps.RangeRun
import Derived.Test.YtgddcbpbadookaaGreatDoorChecked
import Derived.Shelf.Sort.Plain
import Derived.Shelf.Slices.In.SortNone
namespace Go.Proofs.YtgddcbpbadookaaGreatDoor
set_option linter.unusedVariables false
set_option linter.unusedSimpArgs false
namespace X
open Go Go.RowKit Bs
section
variable {P : Program} {T : TT} {N : Nat} {B : Nat} {w0 : World} {ds : List Deferred} {F : Fr} {L : Lo} {pu : Prop} {dst : Option Tmp} {ty : TypeId} {p : String} {af : Array Edge} {gd : Option (Nat × Bool)}
end
end X
namespace X
open Go Go.RowKit Bs
section
variable {t : CTk} {v : CTV} {w0 : World} {L : Lo} {B N : Nat} {ds : List Deferred} {Q : Exit → Act → World → Prop} {F : Fr} {ops : Array Oper} {rest : List Oper} {ty : TypeId} {p : String} {af : Array Edge}
end
end X
namespace X
open Go Go.RowKit Bs
section
variable {N B : Nat} {w0 : World} {L : Lo} {Q : Exit → Act → World → Prop} {ds : List Deferred} {F : Fr}
end
end X
namespace X
open Go Go.RowKit Bs
section
variable {t : CTk} {v : CTV} {r : CRu} {g gr gm : Nat} {w : World}
end
end X
namespace Bs
open Go X
end Bs
namespace X
open Go Go.RowKit Bs
section
variable {t : CTk} {v : CTV} {r : CRu} {g gr gm : Nat} {w : World}
end
section
variable {t : CTk} {v : CTV} {r : CRu} {w0 : World} {L : Lo} {B N : Nat} {ds : List Deferred} {Q : Exit → Act → World → Prop} {F : Fr} {ops : Array Oper} {rest : List Oper} {ty : TypeId} {p : String} {af : Array Edge}
end
end X
namespace X
open Go Go.RowKit Bs
section
variable {t : CTk} {v : CTV} {b0 g gm : Nat} {kk ks ks' : List Nat} {rs : List RowX} {hs hs' new : List Held} {w W w' wE w0 w1 w2 : World} {L : Lo} {B : Nat} {R : Value → List Held → Prop} {x : Value}
variable {P : Program} {N : Nat} {ds : List Deferred} {Q : Exit → Act → World → Prop} {F : Fr} {ops : Array Oper} {rest : List Oper} {ty : TypeId} {p : String} {af : Array Edge}
end
end X
namespace X
open Go Go.RowKit Bs
section
variable {t : CTk} {v : CTV} {b0 g gm : Nat} {ks ks' : List Nat} {rs : List RowX} {hs hs' : List Held} {w W w' : World} {L : Lo}
end
section
variable {P : Program} {N : Nat} {B : Nat} {w0 wS : World} {ds : List Deferred} {Q : Exit → Act → World → Prop} {F : Fr} {L Ls : Lo} {ops : Array Oper} {rem : List (Nat × Oper)} {e : Exit}
theorem atHeld (k : XE N B w0 ds (heldR P B wS Q Ls ops rem) e F L) : XE N B w0 ds (heldR P B wS Q Ls ops rem) e F L := k
end
section
variable {t : CTk} {v : CTV} {b0 b1 g gm : Nat} {ks ks' : List Nat} {rs : List RowX} {hs hs' new : List Held} {w w' wE w0 w1 w2 : World} {L : Lo} {B : Nat}
variable {P : Program} {N : Nat} {ds : List Deferred} {Q : Exit → Act → World → Prop} {F : Fr} {ops : Array Oper} {rest : List Oper} {ty : TypeId} {p : String} {af : Array Edge}
end
end X
namespace X
open Go Go.RowKit
section
variable {P : Program} {N : Nat} {B : Nat} {wS w0 : World} {ds : List Deferred} {Q : Exit → Act → World → Prop} {F : Fr} {L Ls : Lo} {ops : Array Oper} {rem rem' : List (Nat × Oper)}
def reckOp2 (o : Oper) : Bool := match o.op with
  | .move _ | .assign _ | .pick .. | .extract .. | .makeInterface .. | .build .. | .fieldAddr .. | .field .. | .indexAddr .. | .binOp .. | .unOp .. | .convert .. | .load .. => true
  | .call c => match c.callee with
    | .builtin .min => true
    | .builtin .max => true
    | .builtin .len => true
    | _ => false
  | _ => false
def firstV (rem : List (Nat × Oper)) : List (Nat × Oper) → Option (Nat × Oper × List (Nat × Oper))
  | [] => none
  | (i, o) :: r => match reckOp2 o with
    | true => match readyB rem o with
      | true => match dropO rem i with
        | some rem' => some (i, o, rem')
        | none => none
      | false => firstV rem r
    | false => firstV rem r
theorem firstV_spec : ∀ {l : List (Nat × Oper)} {i : Nat} {o : Oper}, firstV rem l = some (i, o, rem') → (i, o) ∈ l ∧ readyB rem o = true ∧ dropO rem i = some rem' := by
  intro l
  induction l with
  | nil => intro i o h; cases h
  | cons e r ih =>
    intro i o h
    obtain ⟨j, p⟩ := e
    simp only [firstV] at h
    split at h
    · split at h
      · rename_i hr
        split at h
        · rename_i r2 hd
          simp only [Option.some.injEq, Prod.mk.injEq] at h
          obtain ⟨rfl, rfl, rfl⟩ := h
          exact ⟨List.mem_cons_self, hr, hd⟩
        · cases h
      · obtain ⟨h1, h2⟩ := ih h; exact ⟨List.mem_cons_of_mem _ h1, h2⟩
    · obtain ⟨h1, h2⟩ := ih h; exact ⟨List.mem_cons_of_mem _ h1, h2⟩
theorem XR.takeV {i : Nat} {o : Oper} (h1 : firstV rem rem = some (i, o, rem')) (hl : loneB ops rem i o = true) (h : Fw P N B wS ds False (fun F' => XR P N B wS w0 ds Q Ls ops rem' F' L) ops Ls [o] F) :
    XR P N B wS w0 ds Q Ls ops rem F L := by
  obtain ⟨hm, hr, hd⟩ := firstV_spec h1
  unfold loneB at hl
  simp only [Bool.and_eq_true] at hl
  obtain ⟨⟨hsel, hein⟩, hap⟩ := hl
  obtain ⟨v, hok, F', hal, hk⟩ := h.run
  refine ⟨fun D fuel a w hD hlen hf hs hS => ?_⟩
  have hrd : i ∈ Region.ready .any ops D := hD.mem_ready hm hr fun e he hb => by
    unfold edgesIn at hein
    have := List.all_eq_true.1 hein _ hm
    have := List.all_eq_true.1 this e (by simpa using he)
    simp only [hb, Bool.not_true, Bool.false_or] at this
    exact Nat.le_of_ble_eq_true this
  obtain ⟨n, rfl, hn⟩ := ready_count hrd hlen
  have hD' := hD.set hm hd
  refine wpAnyH_first (hD.at_ _ hm) (Region.noSelect_spec hsel) (fun c a w q => q.elim) n D a w (fun j oj hj hne hun hno => ?_) hrd (hok.yieldsIf hf) hS ?_
  · have hjs : j < ops.size := (Array.getElem?_eq_some_iff.1 hj).1
    have hon : on D j = false := by
      unfold on
      have hlt' : j < D.size := by rw [hD.size]; exact hjs
      rw [Array.getD_eq_getD_getElem?, Array.getElem?_eq_getElem hlt'] at hun ⊢
      exact hun
    obtain ⟨o', ho'⟩ := inRem_iff.1 ((hD.left j hjs).1 hon)
    have := hD.at_ _ ho'
    rw [hj] at this
    obtain rfl := Option.some.inj this
    have h2 := List.all_eq_true.1 hap _ ho'
    simp only [Bool.or_eq_true] at h2
    rcases h2 with (h2 | h2) | h2
    · exact absurd (Nat.eq_of_beq_eq_true h2) hne
    · obtain ⟨e, he, hb⟩ := Array.any_eq_true'.1 h2
      simp only [Bool.and_eq_true, beq_iff_eq] at hb
      exact absurd hb.2 (hno e he hb.1)
    · exact h2
  · exact hk.run _ n _ w hD' hn (hal.fits (hf.putF hok.1)) hs hS
theorem YV {i : Nat} {o : Oper} (h1 : firstV rem rem = some (i, o, rem') := by first | exact rfl | fail) (hl : loneB ops rem i o = true := by first | kernel_rfl | fail) : Step (Fw P N B wS ds False (fun F' => XR P N B wS w0 ds Q Ls ops rem' F' L) ops Ls [o] F) (XR P N B wS w0 ds Q Ls ops rem F L) := ⟨XR.takeV h1 hl⟩
theorem SRV {q : Prop} (k : q) (st : Step q (XR P N B wS w0 ds Q Ls ops rem F L) := by first | exact YJ | exact YK | exact YV | exact YL | fail) : XR P N B wS w0 ds Q Ls ops rem F L := st.run k
end
end X
namespace X
open Go Go.RowKit
theorem wpIn_loop_ghost {Fe : Fence} {m : Nat} {P : Program} {Q : Exit → Act → World → Prop} {a : Act} {w : World} {c : Code} (I : Nat → Act → World → Prop) (n₀ : Nat) (h₀ : I n₀ a w)
    (round : ∀ n a w, I n a w → c.wpIn Fe m P (Exit.then (fun a' w' => ∃ n', n' < n ∧ I n' a' w') Q) a w) : (Code.loop c).wpIn Fe m P Q a w := by
  refine wpIn_loop (fun a w => ∃ n, I n a w) (fun a w => leastOf (fun n => I n a w)) ⟨n₀, h₀⟩ ?_
  intro a w hI
  refine wpIn_mono (round _ a w (leastOf_spec hI).1) ?_
  intro e a' w' hq
  cases e with
  | normal =>
    obtain ⟨n', hlt, hI'⟩ := hq
    exact show (∃ n, I n a' w') ∧ leastOf (fun n => I n a' w') < leastOf (fun n => I n a w) from ⟨⟨n', hI'⟩, Nat.lt_of_le_of_lt ((leastOf_spec ⟨n', hI'⟩).2 n' hI') hlt⟩
  | exit id => exact hq
  | goto l => exact hq
  | ret => exact hq
  | panic ch => exact hq
  | outgrown => exact hq
section
variable {P : Program} {N : Nat} {B : Nat} {w0 : World} {ds : List Deferred} {Q : Exit → Act → World → Prop} {F : Fr} {L : Lo} {r : Option Nat} {n : Nat}
theorem XR'.loopk {c : Code} {σ : Type} (ts : List Nat) {G0 : Fr} (hk : keepO F ts = some G0) (G : σ → Fr) (M : σ → Lo) (W : σ → World) (pre : σ → Prop) (μ : σ → Nat) (s0 : σ)
    (h0 : pre s0) (hG : Sub (G s0) F) (hM : ∀ w, Sys B w0 L w → Sys B (W s0) (M s0) w)
    (round : ∀ s, pre s → XR' P N B (W s) ds (Exit.then (fun a w => ∃ s', pre s' ∧ μ s' < μ s ∧ Fits N ds (G s' ++ G0) a ∧ Sys B (W s') (M s') w) Q) r n c (G s ++ G0) (M s)) :
    XR' P N B w0 ds Q r n (.loop c) F L := by
  refine ⟨fun a w hf hs => ?_⟩
  refine wpIn_loop_ghost (fun n a w => ∃ s, μ s = n ∧ pre s ∧ Fits N ds (G s ++ G0) a ∧ Sys B (W s) (M s) w) (μ s0) ⟨s0, rfl, h0, (hG.append (keepO_sub ts G0 hk)).fits hf, hM w hs⟩ ?_
  rintro n a w ⟨s, rfl, hp, hf, hs⟩
  refine wpIn_mono ((round s hp).run a w hf hs) fun e a' w' q => ?_
  cases e with
  | normal =>
    obtain ⟨s', hp', hlt, hf', hs'⟩ := q
    exact ⟨μ s', hlt, s', rfl, hp', hf', hs'⟩
  | exit id => exact q
  | goto l => exact q
  | ret => exact q
  | panic ch => exact q
  | outgrown => exact q
end
end X
namespace Bs
open X
structure Cha where
  name : ByteArray
  delay : Int
  room : Int
structure Twn where
  name : ByteArray
  pol : Int
  travel : Int
  lead : Int
  chs : List Int
structure ATk where
  pol : Int
  cha : List Cha
  twn : List Twn
  flo : List (List Int)
structure Sea where
  c : Int
  s : Int
  n : Int
  deriving DecidableEq
def c0 : Cha := ⟨⟨#[]⟩, 0, 0⟩
def w0n : Twn := ⟨⟨#[]⟩, 0, 0, 0, []⟩
def s00 : Sea := ⟨0, 0, 0⟩
def eachE {α : Type} (name : α → ByteArray) (rest : α → Int) (l : List α) (i : Nat) : Int :=
  match l[i]? with
  | none => 0
  | some x => if nameB (name x) = false then 6 else if (l.take i).any (fun y => decide (name y = name x)) then 5 else rest x
def chaE (x : Cha) : Int := if outB x.delay 0 50 || outB x.room 0 20 then 7 else 0
namespace ATk
variable (t : ATk)
def ch (c : Int) : Cha := t.cha[c.toNat]?.getD c0
def tw (i : Nat) : Twn := t.twn[i]?.getD w0n
def twnE (x : Twn) : Int :=
  if outB x.pol 0 (t.pol - 1) || x.chs.any (fun c => outB c 0 (t.cha.length - 1)) then 4
  else if ¬ x.chs.Nodup then 5
  else if outB x.travel 0 500 || outB x.lead 0 500 then 7 else 0
def floE (l : List Int) : Int := if (l.length : Int) ≠ t.pol then 2 else if l.any (fun n => outB n (-1) 200000) then 7 else 0
def alE : Int :=
  if outB t.pol 0 6 then 7 else if 4 < t.cha.length then 3 else
  match firstN (eachE Cha.name chaE t.cha) t.cha.length with
  | some i => eachE Cha.name chaE t.cha i
  | none => if 8 < t.twn.length then 3 else
    match firstN (eachE Twn.name t.twnE t.twn) t.twn.length with
    | some i => eachE Twn.name t.twnE t.twn i
    | none => if outB t.flo.length 1 8 then 3 else
      match firstN (fun i => t.floE (t.flo[i]?.getD [])) t.flo.length with
      | some i => t.floE (t.flo[i]?.getD [])
      | none => 0
def hits (i : Nat) : List Int := (t.flo.filter fun l => decide (0 ≤ at0 l (t.tw i).pol.toNat)).map fun l => at0 l (t.tw i).pol.toNat + (t.tw i).travel
def loL : List Int → Int
  | [] => 0
  | a :: r => r.foldl min a
def hiL : List Int → Int
  | [] => 0
  | a :: r => r.foldl max a
def wet : List Nat := (List.range t.twn.length).filter fun i => decide (0 < (t.hits i).length)
def act (i : Nat) : Int := loL (t.hits i) - (t.tw i).lead
def latest (i : Nat) (c : Int) : Int := min 200000 (t.act i - (t.ch c).delay)
def tickL (i : Nat) (s : Int) : List (Int × Int) := ((t.tw i).chs.filter fun c => decide (s ≤ t.latest i c)).map fun c => (c, s)
def places (now : Int) (W : Nat) (i : Nat) : List (Int × Int) := (List.range W).flatMap fun k => t.tickL i (now + (k : Nat))
def numbs (p : Int × Int) : List Sea := (List.range (t.ch p.1).room.toNat).map fun n => ⟨p.1, p.2, (n : Nat)⟩
def seas (now : Int) (W : Nat) (i : Nat) : List Sea := (t.places now W i).flatMap t.numbs
end ATk
structure Mps where
  tk : Sea → Option Nat
  st : Nat → Option Sea
def Mps.no : Mps := ⟨fun _ => none, fun _ => none⟩
def Mps.put (m : Mps) (s : Sea) (i : Nat) : Mps := ⟨fun x => if x = s then some i else m.tk x, fun j => if j = i then some s else m.st j⟩
def Mps.free (m : Mps) (i : Nat) : Mps := ⟨fun x => if x = (m.st i).getD s00 then none else m.tk x, fun j => if j = i then none else m.st j⟩
def goS (fx : Nat → Bool) (mv : Nat → List Sea × Mps → Bool × List Sea × Mps) (i : Nat) : List Sea → List Sea × Mps → Bool × List Sea × Mps
  | [], z => (false, z)
  | s :: r, z => if z.1.contains s then goS fx mv i r z else
    match z.2.tk s with
    | none => (true, s :: z.1, z.2.put s i)
    | some o => if fx o then goS fx mv i r (s :: z.1, z.2) else
      if (mv o (s :: z.1, z.2)).1 then (true, (mv o (s :: z.1, z.2)).2.1, (mv o (s :: z.1, z.2)).2.2.put s i) else goS fx mv i r (mv o (s :: z.1, z.2)).2
def move (fx : Nat → Bool) (S : Nat → List Sea) : Nat → Nat → List Sea × Mps → Bool × List Sea × Mps
  | 0, _, z => (false, z)
  | f + 1, i, z => goS fx (move fx S f) i (S i) z
def fuel (S : Nat → List Sea) (l : List Nat) : Nat := (l.flatMap S).length + 1
def settle (fx : Nat → Bool) (S : Nat → List Sea) (l : List Nat) (i : Nat) (m : Mps) : Bool × Mps :=
  ((move fx S (fuel S l) i ([], m)).1, (move fx S (fuel S l) i ([], m)).2.2)
def tryL (S : Nat → List Sea) (l : List Nat) (i : Nat) (fx : Nat → Bool) (m : Mps) : List Sea → Bool × (Nat → Bool) × Mps
  | [] => (false, fx, m)
  | s :: r => match m.tk s with
    | none => (true, fun j => decide (j = i) || fx j, (m.free i).put s i)
    | some o => if fx o then tryL S l i fx m r else
      if o = i then (true, fun j => decide (j = i) || fx j, (m.free i).put s i) else
      if (settle (fun j => decide (j = i) || fx j) S l o (((m.free i).free o).put s i)).1 then (true, fun j => decide (j = i) || fx j, (settle (fun j => decide (j = i) || fx j) S l o (((m.free i).free o).put s i)).2)
      else (false, fun j => !decide (j = i) && fx j, m)
namespace ATk
variable (t : ATk)
def tryP (now : Int) (i : Nat) : List (Int × Int) → (Nat → Bool) × Mps → (Nat → Bool) × Mps
  | [], z => z
  | p :: r, z => if (tryL (t.seas now t.wet.length) t.wet i z.1 z.2 (t.numbs p)).1 then (tryL (t.seas now t.wet.length) t.wet i z.1 z.2 (t.numbs p)).2 else tryP now i r (tryL (t.seas now t.wet.length) t.wet i z.1 z.2 (t.numbs p)).2
def setAll (now : Int) : List Nat → Mps → Option Mps
  | [], m => some m
  | i :: r, m => if (settle (fun _ => false) (t.seas now t.wet.length) t.wet i m).1 then setAll now r (settle (fun _ => false) (t.seas now t.wet.length) t.wet i m).2 else none
def slotOf (i : Nat) (m : Mps) : Int × Int × Int := ((i : Nat), ((m.st i).getD s00).c, ((m.st i).getD s00).s)
def setSlots (now : Int) : List Nat → (Nat → Bool) × Mps → List (Int × Int × Int)
  | [], _ => []
  | i :: r, z => slotOf i (t.tryP now i (t.places now t.wet.length i) z).2 :: setSlots now r (t.tryP now i (t.places now t.wet.length i) z)
def atE (now : Int) : Int := if t.alE ≠ 0 then t.alE else if outB now 0 200000 then 7 else 0
def planO (now : Int) : Option Mps := t.setAll now t.wet Mps.no
def planE (now : Int) : Int := if t.atE now ≠ 0 then t.atE now else if (t.planO now).isSome then 0 else 9
def planL (now : Int) : List (Int × Int × Int) := if t.planE now ≠ 0 then [] else t.setSlots now t.wet (fun _ => false, (t.planO now).getD Mps.no)
def most (now : Int) (l : List Nat) (c : Nat) : Int := (l.filter fun i => (t.tw i).chs.contains (c : Int)).foldl (fun n i => max n (t.latest i (c : Int) - now + 1)) 0
def slots (now : Int) (l : List Nat) : Int := ((List.range t.cha.length).map fun c => t.most now l c * (t.ch (c : Int)).room).foldl (· + ·) 0
end ATk
end Bs
namespace Bs
open X
section
variable {S : Nat → List Sea} {fx : Nat → Bool} {m m' m'' : Mps} {i j f : Nat} {s : Sea} {z : List Sea × Mps} {l : List Sea}
def HasS (S : Nat → List Sea) (m : Mps) (j : Nat) : Prop := ∃ s, m.st j = some s ∧ s ∈ S j
def KeptS (S : Nat → List Sea) (m m' : Mps) : Prop := ∀ j, m'.st j = m.st j ∨ HasS S m' j
theorem KeptS.refl (m : Mps) : KeptS S m m := fun _ => .inl rfl
theorem KeptS.trans (h : KeptS S m m') (k : KeptS S m' m'') : KeptS S m m'' := fun j => by
  rcases k j with e | e
  · rcases h j with e' | ⟨s, e1, e2⟩
    · exact .inl (e.trans e')
    · exact .inr ⟨s, e.trans e1, e2⟩
  · exact .inr e
theorem KeptS.put (hs : s ∈ S i) : KeptS S m (m.put s i) := fun j => by
  by_cases e : j = i
  · subst e; exact .inr ⟨s, by simp [Mps.put], hs⟩
  · exact .inl (by simp [Mps.put, e])
theorem HasS.put (hs : s ∈ S i) : HasS S (m.put s i) i := ⟨s, by simp [Mps.put], hs⟩
theorem HasS.kept (h : HasS S m j) (k : KeptS S m m') : HasS S m' j := by
  rcases k j with e | e
  · obtain ⟨s, e1, e2⟩ := h; exact ⟨s, e.trans e1, e2⟩
  · exact e
theorem goS_kept {mv : Nat → List Sea × Mps → Bool × List Sea × Mps} (hmv : ∀ o z, KeptS S z.2 (mv o z).2.2) : ∀ (l : List Sea) (z : List Sea × Mps), (∀ s, s ∈ l → s ∈ S i) →
    KeptS S z.2 (goS fx mv i l z).2.2 ∧ ((goS fx mv i l z).1 = true → HasS S (goS fx mv i l z).2.2 i) := by
  intro l
  induction l with
  | nil => exact fun z _ => ⟨KeptS.refl _, fun h => by cases h⟩
  | cons s r ih =>
    intro z hl
    have hr := fun x hx => hl x (.tail _ hx)
    have hs := hl s (.head _)
    unfold goS
    split
    · exact ih z hr
    · split
      · exact ⟨KeptS.put hs, fun _ => HasS.put hs⟩
      · rename_i o _
        split
        · exact ih (s :: z.1, z.2) hr
        · have h1 := hmv o (s :: z.1, z.2)
          split
          · exact ⟨h1.trans (KeptS.put hs), fun _ => HasS.put hs⟩
          · have h2 := ih (mv o (s :: z.1, z.2)).2 hr
            exact ⟨h1.trans h2.1, h2.2⟩
theorem move_kept : ∀ (f : Nat) (i : Nat) (z : List Sea × Mps), KeptS S z.2 (move fx S f i z).2.2 ∧ ((move fx S f i z).1 = true → HasS S (move fx S f i z).2.2 i) := by
  intro f
  induction f with
  | zero => exact fun i z => ⟨KeptS.refl _, fun h => by cases h⟩
  | succ f ih => exact fun i z => goS_kept (fun o z => (ih o z).1) (S i) z (fun _ h => h)
theorem settle_kept {l : List Nat} : KeptS S m (settle fx S l i m).2 ∧ ((settle fx S l i m).1 = true → HasS S (settle fx S l i m).2 i) := move_kept (fuel S l) i ([], m)
theorem st_put_ne (h : j ≠ i) : (m.put s i).st j = m.st j := by simp [Mps.put, h]
theorem st_free_ne (h : j ≠ i) : (m.free i).st j = m.st j := by simp [Mps.free, h]
theorem tryL_has {q : List Nat} {P : Nat → Prop} (hP : ∀ j, P j → HasS S m j) (hi : P i) : ∀ l : List Sea, (∀ s, s ∈ l → s ∈ S i) → ∀ j, P j → HasS S (tryL S q i fx m l).2.2 j := by
  intro l
  induction l with
  | nil => exact fun _ => hP
  | cons s r ih =>
    intro hl j hj
    have hr := fun x hx => hl x (.tail _ hx)
    have hs := hl s (.head _)
    have h0 : ∀ j, P j → j ≠ i → HasS S ((m.free i).put s i) j := fun j hj hn => by
      obtain ⟨x, e1, e2⟩ := hP j hj
      exact ⟨x, by rw [st_put_ne hn, st_free_ne hn]; exact e1, e2⟩
    have h1 : ∀ j, P j → HasS S ((m.free i).put s i) j := fun j hj => by
      by_cases e : j = i
      · subst e; exact HasS.put hs
      · exact h0 j hj e
    unfold tryL
    split
    · exact h1 j hj
    · rename_i o _
      split
      · exact ih hr j hj
      · split
        · exact h1 j hj
        · rename_i hoi
          split
          · rename_i hb
            have hk := settle_kept (S := S) (fx := fun j => decide (j = i) || fx j) (m := ((m.free i).free o).put s i) (i := o) (l := q)
            by_cases e : j = o
            · subst e; exact hk.2 hb
            · refine HasS.kept ?_ hk.1
              by_cases e2 : j = i
              · subst e2; exact HasS.put hs
              · obtain ⟨x, e1, e3⟩ := hP j hj
                exact ⟨x, by rw [st_put_ne e2, st_free_ne e, st_free_ne e2]; exact e1, e3⟩
          · exact hP j hj
end
namespace ATk
variable {t : ATk} {now : Int}
theorem numbs_sub {i : Nat} {p : Int × Int} {W : Nat} (h : p ∈ t.places now W i) : ∀ s, s ∈ t.numbs p → s ∈ t.seas now W i := fun s hs => List.mem_flatMap.2 ⟨p, h, hs⟩
theorem tryP_has {i : Nat} {P : Nat → Prop} (hi : P i) : ∀ (l : List (Int × Int)) (z : (Nat → Bool) × Mps), (∀ p, p ∈ l → p ∈ t.places now t.wet.length i) → (∀ j, P j → HasS (t.seas now t.wet.length) z.2 j) → ∀ j, P j → HasS (t.seas now t.wet.length) (t.tryP now i l z).2 j := by
  intro l
  induction l with
  | nil => exact fun _ _ h => h
  | cons p r ih =>
    intro z hl hz
    have h1 := tryL_has (fx := z.1) (q := t.wet) hz hi (t.numbs p) (numbs_sub (hl p (.head _)))
    unfold tryP
    split
    · exact h1
    · exact ih _ (fun x hx => hl x (.tail _ hx)) h1
theorem setAll_has : ∀ (l : List Nat) (m m' : Mps) (P : Nat → Prop), (∀ j, P j → HasS (t.seas now t.wet.length) m j) → t.setAll now l m = some m' → ∀ j, (P j ∨ j ∈ l) → HasS (t.seas now t.wet.length) m' j := by
  intro l
  induction l with
  | nil =>
    intro m m' P hP h j hj
    unfold setAll at h
    cases h
    exact hP j (hj.resolve_right (by simp))
  | cons i r ih =>
    intro m m' P hP h j hj
    unfold setAll at h
    split at h
    · rename_i hb
      have hk := settle_kept (S := t.seas now t.wet.length) (fx := fun _ => false) (m := m) (i := i) (l := t.wet)
      refine ih _ m' (fun j => P j ∨ j = i) (fun j hj => ?_) h j ?_
      · rcases hj with hj | rfl
        · exact (hP j hj).kept hk.1
        · exact hk.2 hb
      · rcases hj with hj | hj
        · exact .inl (.inl hj)
        · rcases List.mem_cons.1 hj with rfl | hj
          · exact .inl (.inr rfl)
          · exact .inr hj
    · cases h
theorem setSlots_of {P : Nat → Prop} : ∀ (l : List Nat) (z : (Nat → Bool) × Mps), (∀ j, j ∈ l → P j) → (∀ j, P j → HasS (t.seas now t.wet.length) z.2 j) →
    (t.setSlots now l z).length = l.length ∧ ∀ k : Nat, k < l.length → ∃ j c s, l[k]? = some j ∧ (t.setSlots now l z)[k]? = some ((j : Int), c, s) ∧ (c, s) ∈ t.places now t.wet.length j := by
  intro l
  induction l with
  | nil => exact fun z _ _ => ⟨rfl, fun k hk => by cases hk⟩
  | cons i r ih =>
    intro z hl hz
    have h1 := tryP_has (hl i (.head _)) (t.places now t.wet.length i) z (fun _ h => h) hz
    obtain ⟨h2, h3⟩ := ih (t.tryP now i (t.places now t.wet.length i) z) (fun j hj => hl j (.tail _ hj)) h1
    unfold setSlots
    refine ⟨by simp [h2], fun k hk => ?_⟩
    cases k with
    | zero =>
      obtain ⟨s, e1, e2⟩ := h1 i (hl i (.head _))
      obtain ⟨p, hp, hs⟩ := List.mem_flatMap.1 e2
      obtain ⟨n, _, rfl⟩ := List.mem_map.1 hs
      exact ⟨i, p.1, p.2, rfl, by simp [slotOf, e1], hp⟩
    | succ k =>
      obtain ⟨j, c, s, a1, a2, a3⟩ := h3 k (by simpa using hk)
      exact ⟨j, c, s, by simpa using a1, by simpa using a2, a3⟩
theorem places_of {W i : Nat} {c s : Int} (h : (c, s) ∈ t.places now W i) : c ∈ (t.tw i).chs ∧ now ≤ s ∧ s ≤ t.latest i c := by
  obtain ⟨k, _, h1⟩ := List.mem_flatMap.1 h
  obtain ⟨c', h2, e⟩ := List.mem_map.1 h1
  obtain ⟨h3, h4⟩ := List.mem_filter.1 h2
  cases e
  exact ⟨h3, by omega, by simpa using h4⟩
theorem planL_of (h : t.planE now = 0) : (t.planL now).length = t.wet.length ∧ ∀ k : Nat, k < t.wet.length → ∃ j c s, t.wet[k]? = some j ∧ (t.planL now)[k]? = some ((j : Int), c, s) ∧ (c, s) ∈ t.places now t.wet.length j := by
  have hne : ¬ t.planE now ≠ 0 := fun h9 => h9 h
  have hso : ∃ m, t.planO now = some m := by
    unfold planE at h
    split at h
    · rename_i h1; exact absurd h h1
    · split at h
      · rename_i h2; exact Option.isSome_iff_exists.1 h2
      · cases h
  obtain ⟨m, hm⟩ := hso
  unfold planL
  rw [if_neg hne, hm]
  exact setSlots_of (P := fun j => j ∈ t.wet) t.wet _ (fun _ h => h) (fun j hj => setAll_has t.wet Mps.no m (fun _ => False) (fun _ h => h.elim) hm j (.inr hj))
end ATk
end Bs
namespace Bs
open X
theorem nodup_le {α : Type} [DecidableEq α] : ∀ (l m : List α), l.Nodup → (∀ x, x ∈ l → x ∈ m) → l.length ≤ m.length := by
  intro l
  induction l with
  | nil => exact fun m _ _ => Nat.zero_le _
  | cons a r ih =>
    intro m hn hs
    obtain ⟨h1, h2⟩ := List.nodup_cons.1 hn
    have ha := hs a (.head _)
    have h3 := ih (m.erase a) h2 (fun x hx => (List.mem_erase_of_ne (fun e => by subst e; exact h1 hx)).2 (hs x (.tail _ hx)))
    have h4 := List.length_erase_of_mem ha
    have h5 := List.length_pos_of_mem ha
    simp only [List.length_cons]
    omega
section
variable {S : Nat → List Sea} {U : List Sea} {m : Mps}
def left (U tr : List Sea) : Nat := (U.filter fun s => !tr.contains s).length
theorem left_le {tr tr' : List Sea} (h : ∀ s, s ∈ tr → s ∈ tr') : left U tr' ≤ left U tr := by
  unfold left
  induction U with
  | nil => exact Nat.le_refl _
  | cons a r ih =>
    simp only [List.filter_cons]
    by_cases h1 : a ∈ tr
    · have h2 := h a h1
      simp only [List.contains_eq_mem, h1, h2, decide_true, Bool.not_true, Bool.false_eq_true, if_false]
      simpa using ih
    · by_cases h2 : a ∈ tr'
      · simp only [List.contains_eq_mem, h1, h2, decide_true, decide_false, Bool.not_true, Bool.not_false, Bool.false_eq_true, if_false, if_true, List.length_cons]
        have := ih
        simp only [List.contains_eq_mem] at this
        omega
      · simp only [List.contains_eq_mem, h1, h2, decide_false, Bool.not_false, if_true, List.length_cons]
        have := ih
        simp only [List.contains_eq_mem] at this
        omega
theorem left_lt {tr : List Sea} {s : Sea} (hU : s ∈ U) (hs : s ∉ tr) : left U (s :: tr) < left U tr := by
  unfold left
  induction U with
  | nil => cases hU
  | cons a r ih =>
    have hle := left_le (U := r) (tr := tr) (tr' := s :: tr) (fun x hx => .tail _ hx)
    unfold left at hle
    simp only [List.filter_cons]
    by_cases e : a = s
    · subst e
      simp only [List.contains_eq_mem, hs, decide_false, Bool.not_false, if_true, List.mem_cons, true_or, decide_true, Bool.not_true, Bool.false_eq_true, if_false, List.length_cons]
      simp only [List.contains_eq_mem, List.mem_cons] at hle
      omega
    · have hr : s ∈ r := (List.mem_cons.1 hU).resolve_left (fun h => e h.symm)
      have := ih hr
      simp only [List.contains_eq_mem, List.mem_cons] at this ⊢
      by_cases h1 : a ∈ tr
      · simp only [h1, or_true, decide_true, Bool.not_true, Bool.false_eq_true, if_false]
        exact this
      · simp only [h1, e, or_self, decide_false, Bool.not_false, if_true, List.length_cons]
        omega
structure FailS (S : Nat → List Sea) (i : Nat) (l : List Sea) (z z' : List Sea × Mps) : Prop where
  same : z'.2 = z.2
  sub : ∀ s, s ∈ z.1 → s ∈ z'.1
  all : ∀ s, s ∈ l → s ∈ z'.1
  clo : ∀ s, s ∈ z'.1 → s ∈ z.1 ∨ ∃ o, z.2.tk s = some o ∧ ∀ x, x ∈ S o → x ∈ z'.1
  nd : z.1.Nodup → z'.1.Nodup
theorem goS_fail {f i : Nat} {mv : Nat → List Sea × Mps → Bool × List Sea × Mps} (hU : ∀ s o, m.tk s = some o → ∀ x, x ∈ S o → x ∈ U)
    (hmv : ∀ o tr, (∀ x, x ∈ S o → x ∈ U) → left U tr < f → (mv o (tr, m)).1 = false → FailS S o (S o) (tr, m) (mv o (tr, m)).2) :
    ∀ (l : List Sea) (tr : List Sea), (∀ s, s ∈ l → s ∈ U) → left U tr < f + 1 → (goS (fun _ => false) mv i l (tr, m)).1 = false → FailS S i l (tr, m) (goS (fun _ => false) mv i l (tr, m)).2 := by
  intro l
  induction l with
  | nil => exact fun tr _ _ _ => ⟨rfl, fun _ h => h, fun _ h => (by cases h), fun _ h => .inl h, fun h => h⟩
  | cons s r ih =>
    intro tr hl hf hb
    have hr := fun x hx => hl x (.tail _ hx)
    have hs := hl s (.head _)
    unfold goS at hb ⊢
    by_cases c1 : s ∈ tr
    · simp only [List.contains_eq_mem, c1, decide_true, if_true] at hb ⊢
      have h := ih tr hr hf hb
      exact ⟨h.same, h.sub, fun x hx => by
        rcases List.mem_cons.1 hx with rfl | hx
        · exact h.sub _ c1
        · exact h.all x hx, h.clo, h.nd⟩
    · simp only [List.contains_eq_mem, c1, decide_false, Bool.false_eq_true, if_false] at hb ⊢
      cases ht : m.tk s with
      | none => rw [ht] at hb; cases hb
      | some o =>
        rw [ht] at hb
        simp only [ht, Bool.false_eq_true, if_false] at hb ⊢
        have hlt := left_lt hs c1
        by_cases c2 : (mv o (s :: tr, m)).1 = true
        · rw [if_pos c2] at hb; cases hb
        · rw [if_neg c2] at hb ⊢
          have h1 := hmv o (s :: tr) (hU s o ht) (by omega) (by simpa using c2)
          obtain ⟨tr2, m2, hz⟩ : ∃ tr2 m2, (mv o (s :: tr, m)).2 = (tr2, m2) := ⟨_, _, rfl⟩
          rw [hz] at h1 hb ⊢
          have hm : m2 = m := h1.same
          subst hm
          have hsub := h1.sub
          simp only at hsub
          have h2 := ih tr2 hr (by have := left_le (U := U) hsub; have := left_lt hs c1; omega) hb
          refine ⟨h2.same, fun x hx => h2.sub x (hsub x (.tail _ hx)), fun x hx => ?_, fun x hx => ?_, fun hn => h2.nd (h1.nd ?_)⟩
          · rcases List.mem_cons.1 hx with rfl | hx
            · exact h2.sub _ (hsub _ (.head _))
            · exact h2.all x hx
          · rcases h2.clo x hx with h3 | h3
            · rcases h1.clo x h3 with h4 | ⟨o', h4, h5⟩
              · rcases List.mem_cons.1 h4 with rfl | h4
                · exact .inr ⟨o, ht, fun y hy => h2.sub y (h1.all y hy)⟩
                · exact .inl h4
              · exact .inr ⟨o', h4, fun y hy => h2.sub y (h5 y hy)⟩
            · exact .inr h3
          · exact List.nodup_cons.2 ⟨c1, hn⟩
theorem move_fail (hU : ∀ s o, m.tk s = some o → ∀ x, x ∈ S o → x ∈ U) : ∀ (f i : Nat) (tr : List Sea), (∀ x, x ∈ S i → x ∈ U) → left U tr < f → (move (fun _ => false) S f i (tr, m)).1 = false → FailS S i (S i) (tr, m) (move (fun _ => false) S f i (tr, m)).2 := by
  intro f
  induction f with
  | zero => exact fun i tr _ h => absurd h (Nat.not_lt_zero _)
  | succ f ih => exact fun i tr h1 h2 h3 => goS_fail hU (fun o tr h4 h5 h6 => ih o tr h4 h5 h6) (S i) tr h1 h2 h3
def InvS (m : Mps) : Prop := ∀ s i, m.tk s = some i → m.st i = some s
structure DoneS (i : Nat) (z z' : List Sea × Mps) : Prop where
  inv : ∀ s j, z'.2.tk s = some j → z'.2.st j = some s ∨ (j = i ∧ z.2.st i = some s)
  keep : ∀ j, j ≠ i → (∀ s, z.2.st j = some s → s ∈ z.1) → z'.2.st j = z.2.st j
  dom : ∀ s j, z'.2.tk s = some j → j = i ∨ ∃ s0, z.2.tk s0 = some j
  st : ∀ j, j ≠ i → z.2.st j = none → z'.2.st j = none
theorem goS_done {i : Nat} {mv : Nat → List Sea × Mps → Bool × List Sea × Mps} (hI : InvS m)
    (hmv : ∀ o tr, (∀ s, m.st o = some s → s ∈ tr) → (mv o (tr, m)).1 = true → DoneS o (tr, m) (mv o (tr, m)).2) (hmf : ∀ o tr, (mv o (tr, m)).1 = false → (mv o (tr, m)).2.2 = m ∧ ∀ s, s ∈ tr → s ∈ (mv o (tr, m)).2.1) :
    ∀ (l : List Sea) (tr : List Sea), (∀ s, m.st i = some s → s ∈ tr) → (goS (fun _ => false) mv i l (tr, m)).1 = true → DoneS i (tr, m) (goS (fun _ => false) mv i l (tr, m)).2 := by
  intro l
  induction l with
  | nil => exact fun tr _ h => by cases h
  | cons s r ih =>
    intro tr hi hb
    unfold goS at hb ⊢
    by_cases c1 : s ∈ tr
    · simp only [List.contains_eq_mem, c1, decide_true, if_true] at hb ⊢
      exact ih tr hi hb
    · simp only [List.contains_eq_mem, c1, decide_false, Bool.false_eq_true, if_false] at hb ⊢
      cases ht : m.tk s with
      | none =>
        simp only [ht] at hb ⊢
        refine ⟨fun x j hx => ?_, fun j hj _ => by simp [Mps.put, hj], fun x j hx => ?_, fun j hj h => by simp only at h; simp [Mps.put, hj, h]⟩
        · simp only [Mps.put] at hx ⊢
          by_cases e : x = s
          · rw [if_pos e] at hx; cases hx; left; rw [if_pos rfl, e]
          · rw [if_neg e] at hx
            have h1 := hI x j hx
            by_cases e2 : j = i
            · right; exact ⟨e2, e2 ▸ h1⟩
            · left; rw [if_neg e2]; exact h1
        · simp only [Mps.put] at hx
          by_cases e : x = s
          · rw [if_pos e] at hx; cases hx; exact .inl rfl
          · rw [if_neg e] at hx; exact .inr ⟨x, hx⟩
      | some o =>
        simp only [ht, Bool.false_eq_true, if_false] at hb ⊢
        have hso := hI s o ht
        by_cases c2 : (mv o (s :: tr, m)).1 = true
        · rw [if_pos c2]
          have hio : o ≠ i := fun e => c1 (hi s (e ▸ hso))
          have h1 := hmv o (s :: tr) (fun x hx => by rw [hso] at hx; cases hx; exact .head _) c2
          obtain ⟨tr2, m2, hz⟩ : ∃ tr2 m2, (mv o (s :: tr, m)).2 = (tr2, m2) := ⟨_, _, rfl⟩
          rw [hz] at h1 ⊢
          have hki : m2.st i = m.st i := h1.keep i (fun e => hio e.symm) (fun x hx => .tail _ (hi x hx))
          refine ⟨fun x j hx => ?_, fun j hj hjs => ?_, fun x j hx => ?_, fun j hj hn => ?_⟩
          · simp only [Mps.put] at hx ⊢
            by_cases e : x = s
            · rw [if_pos e] at hx; cases hx; left; rw [if_pos rfl, e]
            · rw [if_neg e] at hx
              rcases h1.inv x j hx with h2 | ⟨rfl, h2⟩
              · by_cases e2 : j = i
                · right; refine ⟨e2, ?_⟩
                  simp only at h2
                  rw [e2, hki] at h2; exact h2
                · left; rw [if_neg e2]; exact h2
              · simp only at h2
                rw [hso] at h2; cases h2; exact absurd rfl e
          · simp only [Mps.put]; rw [if_neg hj]
            by_cases e : j = o
            · subst e; exact absurd (hjs s hso) c1
            · exact h1.keep j e (fun x hx => .tail _ (hjs x hx))
          · simp only [Mps.put] at hx
            by_cases e : x = s
            · rw [if_pos e] at hx; cases hx; exact .inl rfl
            · rw [if_neg e] at hx
              rcases h1.dom x j hx with rfl | h2
              · exact .inr ⟨s, ht⟩
              · exact .inr h2
          · simp only [Mps.put]; rw [if_neg hj]
            by_cases e : j = o
            · subst e; simp only at hn; rw [hso] at hn; cases hn
            · exact h1.st j e hn
        · rw [if_neg c2] at hb ⊢
          obtain ⟨hm, hsub⟩ := hmf o (s :: tr) (by simpa using c2)
          obtain ⟨tr2, m2, hz⟩ : ∃ tr2 m2, (mv o (s :: tr, m)).2 = (tr2, m2) := ⟨_, _, rfl⟩
          rw [hz] at hb hm hsub ⊢
          simp only at hm hsub
          subst hm
          have h2 := ih tr2 (fun x hx => hsub x (.tail _ (hi x hx))) hb
          exact ⟨h2.inv, fun j hj hjs => h2.keep j hj (fun x hx => hsub x (.tail _ (hjs x hx))), h2.dom, h2.st⟩
theorem goS_same {i : Nat} {mv : Nat → List Sea × Mps → Bool × List Sea × Mps} (hmf : ∀ o tr, (mv o (tr, m)).1 = false → (mv o (tr, m)).2.2 = m ∧ ∀ s, s ∈ tr → s ∈ (mv o (tr, m)).2.1) :
    ∀ (l : List Sea) (tr : List Sea), (goS (fun _ => false) mv i l (tr, m)).1 = false → (goS (fun _ => false) mv i l (tr, m)).2.2 = m ∧ ∀ s, s ∈ tr → s ∈ (goS (fun _ => false) mv i l (tr, m)).2.1 := by
  intro l
  induction l with
  | nil => exact fun tr _ => ⟨rfl, fun _ h => h⟩
  | cons s r ih =>
    intro tr hb
    unfold goS at hb ⊢
    by_cases c1 : s ∈ tr
    · simp only [List.contains_eq_mem, c1, decide_true, if_true] at hb ⊢
      exact ih tr hb
    · simp only [List.contains_eq_mem, c1, decide_false, Bool.false_eq_true, if_false] at hb ⊢
      cases ht : m.tk s with
      | none => simp only [ht] at hb; cases hb
      | some o =>
        simp only [ht, Bool.false_eq_true, if_false] at hb ⊢
        by_cases c2 : (mv o (s :: tr, m)).1 = true
        · rw [if_pos c2] at hb; cases hb
        · rw [if_neg c2] at hb ⊢
          obtain ⟨hm, hsub⟩ := hmf o (s :: tr) (by simpa using c2)
          obtain ⟨tr2, m2, hz⟩ : ∃ tr2 m2, (mv o (s :: tr, m)).2 = (tr2, m2) := ⟨_, _, rfl⟩
          rw [hz] at hb hm hsub ⊢
          simp only at hm hsub
          subst hm
          obtain ⟨h2, h3⟩ := ih tr2 hb
          exact ⟨h2, fun x hx => h3 x (hsub x (.tail _ hx))⟩
theorem move_same : ∀ (f i : Nat) (tr : List Sea), (move (fun _ => false) S f i (tr, m)).1 = false → (move (fun _ => false) S f i (tr, m)).2.2 = m ∧ ∀ s, s ∈ tr → s ∈ (move (fun _ => false) S f i (tr, m)).2.1 := by
  intro f
  induction f with
  | zero => exact fun i tr _ => ⟨rfl, fun _ h => h⟩
  | succ f ih => exact fun i tr h => goS_same ih (S i) tr h
theorem move_done (hI : InvS m) : ∀ (f i : Nat) (tr : List Sea), (∀ s, m.st i = some s → s ∈ tr) → (move (fun _ => false) S f i (tr, m)).1 = true → DoneS i (tr, m) (move (fun _ => false) S f i (tr, m)).2 := by
  intro f
  induction f with
  | zero => exact fun i tr _ h => by cases h
  | succ f ih => exact fun i tr h1 h2 => goS_done hI (fun o tr h3 h4 => ih o tr h3 h4) (fun o tr h => move_same f o tr h) (S i) tr h1 h2
end
end Bs
namespace Bs
open X
theorem firstN_valA {f : Nat → Int} {n i : Nat} (h : firstN f n = some i) : i < n ∧ f i ≠ 0 := by
  induction n with
  | zero => cases h
  | succ n ih =>
    simp only [firstN] at h
    cases hx : firstN f n with
    | some j =>
      rw [hx] at h
      cases h
      have := ih hx
      exact ⟨by omega, this.2⟩
    | none =>
      rw [hx] at h
      simp only at h
      by_cases hf : f n = 0
      · rw [if_pos hf] at h; cases h
      · rw [if_neg hf] at h; cases h; exact ⟨by omega, hf⟩
structure AlOk (t : ATk) : Prop where
  pol : 0 ≤ t.pol ∧ t.pol ≤ 6
  n4 : t.cha.length ≤ 4
  cha : ∀ c, c < t.cha.length → (0 ≤ (t.ch (c : Nat)).delay ∧ (t.ch (c : Nat)).delay ≤ 50) ∧ 0 ≤ (t.ch (c : Nat)).room ∧ (t.ch (c : Nat)).room ≤ 20
  n8 : t.twn.length ≤ 8
  tpol : ∀ i, i < t.twn.length → 0 ≤ (t.tw i).pol ∧ (t.tw i).pol < t.pol
  tchs : ∀ i, i < t.twn.length → ∀ c, c ∈ (t.tw i).chs → 0 ≤ c ∧ c < t.cha.length
  ttr : ∀ i, i < t.twn.length → (0 ≤ (t.tw i).travel ∧ (t.tw i).travel ≤ 500) ∧ 0 ≤ (t.tw i).lead ∧ (t.tw i).lead ≤ 500
  fl : 1 ≤ t.flo.length ∧ t.flo.length ≤ 8
  flen : ∀ l, l ∈ t.flo → (l.length : Int) = t.pol
  fval : ∀ l, l ∈ t.flo → ∀ n, n ∈ l → -1 ≤ n ∧ n ≤ 200000
theorem eachE_0 {α : Type} {name : α → ByteArray} {rest : α → Int} {l : List α} {i : Nat} {x : α} (h : eachE name rest l i = 0) (hx : l[i]? = some x) : rest x = 0 := by
  unfold eachE at h
  rw [hx] at h
  simp only at h
  split at h
  · cases h
  · split at h
    · cases h
    · exact h
theorem alOk_of {t : ATk} (h : t.alE = 0) : AlOk t := by
  unfold ATk.alE at h
  split at h
  · cases h
  rename_i a1
  split at h
  · cases h
  rename_i a2
  cases b1 : firstN (eachE Cha.name chaE t.cha) t.cha.length with
  | some i => rw [b1] at h; simp only at h; exact absurd h (firstN_valA b1).2
  | none =>
  rw [b1] at h
  simp only at h
  split at h
  · cases h
  rename_i a3
  cases b2 : firstN (eachE Twn.name t.twnE t.twn) t.twn.length with
  | some i => rw [b2] at h; simp only at h; exact absurd h (firstN_valA b2).2
  | none =>
  rw [b2] at h
  simp only at h
  split at h
  · cases h
  rename_i a4
  cases b3 : firstN (fun i => t.floE (t.flo[i]?.getD [])) t.flo.length with
  | some i => rw [b3] at h; simp only at h; exact absurd h (firstN_valA b3).2
  | none =>
  have hcha : ∀ c, c < t.cha.length → chaE (t.ch (c : Nat)) = 0 := fun c hc => by
    have := firstN_none_iff b1 c hc
    have hx : t.cha[c]? = some (t.ch (c : Nat)) := by unfold ATk.ch; rw [show ((c : Nat) : Int).toNat = c from by omega, List.getElem?_eq_getElem hc]; rfl
    exact eachE_0 this hx
  have htwn : ∀ i, i < t.twn.length → t.twnE (t.tw i) = 0 := fun i hi => by
    have := firstN_none_iff b2 i hi
    have hx : t.twn[i]? = some (t.tw i) := by unfold ATk.tw; rw [List.getElem?_eq_getElem hi]; rfl
    exact eachE_0 this hx
  have hflo : ∀ l, l ∈ t.flo → t.floE l = 0 := fun l hl => by
    obtain ⟨i, hi, rfl⟩ := List.mem_iff_getElem.1 hl
    have := firstN_none_iff b3 i hi
    rw [List.getElem?_eq_getElem hi] at this
    exact this
  have hc2 : ∀ x, chaE x = 0 → (0 ≤ x.delay ∧ x.delay ≤ 50) ∧ 0 ≤ x.room ∧ x.room ≤ 20 := fun x hx => by
    unfold chaE at hx
    split at hx
    · cases hx
    · rename_i h9
      simp only [Bool.or_eq_true, not_or, Bool.not_eq_true] at h9
      exact ⟨outB_f.1 h9.1, outB_f.1 h9.2⟩
  have ht2 : ∀ x, t.twnE x = 0 → (0 ≤ x.pol ∧ x.pol < t.pol) ∧ (∀ c, c ∈ x.chs → 0 ≤ c ∧ c < t.cha.length) ∧ (0 ≤ x.travel ∧ x.travel ≤ 500) ∧ 0 ≤ x.lead ∧ x.lead ≤ 500 := fun x hx => by
    unfold ATk.twnE at hx
    split at hx
    · cases hx
    · rename_i h9
      split at hx
      · cases hx
      · split at hx
        · cases hx
        · rename_i h8
          simp only [Bool.or_eq_true, not_or, Bool.not_eq_true, List.any_eq_false] at h9 h8
          have k1 := outB_f.1 h9.1
          refine ⟨by omega, fun c hc => ?_, outB_f.1 h8.1, outB_f.1 h8.2⟩
          have k2 := outB_f.1 (show outB c 0 (t.cha.length - 1) = false by simpa using h9.2 c hc)
          omega
  have hf2 : ∀ l, t.floE l = 0 → (l.length : Int) = t.pol ∧ ∀ n, n ∈ l → -1 ≤ n ∧ n ≤ 200000 := fun l hl => by
    unfold ATk.floE at hl
    split at hl
    · cases hl
    · rename_i h9
      split at hl
      · cases hl
      · rename_i h8
        simp only [Bool.not_eq_true, List.any_eq_false] at h8
        refine ⟨Decidable.not_not.1 h9, fun n hn => outB_f.1 (show outB n (-1) 200000 = false by simpa using h8 n hn)⟩
  have k4 := outB_f.1 (show outB t.flo.length 1 8 = false by simpa using a4)
  exact ⟨outB_f.1 (by simpa using a1), by omega, fun c hc => hc2 _ (hcha c hc), by omega, fun i hi => (ht2 _ (htwn i hi)).1, fun i hi => (ht2 _ (htwn i hi)).2.1, fun i hi => (ht2 _ (htwn i hi)).2.2, by omega, fun l hl => (hf2 l (hflo l hl)).1, fun l hl => (hf2 l (hflo l hl)).2⟩
end Bs
namespace Bs
open X
theorem keys_sum (key : Sea → Int) (b : Int) (T : List Sea) : ∀ n : Nat, ((List.range n).map fun (k : Nat) => (T.filter fun x => decide (key x = b + (k : Nat))).length).sum = (T.filter fun x => decide (b ≤ key x ∧ key x < b + (n : Nat))).length := by
  intro n
  induction n with
  | zero =>
    rw [show (T.filter fun x => decide (b ≤ key x ∧ key x < b + ((0 : Nat) : Int))) = [] from List.filter_eq_nil_iff.2 fun x _ h => by have := of_decide_eq_true h; omega]
    rfl
  | succ n ih =>
    rw [List.range_succ, List.map_append, List.sum_append, ih]
    simp only [List.map_cons, List.map_nil, List.sum_cons, List.sum_nil, Nat.add_zero]
    clear ih
    induction T with
    | nil => rfl
    | cons a r ih =>
      simp only [List.filter_cons]
      by_cases h1 : key a = b + (n : Nat)
      · rw [if_neg (show ¬ decide (b ≤ key a ∧ key a < b + (n : Nat)) = true by simp; omega), if_pos (show decide (key a = b + (n : Nat)) = true from decide_eq_true h1), if_pos (show decide (b ≤ key a ∧ key a < b + ((n + 1 : Nat) : Int)) = true from decide_eq_true (by omega))]
        simp only [List.length_cons]
        omega
      · rw [if_neg (show ¬ decide (key a = b + (n : Nat)) = true by simpa using h1)]
        by_cases h2 : b ≤ key a ∧ key a < b + (n : Nat)
        · rw [if_pos (show decide (b ≤ key a ∧ key a < b + (n : Nat)) = true from decide_eq_true h2), if_pos (show decide (b ≤ key a ∧ key a < b + ((n + 1 : Nat) : Int)) = true from decide_eq_true (by omega))]
          simp only [List.length_cons]
          omega
        · rw [if_neg (show ¬ decide (b ≤ key a ∧ key a < b + (n : Nat)) = true from fun h => h2 (of_decide_eq_true h)), if_neg (show ¬ decide (b ≤ key a ∧ key a < b + ((n + 1 : Nat) : Int)) = true from fun h => h2 (by have := of_decide_eq_true h; omega))]
          exact ih
theorem keys_le (key : Sea → Int) (b : Int) (T : List Sea) (n : Nat) : ((List.range n).map fun (k : Nat) => (T.filter fun x => decide (key x = b + (k : Nat))).length).sum ≤ T.length := by
  rw [keys_sum]; exact List.length_filter_le _ _
theorem sum_ge (f : Nat → Nat) (r : Nat) : ∀ n : Nat, (∀ k, k < n → r ≤ f k) → n * r ≤ ((List.range n).map f).sum := by
  intro n
  induction n with
  | zero => intro _; simp
  | succ n ih =>
    intro h
    have h1 := ih (fun k hk => h k (by omega))
    have h2 := h n (by omega)
    rw [List.range_succ, List.map_append, List.sum_append, Nat.succ_mul]
    simp only [List.map_cons, List.map_nil, List.sum_cons, List.sum_nil, Nat.add_zero]
    omega
theorem sum_le_fold (f : Nat → Int) (g : Nat → Nat) : ∀ n : Nat, (∀ k, k < n → f k ≤ ((g k : Nat) : Int)) → ((List.range n).map f).foldl (fun x y => x + y) 0 ≤ ((((List.range n).map g).sum : Nat) : Int) := by
  intro n
  induction n with
  | zero => intro _; simp
  | succ n ih =>
    intro h
    have h1 := ih (fun k hk => h k (by omega))
    have h2 := h n (by omega)
    rw [List.range_succ, List.map_append, List.map_append, List.foldl_append, List.sum_append]
    simp only [List.map_cons, List.map_nil, List.foldl_cons, List.foldl_nil, List.sum_cons, List.sum_nil, Nat.add_zero]
    omega
theorem fold_max (g : Nat → Int) (l : List Nat) : ∀ a : Int, a ≤ l.foldl (fun n i => max n (g i)) a ∧ (l.foldl (fun n i => max n (g i)) a = a ∨ ∃ i, i ∈ l ∧ l.foldl (fun n i => max n (g i)) a = g i) := by
  induction l with
  | nil => exact fun a => ⟨Int.le_refl _, .inl rfl⟩
  | cons x r ih =>
    intro a
    obtain ⟨h1, h2⟩ := ih (max a (g x))
    simp only [List.foldl_cons]
    refine ⟨by omega, ?_⟩
    rcases h2 with h2 | ⟨i, hi, h2⟩
    · by_cases h3 : g x ≤ a
      · left; rw [h2]; omega
      · right; exact ⟨x, .head _, by rw [h2]; omega⟩
    · exact .inr ⟨i, .tail _ hi, h2⟩
namespace ATk
variable {t : ATk} {now : Int}
theorem wet_nodup : t.wet.Nodup := List.Nodup.sublist List.filter_sublist List.nodup_range
theorem wet_lt {i : Nat} (h : i ∈ t.wet) : i < t.twn.length := List.mem_range.1 (List.mem_filter.1 h).1
theorem slots_lt (ho : AlOk t) {q : List Nat} {T : List Sea} (hq : ∀ i, i ∈ q → i < t.twn.length) (hqw : q.length ≤ t.wet.length) (hT : T.length + 1 = q.length) (hS : ∀ i, i ∈ q → ∀ x, x ∈ t.seas now t.wet.length i → x ∈ T) : t.slots now q < q.length := by
  have hW : ∀ c, c < t.cha.length → t.most now q c * (t.ch (c : Int)).room ≤ ((T.filter fun x : Sea => decide (x.c = 0 + ((c : Nat) : Int))).length : Nat) := fun c hc => by
    obtain ⟨hm0, hm1⟩ := fold_max (fun i => t.latest i (c : Int) - now + 1) (q.filter fun i => (t.tw i).chs.contains (c : Int)) 0
    have hr := (ho.cha c hc).2
    obtain ⟨M, hM⟩ : ∃ M, M = t.most now q c := ⟨_, rfl⟩
    have hM0 : 0 ≤ M := by rw [hM]; exact hm0
    obtain ⟨r, hr2⟩ : ∃ r : Nat, (t.ch (c : Int)).room = r := ⟨(t.ch (c : Int)).room.toNat, by omega⟩
    rw [← hM, hr2]
    by_cases hM1 : M = 0
    · rw [hM1]; simp
    by_cases hr0 : r = 0
    · rw [hr0]; simp
    obtain ⟨i, hi, hiM⟩ := hm1.resolve_left (fun h => hM1 (by rw [hM]; exact h))
    obtain ⟨hiq, hic⟩ := List.mem_filter.1 hi
    have hic2 : (c : Int) ∈ (t.tw i).chs := by simpa using hic
    have hiM2 : M = t.latest i (c : Int) - now + 1 := by rw [hM]; exact hiM
    obtain ⟨M', hM'⟩ : ∃ M' : Nat, M = M' := ⟨M.toNat, by omega⟩
    have hin : ∀ k, k < min M' t.wet.length → r ≤ ((T.filter fun x : Sea => decide (x.c = 0 + ((c : Nat) : Int))).filter fun x : Sea => decide (x.s = now + ((k : Nat) : Int))).length := fun k hk => by
      have hl : ((List.range r).map fun n : Nat => (⟨(c : Int), now + (k : Nat), (n : Nat)⟩ : Sea)).length = r := by simp
      rw [← hl]
      refine nodup_le _ _ ?_ (fun x hx => ?_)
      · refine List.pairwise_map.2 (List.nodup_range.imp fun hn e => hn ?_)
        simp only [Sea.mk.injEq, Int.ofNat_inj] at e
        exact e.2.2
      · obtain ⟨n, hn, rfl⟩ := List.mem_map.1 hx
        have hn2 := List.mem_range.1 hn
        refine List.mem_filter.2 ⟨List.mem_filter.2 ⟨hS i hiq _ (List.mem_flatMap.2 ⟨((c : Int), now + (k : Nat)), List.mem_flatMap.2 ⟨k, List.mem_range.2 (by omega), List.mem_map.2 ⟨(c : Int), List.mem_filter.2 ⟨hic2, by simp only [decide_eq_true_eq]; omega⟩, rfl⟩⟩, List.mem_map.2 ⟨n, List.mem_range.2 (by rw [hr2]; simpa using hn2), rfl⟩⟩), by simp⟩, by simp⟩
    have h1 := sum_ge (fun k => ((T.filter fun x : Sea => decide (x.c = 0 + ((c : Nat) : Int))).filter fun x : Sea => decide (x.s = now + ((k : Nat) : Int))).length) r (min M' t.wet.length) hin
    have h2 := keys_le Sea.s now (T.filter fun x : Sea => decide (x.c = 0 + ((c : Nat) : Int))) (min M' t.wet.length)
    have h3 : min M' t.wet.length * r ≤ (T.filter fun x : Sea => decide (x.c = 0 + ((c : Nat) : Int))).length := Nat.le_trans h1 h2
    have h4 := List.length_filter_le (fun x : Sea => decide (x.c = 0 + ((c : Nat) : Int))) T
    by_cases h5 : M' ≤ t.wet.length
    · rw [Nat.min_eq_left h5] at h3
      rw [hM']
      exact_mod_cast h3
    · rw [Nat.min_eq_right (by omega)] at h3
      have h6 : t.wet.length ≤ t.wet.length * r := Nat.le_mul_of_pos_right _ (by omega)
      omega
  have h1 := sum_le_fold (fun c => t.most now q c * (t.ch (c : Int)).room) (fun c => (T.filter fun x : Sea => decide (x.c = 0 + ((c : Nat) : Int))).length) t.cha.length hW
  have h2 := keys_le Sea.c 0 T t.cha.length
  have h3 : t.slots now q ≤ (T.length : Nat) := Int.le_trans h1 (by exact_mod_cast h2)
  omega
structure Part (done : List Nat) (m : Mps) : Prop where
  inv : InvS m
  dom : ∀ s j, m.tk s = some j → j ∈ done
  st : ∀ j, j ∉ done → m.st j = none
theorem setAll_none (ho : AlOk t) : ∀ (l done : List Nat) (m : Mps), done ++ l = t.wet → Part done m → t.setAll now l m = none → ∃ q : List Nat, q ≠ [] ∧ (∀ i, i ∈ q → i ∈ t.wet) ∧ q.Nodup ∧ t.slots now (t.wet.filter fun i => q.contains i) < (t.wet.filter fun i => q.contains i).length := by
  intro l
  induction l with
  | nil => intro done m _ _ h; cases h
  | cons i r ih =>
    intro done m hd hp h
    have hnd := t.wet_nodup
    rw [← hd] at hnd
    obtain ⟨n1, n2, n3⟩ := List.nodup_append.1 hnd
    have hi : i ∉ done := fun h9 => n3 i h9 i (.head _) rfl
    have hiw : i ∈ t.wet := by rw [← hd]; exact List.mem_append_right _ (.head _)
    have hU : ∀ s o, m.tk s = some o → ∀ x, x ∈ t.seas now t.wet.length o → x ∈ t.wet.flatMap (t.seas now t.wet.length) := fun s o hs x hx =>
      List.mem_flatMap.2 ⟨o, by rw [← hd]; exact List.mem_append_left _ (hp.dom s o hs), hx⟩
    unfold setAll at h
    by_cases hb : (settle (fun _ => false) (t.seas now t.wet.length) t.wet i m).1 = true
    · rw [if_pos hb] at h
      have h1 := move_done (S := t.seas now t.wet.length) hp.inv (fuel (t.seas now t.wet.length) t.wet) i [] (fun s hs => by rw [hp.st i hi] at hs; cases hs) hb
      refine ih (done ++ [i]) _ (by rw [← hd]; simp) ⟨fun s j hs => ?_, fun s j hs => ?_, fun j hj => ?_⟩ h
      · rcases h1.inv s j hs with h2 | ⟨_, h2⟩
        · exact h2
        · simp only at h2; rw [hp.st i hi] at h2; cases h2
      · rcases h1.dom s j hs with rfl | ⟨s0, h2⟩
        · simp
        · exact List.mem_append_left _ (hp.dom s0 j h2)
      · simp only [List.mem_append, List.mem_singleton, not_or] at hj
        exact h1.st j hj.2 (hp.st j hj.1)
    · have hf := move_fail (m := m) hU (fuel (t.seas now t.wet.length) t.wet) i [] (fun x hx => List.mem_flatMap.2 ⟨i, hiw, hx⟩) (by unfold left fuel; exact Nat.lt_succ_of_le (List.length_filter_le _ _)) (by simpa [settle] using hb)
      obtain ⟨T, m2, hz⟩ : ∃ T m2, (move (fun _ => false) (t.seas now t.wet.length) (fuel (t.seas now t.wet.length) t.wet) i ([], m)).2 = (T, m2) := ⟨_, _, rfl⟩
      rw [hz] at hf
      have hTn := hf.nd List.nodup_nil
      simp only at hTn
      have hcl : ∀ s, s ∈ T → ∃ o, m.tk s = some o ∧ ∀ x, x ∈ t.seas now t.wet.length o → x ∈ T := fun s hs => (hf.clo s hs).resolve_left (by simp)
      obtain ⟨q, hq⟩ : ∃ q : List Nat, q = i :: T.map fun s => (m.tk s).getD 0 := ⟨_, rfl⟩
      have hq1 : ∀ j, j ∈ q → j ∈ t.wet ∧ ∀ x, x ∈ t.seas now t.wet.length j → x ∈ T := fun j hj => by
        rw [hq] at hj
        rcases List.mem_cons.1 hj with rfl | hj
        · exact ⟨hiw, hf.all⟩
        · obtain ⟨s, hs, rfl⟩ := List.mem_map.1 hj
          obtain ⟨o, h2, h3⟩ := hcl s hs
          rw [h2]
          exact ⟨by rw [← hd]; exact List.mem_append_left _ (hp.dom s o h2), h3⟩
      have hqn : q.Nodup := by
        rw [hq]
        refine List.nodup_cons.2 ⟨fun hj => ?_, List.pairwise_map.2 (List.Pairwise.imp_of_mem (fun {a b} ha hb hne e => hne ?_) hTn)⟩
        · obtain ⟨s, hs, e⟩ := List.mem_map.1 hj
          obtain ⟨o, h2, _⟩ := hcl s hs
          rw [h2] at e
          simp only [Option.getD_some] at e
          exact hi (e ▸ hp.dom s o h2)
        · obtain ⟨o, h2, _⟩ := hcl a ha
          obtain ⟨o', h3, _⟩ := hcl b hb
          rw [h2, h3] at e
          simp only [Option.getD_some] at e
          subst e
          have k1 := hp.inv a o h2
          have k2 := hp.inv b o h3
          rw [k1] at k2
          exact Option.some.inj k2
      refine ⟨q, by rw [hq]; exact List.cons_ne_nil _ _, fun j hj => (hq1 j hj).1, hqn, ?_⟩
      have hfn : (t.wet.filter fun i => q.contains i).Nodup := List.Nodup.sublist List.filter_sublist t.wet_nodup
      have l1 := nodup_le (t.wet.filter fun i => q.contains i) q hfn (fun x hx => by simpa using (List.mem_filter.1 hx).2)
      have l2 := nodup_le q (t.wet.filter fun i => q.contains i) hqn (fun x hx => List.mem_filter.2 ⟨(hq1 x hx).1, by simpa using hx⟩)
      have l3 : q.length = T.length + 1 := by rw [hq]; simp
      refine slots_lt ho (T := T) (fun j hj => wet_lt (List.mem_filter.1 hj).1) (List.length_filter_le _ _) (by omega) (fun j hj x hx => ?_)
      exact (hq1 j (by simpa using (List.mem_filter.1 hj).2)).2 x hx
theorem eachE_9 {α : Type} {name : α → ByteArray} {rest : α → Int} {l : List α} {i : Nat} (h : ∀ x, rest x ≠ 9) : eachE name rest l i ≠ 9 := by
  unfold eachE
  split
  · decide
  · split
    · decide
    · split
      · decide
      · exact h _
theorem alE_9 (t : ATk) : t.alE ≠ 9 := by
  have h1 : ∀ x, chaE x ≠ 9 := fun x => by unfold chaE; split <;> decide
  have h2 : ∀ x, t.twnE x ≠ 9 := fun x => by unfold twnE; repeat (first | decide | split)
  have h3 : ∀ x, t.floE x ≠ 9 := fun x => by unfold floE; repeat (first | decide | split)
  unfold alE
  split
  · decide
  split
  · decide
  split
  · exact eachE_9 h1
  split
  · decide
  split
  · exact eachE_9 h2
  split
  · decide
  split
  · exact h3 _
  · decide
theorem atE_9 (t : ATk) (now : Int) : t.atE now ≠ 9 := by
  unfold atE
  split
  · exact alE_9 t
  · split <;> decide
theorem plan_none (h : t.planE now = 9) : t.atE now = 0 ∧ ∃ q : List Nat, q ≠ [] ∧ (∀ i, i ∈ q → i ∈ t.wet) ∧ t.slots now (t.wet.filter fun i => q.contains i) < (t.wet.filter fun i => q.contains i).length := by
  have h0 : t.atE now = 0 := by
    by_cases h1 : t.atE now = 0
    · exact h1
    · unfold planE at h
      rw [if_pos h1] at h
      exact absurd h (atE_9 t now)
  have hal : t.alE = 0 := by
    unfold atE at h0
    split at h0
    · rename_i h1; exact absurd h0 h1
    · rename_i h1; exact Decidable.not_not.1 h1
  have hn : t.planO now = none := by
    unfold planE at h
    rw [if_neg (by rw [h0]; decide)] at h
    cases hp : t.planO now with
    | none => rfl
    | some m => rw [hp] at h; cases h
  obtain ⟨q, h1, h2, _, h3⟩ := setAll_none (now := now) (alOk_of hal) t.wet [] Mps.no rfl ⟨fun s i hs => (by cases hs), fun s j hs => (by cases hs), fun j _ => rfl⟩ hn
  exact ⟨h0, q, h1, h2, h3⟩
end ATk
end Bs
namespace X
open Go Go.RowKit Bs
def chaC (x : Cha) : List Value := [.string x.name, .int .i64 x.delay, .int .i64 x.room]
def chaK : Kind Cha := ⟨73, 3, chaC, fun _ => [], fun _ => rfl⟩
def twnC (q : SV) (x : Twn) : List Value := [.string x.name, .int .i64 x.pol, .int .i64 x.travel, .int .i64 x.lead, .slice q.A q.n q.c]
def twnK : Kind (SV × Twn) := ⟨67, 5, fun e => twnC e.1 e.2, fun e => [hInts e.1 e.2.chs], fun _ => rfl⟩
def lisK : Kind (SV × List Int) := ⟨26, 1, fun e => [.slice e.1.A e.1.n e.1.c], fun e => [hInts e.1 e.2], fun _ => rfl⟩
def spaK : Kind (Int × Int) := ⟨161, 2, fun e => [.int .i64 e.1, .int .i64 e.2], fun _ => [], fun _ => rfl⟩
structure ATV where
  c : SV
  w : SV
  f : SV
  es : List (SV × Twn)
  fs : List (SV × List Int)
def atkC (v : ATV) (t : ATk) : List Value := [.int .i64 t.pol, .slice v.c.A v.c.n v.c.c, .slice v.w.A v.w.n v.w.c, .slice v.f.A v.f.n v.f.c]
def atkV (v : ATV) (t : ATk) : Value := .agg ⟨atkC v t⟩
structure AtAt (w : World) (B : Nat) (v : ATV) (t : ATk) : Prop where
  cha : ListAt chaK w (Lt B) v.c t.cha
  twn : ListAt twnK w (Lt B) v.w v.es
  tes : v.es.map (·.2) = t.twn
  flo : ListAt lisK w (Lt B) v.f v.fs
  fes : v.fs.map (·.2) = t.flo
  cn : ∀ x, x ∈ t.cha → x.name.size ≤ 9223372036854775807
  tn : ∀ x, x ∈ t.twn → x.name.size ≤ 9223372036854775807
section
variable {w w' w0 : World} {B B' : Nat} {v : ATV} {t : ATk} {L : Lo}
theorem AtAt.below (h : AtAt w B v t) (hb : Below B w w') : AtAt w' B v t := ⟨h.cha.below hb, h.twn.below hb, h.tes, h.flo.below hb, h.fes, h.cn, h.tn⟩
theorem AtAt.more (h : AtAt w B v t) (hB : B ≤ B') : AtAt w B' v t :=
  ⟨h.cha.mono fun k hk => Nat.lt_of_lt_of_le hk hB, h.twn.mono fun k hk => Nat.lt_of_lt_of_le hk hB, h.tes, h.flo.mono fun k hk => Nat.lt_of_lt_of_le hk hB, h.fes, h.cn, h.tn⟩
theorem AtAt.sys (h : AtAt w0 B v t) (S : Sys B w0 L w) : AtAt w w.heap.size v t := (h.below S.toBelow).more (Nat.le_trans S.base S.size)
theorem AtAt.nc (h : AtAt w B v t) : v.c.n = t.cha.length := h.cha.len (by decide)
theorem AtAt.nw (h : AtAt w B v t) : v.w.n = t.twn.length := by rw [h.twn.len (by decide), ← h.tes]; simp
theorem AtAt.nf (h : AtAt w B v t) : v.f.n = t.flo.length := by rw [h.flo.len (by decide), ← h.fes]; simp
theorem AtAt.chaAt (h : AtAt w B v t) {k : Nat} (hk : k < t.cha.length) : ∃ ad : Addr, v.c.A = some ad ∧ ad.block < B ∧ ∀ j u, (chaC (t.ch (k : Nat)))[j]? = some u → w.cell? ((ad.add (k * 3)).add j) = some u := by
  obtain ⟨ad, e1, e2⟩ := ListAt.addr (A := v.c.A) (n := v.c.n) (c := v.c.c) h.cha (by decide) (by omega)
  have hx : t.cha[k]? = some (t.ch (k : Nat)) := by unfold ATk.ch; rw [show ((k : Nat) : Int).toNat = k from by omega, List.getElem?_eq_getElem hk]; rfl
  have h1 : ListAt chaK w (Lt B) ⟨some ad, v.c.n, v.c.c⟩ t.cha := by rw [← e1]; exact h.cha
  exact ⟨ad, e1, e2, h1.elem hx⟩
theorem AtAt.twnAt (h : AtAt w B v t) {k : Nat} (hk : k < t.twn.length) : ∃ (ad : Addr) (q : SV), v.w.A = some ad ∧ ad.block < B ∧ (∀ j u, (twnC q (t.tw k))[j]? = some u → w.cell? ((ad.add (k * 5)).add j) = some u) ∧ IntsAt w (Lt B) q (t.tw k).chs := by
  have hl : k < v.es.length := by have := h.tes; rw [← this] at hk; simpa using hk
  obtain ⟨ad, e1, e2⟩ := ListAt.addr (A := v.w.A) (n := v.w.n) (c := v.w.c) h.twn (by decide) (by omega)
  have hek : v.es[k]? = some v.es[k] := List.getElem?_eq_getElem hl
  have eh : t.tw k = v.es[k].2 := by unfold ATk.tw; rw [← h.tes, List.getElem?_map, hek]; rfl
  have h1 : ListAt twnK w (Lt B) ⟨some ad, v.w.n, v.w.c⟩ v.es := by rw [← e1]; exact h.twn
  refine ⟨ad, v.es[k].1, e1, e2, fun j u hj => ?_, ?_⟩
  · rw [eh] at hj; exact h1.elem hek j u hj
  · rw [eh]; exact h.twn.ins v.es[k] (List.getElem_mem hl) (hInts v.es[k].1 v.es[k].2.chs) (List.mem_singleton.2 rfl)
theorem AtAt.floAt (h : AtAt w B v t) {k : Nat} (hk : k < t.flo.length) : ∃ (ad : Addr) (q : SV), v.f.A = some ad ∧ ad.block < B ∧ w.cell? (ad.add (k * 1)) = some (.slice q.A q.n q.c) ∧ IntsAt w (Lt B) q (t.flo[k]?.getD []) := by
  have hl : k < v.fs.length := by have := h.fes; rw [← this] at hk; simpa using hk
  obtain ⟨ad, e1, e2⟩ := ListAt.addr (A := v.f.A) (n := v.f.n) (c := v.f.c) h.flo (by decide) (by omega)
  have hek : v.fs[k]? = some v.fs[k] := List.getElem?_eq_getElem hl
  have eh : t.flo[k]?.getD [] = v.fs[k].2 := by rw [← h.fes, List.getElem?_map, hek]; rfl
  have h1 : ListAt lisK w (Lt B) ⟨some ad, v.f.n, v.f.c⟩ v.fs := by rw [← e1]; exact h.flo
  refine ⟨ad, v.fs[k].1, e1, e2, ?_, ?_⟩
  · have := h1.elem hek 0 (.slice v.fs[k].1.A v.fs[k].1.n v.fs[k].1.c) rfl
    rw [add_add, Nat.add_zero] at this
    exact this
  · rw [eh]; exact h.flo.ins v.fs[k] (List.getElem_mem hl) (hInts v.fs[k].1 v.fs[k].2) (List.mem_singleton.2 rfl)
end
def comesL (t : ATk) : List (Int × Int) := (List.range t.twn.length).map fun i => (ATk.loL (t.hits i), ATk.hiL (t.hits i))
def manyL (t : ATk) : List Int := (List.range t.twn.length).map fun i => ((t.hits i).length : Nat)
def brdC (v : ATV) (t : ATk) (q r : SV) : List Value := [.int .i64 t.pol, .slice v.c.A v.c.n v.c.c, .slice v.w.A v.w.n v.w.c, .slice v.f.A v.f.n v.f.c, .slice q.A q.n q.c, .slice r.A r.n r.c]
structure BrdAt (w : World) (ok : Nat → Prop) (g : Nat) (v : ATV) (t : ATk) (q r : SV) : Prop where
  ok_ : ok g
  blk : w.heap[g]? = some (cel 140 (brdC v t q r))
  comes : ListAt spaK w ok q (comesL t)
  many : IntsAt w ok r (manyL t)
theorem BrdAt.keep {w w' : World} {ok : Nat → Prop} {g : Nat} {v : ATV} {t : ATk} {q r : SV} (h : BrdAt w ok g v t q r) (hk : ∀ k, ok k → w'.heap[k]? = w.heap[k]?) : BrdAt w' ok g v t q r :=
  ⟨h.ok_, (hk g h.ok_).trans h.blk, h.comes.keep hk, h.many.keep hk⟩
theorem BrdAt.mono {w : World} {ok ok' : Nat → Prop} {g : Nat} {v : ATV} {t : ATk} {q r : SV} (h : BrdAt w ok g v t q r) (hk : ∀ k, ok k → ok' k) : BrdAt w ok' g v t q r :=
  ⟨hk g h.ok_, h.blk, h.comes.mono hk, h.many.mono hk⟩
def hBrd (g : Nat) (v : ATV) (t : ATk) (q r : SV) : Held := ⟨fun w ok => BrdAt w ok g v t q r, BrdAt.keep, BrdAt.mono⟩
section
variable {w : World} {ok : Nat → Prop} {g : Nat} {v : ATV} {t : ATk} {q r : SV}
theorem BrdAt.cell (h : BrdAt w ok g v t q r) {j : Nat} {u : Value} (hj : (brdC v t q r)[j]? = some u) : w.cell? ⟨g, j, none⟩ = some u := by
  unfold World.cell?
  rw [h.blk]
  simpa using hj
theorem BrdAt.comesAt (h : BrdAt w ok g v t q r) {k : Nat} (hk : k < t.twn.length) : ∃ ad : Addr, q.A = some ad ∧ ok ad.block ∧ w.cell? ((ad.add (k * 2)).add 0) = some (.int .i64 (ATk.loL (t.hits k))) := by
  have hl : (comesL t).length = t.twn.length := by simp [comesL]
  obtain ⟨A, n, c⟩ := q
  obtain ⟨ad, rfl, e2⟩ := ListAt.addr h.comes (by decide) (by omega)
  have hx : (comesL t)[k]? = some (ATk.loL (t.hits k), ATk.hiL (t.hits k)) := by simp [comesL, hk]
  exact ⟨ad, rfl, e2, h.comes.elem hx 0 _ rfl⟩
theorem BrdAt.nq (h : BrdAt w ok g v t q r) : q.n = t.twn.length := by rw [h.comes.len (by decide)]; simp [comesL]
theorem BrdAt.nr (h : BrdAt w ok g v t q r) : r.n = t.twn.length := by rw [h.many.len]; simp [manyL]
theorem BrdAt.manyAt (h : BrdAt w ok g v t q r) {k : Nat} (hk : k < t.twn.length) : ∃ ad : Addr, r.A = some ad ∧ ok ad.block ∧ w.cell? (ad.add (k * 1)) = some (.int .i64 ((t.hits k).length : Nat)) := by
  obtain ⟨ad, e1, e2, e3⟩ := h.many.at_ (by rw [show (manyL t).length = t.twn.length by simp [manyL]]; omega)
  refine ⟨ad, e1, e2, ?_⟩
  have := e3 k (by rw [show (manyL t).length = t.twn.length by simp [manyL]]; exact hk)
  rw [show at0 (manyL t) k = ((t.hits k).length : Nat) by simp [at0, manyL, hk]] at this
  exact this
end
end X
namespace X
open Go Go.RowKit Bs
theorem idxA {f : FuncId} {cap : List Value} {P : Int → Bool} {r : SV} {ms : List Int} {w : World} (hck : callOk Tryz.prog f = true) (hr : IntsAt w (Lt w.heap.size) r ms) (hn : ms.length ≤ 9223372036854775807)
    (hc : ∀ m, m ∈ ms → ∀ w', Below w.heap.size w w' → Calls Tryz.prog f ([] ++ [Value.int .i64 m] ++ cap).toArray w' fun e w'' => e = .returned (.bool (P m)) ∧ Below w'.heap.size w' w'') :
    Calls Tryz.prog 66 #[svV r, .func (.func f) #[] cap.toArray] w fun e w' => e = .returned (.int .i64 (idxL ms P)) ∧ Below w.heap.size w w' := by
  obtain ⟨A, n, c⟩ := r
  have hln := hr.len
  simp only at hln
  subst hln
  simp only [svV]
  refine enter Tryz.func66 rfl Tryz.ntmps66 rfl ?_; simp only [frame, Nat.zero_add, Nat.reduceAdd]
  repeat (first | (refine M0 ?_; first | refine SL ?_ | refine SB fun _ _ => ?_) | (refine M1 ?_; first | refine SC ?_ | refine SD ?_) | (refine M2 ?_; refine SE ?_) | (refine M3 ?_; first | refine SG ?_ | refine SF ?_) | (refine M4 ?_; refine SR ?_) | (refine M5 ?_; first | exact M7 | refine YM ?_ | refine YN ?_ ?_))
  refine XC.loopk [0, 1, 7] rfl (fun k : Nat => [(8, .int .i64 (k : Nat))]) (fun _ => []) (fun _ => w) (fun k => k ≤ ms.length ∧ ∀ j m, j < k → ms[j]? = some m → P m = false) (fun k => ms.length - k) 0 ⟨Nat.zero_le _, fun j m h => absurd h (by omega)⟩ ZZSUB (fun _ h => h) ?_
  rintro k ⟨hk, h0⟩
  dsimp only [List.cons_append, List.nil_append]
  repeat (first | (refine M0 ?_; first | refine SL ?_ | refine SB fun _ _ => ?_) | (refine M1 ?_; first | refine SC ?_ | refine SD ?_) | (refine M2 ?_; refine SE ?_) | (refine M3 ?_; first | refine SG ?_ | refine SF ?_) | (refine M4 ?_; refine SR ?_) | (refine M5 ?_; first | exact M7 | refine YM ?_ | refine YN ?_ ?_))
  refine XC.cond _ rfl (fun h3 => ?_) (fun h3 => ?_)
  · have hkn : k < ms.length := by simpa using h3
    obtain ⟨ad, rfl, hlt, hcells⟩ := hr.at_ (by omega)
    have hmk : ms[k]? = some ms[k] := List.getElem?_eq_getElem hkn
    have hcell := hcells k hkn
    rw [show at0 ms k = ms[k] by simp [at0, hkn]] at hcell
    repeat (first | (refine M0 ?_; first | refine SL ?_ | refine SB fun _ _ => ?_ | refine Y4 (Ev.load_old tok rfl rfl (add_lt hlt) hcell) ?_ | refine Y4 (Ev.callv (f := f) (fst := []) (cap := cap) hck rfl rfl (fun w S => hc _ (List.getElem_mem hkn) w S.toBelow)) ?_) | (refine M1 ?_; first | refine SC ?_ | refine SD ?_) | (refine M2 ?_; refine SE ?_) | (refine M3 ?_; first | refine SG ?_ | refine SF ?_ | refine YF (Ev.load_old tok rfl rfl (add_lt hlt) hcell) ?_ | refine YF (Ev.callv (f := f) (fst := []) (cap := cap) hck rfl rfl (fun w S => hc _ (List.getElem_mem hkn) w S.toBelow)) ?_) | (refine M4 ?_; refine SR ?_) | (refine M5 ?_; first | exact M7 | refine YM ?_ | refine YN ?_ ?_))
    refine XC.cond _ rfl (fun h4 => ?_) (fun h4 => ?_)
    · repeat (first | (refine M0 ?_; first | refine SL ?_ | refine SB fun _ _ => ?_) | (refine M1 ?_; first | refine SC ?_ | refine SD ?_) | (refine M2 ?_; refine SE ?_) | (refine M3 ?_; first | refine SG ?_ | refine SF ?_) | (refine M4 ?_; refine SR ?_) | (refine M5 ?_; first | exact M7 | refine YM ?_ | refine YN ?_ ?_))
      refine XE.retg tok Tryz.results66 rfl (by simp only [and_self, and_true]) (fun w' S => ?_)
      have : ms.findIdx? P = some k := by
        rw [List.findIdx?_eq_some_iff_getElem]
        exact ⟨hkn, h4, fun j hj => by simpa using h0 j _ hj (List.getElem?_eq_getElem (by omega))⟩
      unfold idxL
      rw [this]
      exact ⟨rfl, S.toBelow⟩
    · repeat (first | (refine M0 ?_; first | refine SL ?_ | refine SB fun _ _ => ?_) | (refine M1 ?_; first | refine SC ?_ | refine SD ?_) | (refine M2 ?_; refine SE ?_) | (refine M3 ?_; first | refine SG ?_ | refine SF ?_) | (refine M4 ?_; refine SR ?_) | (refine M5 ?_; first | exact M7 | refine YM ?_ | refine YN ?_ ?_))
      refine XE.round (k + 1) ⟨hkn, fun j m hj hm => ?_⟩ (by omega) ZZSUB (fun _ h => h)
      rcases Nat.lt_or_ge j k with h5 | h5
      · exact h0 j m h5 hm
      · have : j = k := by omega
        subst this
        rw [hmk] at hm
        cases hm
        exact h4
  · have hkn : ¬ k < ms.length := by simpa using h3
    repeat (first | (refine M0 ?_; first | refine SL ?_ | refine SB fun _ _ => ?_) | (refine M1 ?_; first | refine SC ?_ | refine SD ?_) | (refine M2 ?_; refine SE ?_) | (refine M3 ?_; first | refine SG ?_ | refine SF ?_) | (refine M4 ?_; refine SR ?_) | (refine M5 ?_; first | exact M7 | refine YM ?_ | refine YN ?_ ?_))
    refine XE.retg tok Tryz.results66 rfl (by simp only [and_self, and_true]) (fun w' S => ?_)
    have : ms.findIdx? P = none := by
      rw [List.findIdx?_eq_none_iff]
      intro m hm
      obtain ⟨j, hj, e⟩ := List.mem_iff_getElem.1 hm
      exact h0 j m (by omega) (by rw [List.getElem?_eq_getElem hj, e])
    unfold idxL
    rw [this]
    exact ⟨rfl, S.toBelow⟩
theorem contA {f : FuncId} {cap : List Value} {P : Int → Bool} {r : SV} {ms : List Int} {w : World} (hck : callOk Tryz.prog f = true) (hr : IntsAt w (Lt w.heap.size) r ms) (hn : ms.length ≤ 9223372036854775807)
    (hc : ∀ m, m ∈ ms → ∀ w', Below w.heap.size w w' → Calls Tryz.prog f ([] ++ [Value.int .i64 m] ++ cap).toArray w' fun e w'' => e = .returned (.bool (P m)) ∧ Below w'.heap.size w' w'') :
    Calls Tryz.prog 57 #[svV r, .func (.func f) #[] cap.toArray] w fun e w' => e = .returned (.bool (ms.any P)) ∧ Below w.heap.size w w' := by
  obtain ⟨A, n, c⟩ := r
  simp only [svV]
  refine enter Tryz.func57 rfl Tryz.ntmps57 rfl ?_; simp only [frame, Nat.zero_add, Nat.reduceAdd]
  repeat (first | (refine M0 ?_; first | refine SL ?_ | refine SB fun _ _ => ?_ | refine Y4 (Ev.call (f := 66) (ck rfl) rfl (fun w5 S5 => (idxA (f := f) (cap := cap) (P := P) (r := ⟨A, n, c⟩) (ms := ms) hck (hr.arg S5) hn (fun m hm w' hb => hc m hm w' (S5.toBelow.trans (hb.mono S5.size))) :))) ?_) | (refine M1 ?_; first | refine SC ?_ | refine SD ?_) | (refine M2 ?_; refine SE ?_) | (refine M3 ?_; first | refine SG ?_ | refine SF ?_ | refine YF (Ev.call (f := 66) (ck rfl) rfl (fun w5 S5 => (idxA (f := f) (cap := cap) (P := P) (r := ⟨A, n, c⟩) (ms := ms) hck (hr.arg S5) hn (fun m hm w' hb => hc m hm w' (S5.toBelow.trans (hb.mono S5.size))) :))) ?_) | (refine M4 ?_; refine SR ?_) | (refine M5 ?_; first | exact M7 | refine YM ?_ | refine YN ?_ ?_))
  refine XE.retg tok Tryz.results57 rfl (by simp only [and_self, and_true]) (fun w' S => ?_)
  exact ⟨by rw [idxL_any]; rfl, S.toBelow⟩
theorem aout_any (n lo hi : Int) (w : World) :
    Calls Tryz.prog 23 #[.int .i64 n, .int .i64 lo, .int .i64 hi] w fun e w' => e = .returned (.bool (outB n lo hi)) ∧ Below w.heap.size w w' := by
  refine enter Tryz.func23 rfl Tryz.ntmps23 rfl ?_; simp only [frame, Nat.zero_add, Nat.reduceAdd]
  repeat (any_goals (first | (refine M0 ?_; first | refine SL ?_ | refine SB fun _ _ => ?_ | (refine XL.split _ _ rfl (fun h => ?_) (fun h => ?_) <;> rw [h])) | (refine M1 ?_; first | refine SC ?_ | refine SD ?_ | refine XC.cond _ rfl (fun h => ?_) (fun h => ?_)) | (refine M2 ?_; refine SE ?_) | (refine M3 ?_; first | refine SG ?_ | refine SF ?_ | (refine Fw.split _ _ rfl (fun h => ?_) (fun h => ?_) <;> rw [h])) | (refine M4 ?_; refine SR ?_) | (refine M5 ?_; first | exact M7 | refine YM ?_ | refine YN ?_ ?_)))
  all_goals
    refine XE.ret1 Tryz.results23 rfl (fun w' S => ?_)
    exact ⟨by simp only [outB, h, Bool.true_or, Bool.false_or], S.toBelow⟩
theorem achk1_any (x : Cha) (w : World) : Calls Tryz.prog 77 #[.agg ⟨chaC x⟩] w fun e w' => e = .returned (.string x.name) ∧ Below w.heap.size w w' := by
  simp only [chaC]
  refine enter Tryz.func77 rfl Tryz.ntmps77 rfl ?_; simp only [frame, Nat.zero_add, Nat.reduceAdd]
  repeat (first | (refine M0 ?_; first | refine SL ?_ | refine SB fun _ _ => ?_) | (refine M1 ?_; refine SC ?_) | (refine M2 ?_; refine SE ?_))
  refine XE.retg tok Tryz.results77 rfl (by simp only [and_self, and_true]) (fun w' S => ?_)
  exact ⟨rfl, S.toBelow⟩
theorem achk2_any (x : Cha) (w : World) : Calls Tryz.prog 78 #[.agg ⟨chaC x⟩] w fun e w' => e = .returned (.int .i64 (chaE x)) ∧ Below w.heap.size w w' := by
  simp only [chaC]
  refine enter Tryz.func78 rfl Tryz.ntmps78 rfl ?_; simp only [frame, Nat.zero_add, Nat.reduceAdd]
  repeat (first | (refine M0 ?_; first | refine SL ?_ | refine SB fun _ _ => ?_ | refine Y4 (Ev.call (f := 23) (ck rfl) rfl (fun w S => aout_any _ _ _ w)) ?_) | (refine M1 ?_; refine SC ?_) | (refine M2 ?_; refine SE ?_))
  cases h1 : outB x.delay 0 50 with
  | true =>
    repeat (first | (refine M0 ?_; first | refine SL ?_ | refine SB fun _ _ => ?_) | (refine M1 ?_; refine SC ?_) | (refine M2 ?_; refine SE ?_))
    refine XE.retg tok Tryz.results78 rfl (by simp only [and_self, and_true]) (fun w' S => ?_)
    exact ⟨by unfold chaE; rw [h1]; rfl, S.toBelow⟩
  | false =>
    repeat (first | (refine M0 ?_; first | refine SL ?_ | refine SB fun _ _ => ?_ | refine Y4 (Ev.call (f := 23) (ck rfl) rfl (fun w S => aout_any _ _ _ w)) ?_) | (refine M1 ?_; refine SC ?_) | (refine M2 ?_; refine SE ?_))
    cases h2 : outB x.room 0 20 with
    | true =>
      repeat (first | (refine M0 ?_; first | refine SL ?_ | refine SB fun _ _ => ?_) | (refine M1 ?_; refine SC ?_) | (refine M2 ?_; refine SE ?_))
      refine XE.retg tok Tryz.results78 rfl (by simp only [and_self, and_true]) (fun w' S => ?_)
      exact ⟨by unfold chaE; rw [h1, h2]; rfl, S.toBelow⟩
    | false =>
      repeat (first | (refine M0 ?_; first | refine SL ?_ | refine SB fun _ _ => ?_) | (refine M1 ?_; refine SC ?_) | (refine M2 ?_; refine SE ?_))
      refine XE.retg tok Tryz.results78 rfl (by simp only [and_self, and_true]) (fun w' S => ?_)
      exact ⟨by unfold chaE; rw [h1, h2]; rfl, S.toBelow⟩
theorem achk3_any (q : SV) (x : Twn) (w : World) : Calls Tryz.prog 80 #[.agg ⟨twnC q x⟩] w fun e w' => e = .returned (.string x.name) ∧ Below w.heap.size w w' := by
  simp only [twnC]
  refine enter Tryz.func80 rfl Tryz.ntmps80 rfl ?_; simp only [frame, Nat.zero_add, Nat.reduceAdd]
  repeat (first | (refine M0 ?_; first | refine SL ?_ | refine SB fun _ _ => ?_) | (refine M1 ?_; refine SC ?_) | (refine M2 ?_; refine SE ?_))
  refine XE.retg tok Tryz.results80 rfl (by simp only [and_self, and_true]) (fun w' S => ?_)
  exact ⟨rfl, S.toBelow⟩
theorem achk5_any (n : Int) (w : World) : Calls Tryz.prog 86 #[.int .i64 n] w fun e w' => e = .returned (.bool (outB n (-1) 200000)) ∧ Below w.heap.size w w' := by
  refine enter Tryz.func86 rfl Tryz.ntmps86 rfl ?_; simp only [frame, Nat.zero_add, Nat.reduceAdd]
  repeat (first | (refine M0 ?_; first | refine SL ?_ | refine SB fun _ _ => ?_ | refine Y4 (Ev.call (f := 23) (ck rfl) rfl (fun w S => aout_any _ _ _ w)) ?_) | (refine M1 ?_; refine SC ?_) | (refine M2 ?_; refine SE ?_))
  refine XE.retg tok Tryz.results86 rfl (by simp only [and_self, and_true]) (fun w' S => ?_)
  exact ⟨rfl, S.toBelow⟩
theorem achk41_any {g : Nat} {v : ATV} {t : ATk} (n : Int) (w : World) (hg : w.heap[g]? = some (cel 56 (atkC v t))) (hn : v.c.n = t.cha.length) (h4 : t.cha.length ≤ 4) :
    Calls Tryz.prog 82 #[.int .i64 n, .pointer (some ⟨g, 0, none⟩)] w fun e w' => e = .returned (.bool (outB n 0 (t.cha.length - 1))) ∧ Below w.heap.size w w' := by
  have hl := (Array.getElem?_eq_some_iff.1 hg).1
  have hc1 : w.cell? ⟨g, 1, none⟩ = some (.slice v.c.A v.c.n v.c.c) := by simp [World.cell?, hg, atkC]
  rw [hn] at hc1
  refine enter Tryz.func82 rfl Tryz.ntmps82 rfl ?_; simp only [frame, Nat.zero_add, Nat.reduceAdd]
  repeat (first | (refine M0 ?_; first | refine SL ?_ | refine SB fun _ _ => ?_ | refine Y4 (Ev.load_old tok rfl rfl hl hc1) ?_ | refine Y4 (Ev.call (f := 23) (ck rfl) rfl (fun w S => aout_any _ _ _ w)) ?_) | (refine M1 ?_; refine SC ?_) | (refine M2 ?_; refine SE ?_))
  refine XE.retg tok Tryz.results82 rfl (by simp only [and_self, and_true]) (fun w' S => ?_)
  exact ⟨rfl, S.toBelow⟩
end X
namespace AsM
open Go Go.RowKit Go.Extern.Stop Go.Stop Go.Extern
theorem Fa.valueOf27 (t : Addr) (w : World) : (ReflectliteValue.unpack (.iface 186 (.pointer (some t)))).run Tryz.prog w
    = .ok (.agg #[.pointer (some ⟨1, 186, none⟩), .pointer (some ⟨w.heap.size, 0, none⟩), .int .u64 150]) (w.alloc (.cells #[.pointer (some t)] 186)) := by kernel_rfl
theorem Fa.type27 (a : Addr) (w : World) : (ReflectliteValue.methodAny (ReflectliteValue.valueError "reflectlite.Value.Type" 0) (fun t _ _ _ => ReflectliteType.toType t) #[.agg #[.pointer (some ⟨1, 186, none⟩), .pointer (some a), .int .u64 150]]).run Tryz.prog w
    = .ok (.iface 201 (.agg #[.pointer (some ⟨1, 186, none⟩)])) w := by kernel_rfl
theorem Fa.methodKind (n : Nat) (h : Value) (w : World) : (Go.method (n + 1) 201 (.agg #[h]) "Kind").run Tryz.prog w = .ok (145, h) w := by kernel_rfl
theorem Fa.kind27 (w : World) : ((ReflectliteType.abiMethod fun t => (fun a : Nat => Value.int IntKind.u8 (a : Int)) <$> Rtype.kind t) #[.pointer (some ⟨1, 186, none⟩)]).run Tryz.prog w = .ok (.int .u8 22) w := by kernel_rfl
theorem Fa.kind25 (w : World) : ((ReflectliteType.abiMethod fun t => (fun a : Nat => Value.int IntKind.u8 (a : Int)) <$> Rtype.kind t) #[.pointer (some ⟨1, 182, none⟩)]).run Tryz.prog w = .ok (.int .u8 22) w := by kernel_rfl
theorem rlm (z : Sem Value) (f : TypeId → Addr → Nat → Nat → Sem Value) (v : Value) :
    ReflectliteValue.method z f #[v] = (do match ← ReflectliteValue.parts v with | none => z | some (t, a, fl) => f t a fl (fl % 32)) := rfl
theorem Fa.parts27 (a : Addr) (w : World) : (ReflectliteValue.parts (.agg #[.pointer (some ⟨1, 186, none⟩), .pointer (some a), .int .u64 150])).run Tryz.prog w = .ok (some (186, a, 150)) w := by kernel_rfl
theorem Fa.isNil27 (a p : Addr) (W : World) (ha : W.cell? a = some (.pointer (some p))) :
    (ReflectliteValue.method (ReflectliteValue.valueError "reflectlite.Value.IsNil" 0) ReflectliteValue.isNil #[.agg #[.pointer (some ⟨1, 186, none⟩), .pointer (some a), .int .u64 150]]).run Tryz.prog W = .ok (.bool false) W := by
  rw [rlm]
  simp only [Sem.run_bind, Fa.parts27, Result.andThen]
  simp [ReflectliteValue.isNil, loadVar, isAgg, underlying, Tryz.underlying186, ha, Result.andThen]
theorem Fa.methodElem (n : Nat) (h : Value) (w : World) : (Go.method (n + 1) 201 (.agg #[h]) "Elem").run Tryz.prog w = .ok (156, .agg #[h]) w := by kernel_rfl
theorem Fa.methodImplements (n : Nat) (h : Value) (w : World) : (Go.method (n + 1) 201 (.agg #[h]) "Implements").run Tryz.prog w = .ok (157, .agg #[h]) w := by kernel_rfl
theorem Fa.methodAssignableTo (n : Nat) (h : Value) (w : World) : (Go.method (n + 1) 201 (.agg #[h]) "AssignableTo").run Tryz.prog w = .ok (154, .agg #[h]) w := by kernel_rfl
theorem Fa.elem27 (w : World) : (ReflectliteType.method ReflectliteType.elem #[.agg #[.pointer (some ⟨1, 186, none⟩)]]).run Tryz.prog w = .ok (.iface 201 (.agg #[.pointer (some ⟨1, 182, none⟩)])) w := by kernel_rfl
theorem Fa.implements25 (w : World) : (ReflectliteType.relation "Implements" ReflectliteType.implements_ #[.agg #[.pointer (some ⟨1, 182, none⟩)], .iface 201 (.agg #[.pointer (some ⟨1, 147, none⟩)])]).run Tryz.prog w = .ok (.bool true) w := by kernel_rfl
theorem Fa.typeOf25 (v : Value) (w : World) : (ReflectliteType.typeOf #[.iface 182 v]).run Tryz.prog w = .ok (.iface 201 (.agg #[.pointer (some ⟨1, 182, none⟩)])) w := by kernel_rfl
theorem Fa.assignable25 (w : World) : (ReflectliteType.relation "AssignableTo" ReflectliteType.assignableTo #[.agg #[.pointer (some ⟨1, 182, none⟩)], .iface 201 (.agg #[.pointer (some ⟨1, 182, none⟩)])]).run Tryz.prog w = .ok (.bool true) w := by kernel_rfl
theorem Fa.valueOf25 (e : Addr) (w : World) : (ReflectliteValue.unpack (.iface 182 (.pointer (some e)))).run Tryz.prog w
    = .ok (.agg #[.pointer (some ⟨1, 182, none⟩), .pointer (some ⟨w.heap.size, 0, none⟩), .int .u64 150]) (w.alloc (.cells #[.pointer (some e)] 182)) := by kernel_rfl
theorem Fa.elemOf27 (w : World) : (Rtype.elem? 186).run Tryz.prog w = .ok (some 182) w := by kernel_rfl
theorem Fa.mk25 (p : Addr) (w : World) : (ReflectliteValue.mk 182 p ReflectliteValue.flagAddr).run Tryz.prog w = .ok (.agg #[.pointer (some ⟨1, 182, none⟩), .pointer (some p), .int .u64 406]) w := by kernel_rfl
theorem Fa.elemV27 (a p : Addr) (W : World) (ha : W.cell? a = some (.pointer (some p))) :
    (ReflectliteValue.method (ReflectliteValue.valueError "reflectlite.Value.Elem" 0) ReflectliteValue.elem #[.agg #[.pointer (some ⟨1, 186, none⟩), .pointer (some a), .int .u64 150]]).run Tryz.prog W
      = .ok (.agg #[.pointer (some ⟨1, 182, none⟩), .pointer (some p), .int .u64 406]) W := by
  rw [rlm]
  simp only [Sem.run_bind, Fa.parts27, Result.andThen]
  simp [ReflectliteValue.elem, loadVar, isAgg, underlying, Tryz.underlying186, ha, Result.andThen, Fa.elemOf27, Fa.mk25]
theorem rls (v x : Value) : ReflectliteValue.set #[v, x] = (do
    let (some (dst, a, fl), some (src, b, _)) := (← ReflectliteValue.parts v, ← ReflectliteValue.parts x)
      | unsupported (.noEntry "extern/(internal/reflectlite.Value).Set.zeroValue")
    if fl / ReflectliteValue.flagAddr % 2 == 0 then unsupported (.noEntry "extern/(internal/reflectlite.Value).Set.unaddressable")
    let val ← loadVar src b
    if ← Rtype.directlyAssignable dst src then storeVar dst a val
    else if ← Rtype.implements dst src then
      if (← Rtype.kind src) == 20 then
        match val with
        | .nilIface => unsupported (.noEntry "extern/reflectlite: a nil value of one interface type handed on as a value of another")
        | _ => storeVar dst a val
      else storeVar dst a (.iface src val)
    else panicString ("reflectlite.Set: value of type " ++ (← Rtype.spelt src) ++ " is not assignable to type " ++ (← Rtype.spelt dst))
    pure (.tuple #[])) := rfl
theorem Fa.parts25a (a : Addr) (w : World) : (ReflectliteValue.parts (.agg #[.pointer (some ⟨1, 182, none⟩), .pointer (some a), .int .u64 406])).run Tryz.prog w = .ok (some (182, a, 406)) w := by kernel_rfl
theorem Fa.parts25 (a : Addr) (w : World) : (ReflectliteValue.parts (.agg #[.pointer (some ⟨1, 182, none⟩), .pointer (some a), .int .u64 150])).run Tryz.prog w = .ok (some (182, a, 150)) w := by kernel_rfl
theorem Fa.direct25 (w : World) : (Rtype.directlyAssignable 182 182).run Tryz.prog w = .ok true w := by kernel_rfl
theorem Fa.set25 (ta b e : Addr) (old : Value) (W : World) (hb : W.cell? b = some (.pointer (some e))) (ht : W.cell? ta = some old) (hf : W.frozen? ta = false) :
    (ReflectliteValue.set #[.agg #[.pointer (some ⟨1, 182, none⟩), .pointer (some ta), .int .u64 406], .agg #[.pointer (some ⟨1, 182, none⟩), .pointer (some b), .int .u64 150]]).run Tryz.prog W
      = .ok (.tuple #[]) (W.setCell ta (.pointer (some e))) := by
  rw [rls]
  simp only [Sem.run_bind, Fa.parts25a, Fa.parts25, Result.andThen]
  simp [ReflectliteValue.flagAddr, loadVar, isAgg, underlying, Tryz.underlying182, hb, Result.andThen, Fa.direct25, storeVar, Value.cells, storeCells, Addr.add]
  rw [run_store Tryz.prog W ta _ _ (by rfl)]
  simp [ht, hf]
set_option maxHeartbeats 4000000 in
theorem as_hit (e t : Addr) (old : Value) (w : World) (hg : w.cell? ⟨0, 0, none⟩ = some (.iface 201 (.agg #[.pointer (some ⟨1, 147, none⟩)]))) (ht0 : w.cell? t = some old) (hf0 : w.frozen? t = false) :
    Calls Tryz.prog 55 #[.iface 182 (.pointer (some e)), .iface 186 (.pointer (some t))] w fun ev w' => ev = .returned (.bool true) ∧ w' = ((((w.alloc (.cells #[.pointer (some t)] 186)).alloc (.cells #[.pointer (some ⟨1, 186, none⟩), .pointer (some ⟨w.heap.size, 0, none⟩), .int .u64 150] 173)).alloc (.cells #[.pointer (some ⟨1, 186, none⟩), .pointer (some ⟨w.heap.size, 0, none⟩), .int .u64 150] 173)).alloc (.cells #[.pointer (some e)] 182)).setCell t (.pointer (some e)) := by
  have h6 := @run_callFunc_extern Tryz.prog 72 _ (fun args => ReflectliteValue.unpack (args.getD 0 (.tuple #[]))) Tryz.func72 (by kernel_rfl) (by kernel_rfl) (by kernel_rfl) (by kernel_rfl)
  have h7 := @run_callFunc_extern Tryz.prog 73 _ (ReflectliteValue.methodAny (ReflectliteValue.valueError "reflectlite.Value.Type" 0) (fun t _ _ _ => ReflectliteType.toType t)) Tryz.func73 (by kernel_rfl) (by kernel_rfl) (by kernel_rfl) (by kernel_rfl)
  have h8 := @run_callFunc_extern Tryz.prog 74 _ (ReflectliteValue.method (ReflectliteValue.valueError "reflectlite.Value.IsNil" 0) ReflectliteValue.isNil) Tryz.func74 (by kernel_rfl) (by kernel_rfl) (by kernel_rfl) (by kernel_rfl)
  have h27 := @run_callFunc_extern Tryz.prog 145 _ (ReflectliteType.abiMethod fun t => do pure (.int .u8 (← Rtype.kind t))) Tryz.func145 (by kernel_rfl) (by kernel_rfl) (by kernel_rfl) (by kernel_rfl)
  have h37 := @run_callFunc_extern Tryz.prog 156 _ (ReflectliteType.method ReflectliteType.elem) Tryz.func156 (by kernel_rfl) (by kernel_rfl) (by kernel_rfl) (by kernel_rfl)
  have h38 := @run_callFunc_extern Tryz.prog 157 _ (ReflectliteType.relation "Implements" ReflectliteType.implements_) Tryz.func157 (by kernel_rfl) (by kernel_rfl) (by kernel_rfl) (by kernel_rfl)
  have h10 := @run_callFunc_extern Tryz.prog 90 _ ReflectliteType.typeOf Tryz.func90 (by kernel_rfl) (by kernel_rfl) (by kernel_rfl) (by kernel_rfl)
  have h35 := @run_callFunc_extern Tryz.prog 154 _ (ReflectliteType.relation "AssignableTo" ReflectliteType.assignableTo) Tryz.func154 (by kernel_rfl) (by kernel_rfl) (by kernel_rfl) (by kernel_rfl)
  have h11 := @run_callFunc_extern Tryz.prog 91 _ (ReflectliteValue.method (ReflectliteValue.valueError "reflectlite.Value.Elem" 0) ReflectliteValue.elem) Tryz.func91 (by kernel_rfl) (by kernel_rfl) (by kernel_rfl) (by kernel_rfl)
  have h12 := @run_callFunc_extern Tryz.prog 92 _ ReflectliteValue.set Tryz.func92 (by kernel_rfl) (by kernel_rfl) (by kernel_rfl) (by kernel_rfl)
  have tO := Fa.typeOf25
  have mA := Fa.methodAssignableTo
  have a25 := Fa.assignable25
  have v25 := Fa.valueOf25
  have f6 := Fa.valueOf27
  have f7 := Fa.type27
  have mK := Fa.methodKind
  have mE := Fa.methodElem
  have mI := Fa.methodImplements
  have k27 := Fa.kind27
  have k25 := Fa.kind25
  have e27 := Fa.elem27
  have i25 := Fa.implements25
  have n8 := Fa.isNil27 ⟨w.heap.size, 0, none⟩ t ((w.alloc (.cells #[.pointer (some t)] 186)).alloc (.cells #[.pointer (some ⟨1, 186, none⟩), .pointer (some ⟨w.heap.size, 0, none⟩), .int .u64 150] 173)) (by simp)
  have hlt : 0 < w.heap.size := by
    rcases Nat.eq_zero_or_pos w.heap.size with h0 | h
    · simp [World.cell?, h0] at hg
    · exact h
  have hg2 : ((w.alloc (.cells #[.pointer (some t)] 186)).alloc (.cells #[.pointer (some ⟨1, 186, none⟩), .pointer (some ⟨w.heap.size, 0, none⟩), .int .u64 150] 173)).cell? ⟨0, 0, none⟩ = some (.iface 201 (.agg #[.pointer (some ⟨1, 147, none⟩)])) := by
    rw [World.cell?_alloc_lt _ _ ⟨0, 0, none⟩ (by simp), World.cell?_alloc_lt _ _ ⟨0, 0, none⟩ hlt]; exact hg
  have htl : t.block < w.heap.size := by
    rcases Nat.lt_or_ge t.block w.heap.size with h | h
    · exact h
    · simp [World.cell?, Array.getElem?_eq_none h] at ht0
  have el := Fa.elemV27 ⟨w.heap.size, 0, none⟩ t (((w.alloc (.cells #[.pointer (some t)] 186)).alloc (.cells #[.pointer (some ⟨1, 186, none⟩), .pointer (some ⟨w.heap.size, 0, none⟩), .int .u64 150] 173)).alloc (.cells #[.pointer (some ⟨1, 186, none⟩), .pointer (some ⟨w.heap.size, 0, none⟩), .int .u64 150] 173)) (by rw [World.cell?_alloc_lt _ _ ⟨w.heap.size, 0, none⟩ (by simp; omega)]; simp)
  have st := Fa.set25 t ⟨w.heap.size + 1 + 1 + 1, 0, none⟩ e old ((((w.alloc (.cells #[.pointer (some t)] 186)).alloc (.cells #[.pointer (some ⟨1, 186, none⟩), .pointer (some ⟨w.heap.size, 0, none⟩), .int .u64 150] 173)).alloc (.cells #[.pointer (some ⟨1, 186, none⟩), .pointer (some ⟨w.heap.size, 0, none⟩), .int .u64 150] 173)).alloc (.cells #[.pointer (some e)] 182))
    (by rw [World.cell?_alloc_at _ _ _ _ (by simp)]; rfl)
    (by rw [World.cell?_alloc_lt _ _ t (by simp; omega), World.cell?_alloc_lt _ _ t (by simp; omega), World.cell?_alloc_lt _ _ t (by simp; omega), World.cell?_alloc_lt _ _ t htl]; exact ht0)
    (by rw [World.frozen?_alloc_old _ _ t (by simp; omega), World.frozen?_alloc_old _ _ t (by simp; omega), World.frozen?_alloc_old _ _ t (by simp; omega), World.frozen?_alloc_old _ _ t (Nat.ne_of_lt htl)]; exact hf0)
  go_enter Tryz.func55, Tryz.ntmps55
  go_wp2
  refine wp_loop_rounds 1 ?_
  rw [rounds_succ]
  go_wp2
  go_ret
  exact ⟨rfl, rfl⟩
end AsM
namespace X
open Go Go.RowKit Bs
theorem asHitM_any {gf gt : Nat} {v0 : Value} {w : World} (hg : Laid w) (ht : w.heap[gt]? = some (cel 182 [v0])) :
    Calls Tryz.prog 55 #[.iface 182 (.pointer (some ⟨gf, 0, none⟩)), .iface 186 (.pointer (some ⟨gt, 0, none⟩))] w fun e w' => e = .returned (.bool true) ∧ Sys gt w [(gt, cel 182 [.pointer (some ⟨gf, 0, none⟩)])] w' := by
  have hlt := (Array.getElem?_eq_some_iff.1 ht).1
  refine (AsM.as_hit ⟨gf, 0, none⟩ ⟨gt, 0, none⟩ v0 w hg (by simp [World.cell?, ht]) (by simp [World.frozen?, ht])).mono fun e w' ⟨h1, h2⟩ => ⟨h1, ?_⟩
  subst h2
  have S0 := Sys.start1 (Nat.le_refl gt) ht
  have S1 := S0.box (.cells #[.pointer (some ⟨gt, 0, none⟩)] 186)
  have S2 := S1.box (.cells #[.pointer (some ⟨1, 186, none⟩), .pointer (some ⟨w.heap.size, 0, none⟩), .int .u64 150] 173)
  have S3 := S2.box (.cells #[.pointer (some ⟨1, 186, none⟩), .pointer (some ⟨w.heap.size, 0, none⟩), .int .u64 150] 173)
  have S4 := S3.box (.cells #[.pointer (some ⟨gf, 0, none⟩)] 182)
  generalize hW : (((w.alloc (.cells #[.pointer (some ⟨gt, 0, none⟩)] 186)).alloc (.cells #[.pointer (some ⟨1, 186, none⟩), .pointer (some ⟨w.heap.size, 0, none⟩), .int .u64 150] 173)).alloc (.cells #[.pointer (some ⟨1, 186, none⟩), .pointer (some ⟨w.heap.size, 0, none⟩), .int .u64 150] 173)).alloc (.cells #[.pointer (some ⟨gf, 0, none⟩)] 182) = W at S4 ⊢
  have hWg : W.heap[gt]? = some (cel 182 [v0]) := (S4.own (gt, cel 182 [v0]) (by simp)).2
  have S5 := S4.drop (L' := [(gt, cel 182 [v0])]) (by repeat (first | exact List.Sublist.refl _ | refine List.Sublist.cons _ ?_)) (fun e he => by
    simp only [List.mem_cons, List.not_mem_nil, or_false] at he ⊢
    rcases he with rfl | rfl | rfl | rfl | rfl <;> first | (left; rfl) | (right; simp; done) | (right; simp; omega))
  refine S5.turn (i := 0) (o := cel 182 [v0]) rfl rfl rfl rfl rfl ?_ ?_ ?_
  · simp [World.setCell]
  · simp [World.setCell, Array.getElem?_modify, hWg]
  · intro k hk hne
    exact Below.heap_setCell _ _ _ _ hne
theorem targM_con : conB (Tryz.prog.underlying 186) = true := by kernel_rfl
theorem misT_con : conB (Tryz.prog.underlying 182) = true := by kernel_rfl
end X
namespace X
open Go Go.RowKit
structure KeyF (P : Program) (kt : TypeId) (K : Value → Prop) : Prop where
  check : ∀ (w : World) (em : Bool) {v : Value}, K v → (Instr.checkKey em 10000 kt v).run P w = .ok () w
  find : ∀ (w : World) {x : Value}, K x → ∀ es : List MapEntry, (∀ e ∈ es, K e.key) →
    ((Instr.findKey kt x es).run P w = .ok none w ∧ ∀ e ∈ es, e.key ≠ x) ∨ ∃ j e, (Instr.findKey kt x es).run P w = .ok (some (j, e.val)) w ∧ es[j]? = some e ∧ e.key = x
  stays : ∀ (w : World) {v : Value}, K v → (Instr.keyThatStays v v).run P w = .ok v w
theorem KeyF.of {P : Program} {kt : TypeId} (h : WideMaps.KeyLaw P kt) : KeyF P kt fun v => ∃ l, keyOf P kt v = some l :=
  ⟨fun w em v ⟨l, hl⟩ => h.check w em hl, fun w x ⟨l, hl⟩ es he => h.find w hl es he, fun w v ⟨l, hl⟩ => h.stays w hl⟩
def intV (v : Value) : Prop := ∃ n : Int, v = .int .i64 n
theorem findNow_int (n : Int) : ∀ (es : List MapEntry) (i : Nat), (∀ e ∈ es, intV e.key) →
    (Instr.findNow (.int .i64) (.int .i64 n) es i = some none ∧ ∀ e ∈ es, e.key ≠ .int .i64 n) ∨ ∃ j e, Instr.findNow (.int .i64) (.int .i64 n) es i = some (some (i + j, e.val)) ∧ es[j]? = some e ∧ e.key = .int .i64 n := by
  intro es
  induction es with
  | nil => exact fun i _ => .inl ⟨rfl, fun _ h => by cases h⟩
  | cons e r ih =>
    intro i he
    obtain ⟨m, hm⟩ := he e (.head _)
    by_cases c : n = m
    · right
      refine ⟨0, e, ?_, rfl, by rw [hm, c]⟩
      simp [Instr.findNow, Instr.sameNow, hm, c]
    · have hb : (n == m) = false := by simpa using c
      have hs : Instr.findNow (.int .i64) (.int .i64 n) (e :: r) i = Instr.findNow (.int .i64) (.int .i64 n) r (i + 1) := by simp [Instr.findNow, Instr.sameNow, hm, hb]
      rw [hs]
      rcases ih (i + 1) (fun x hx => he x (.tail _ hx)) with ⟨h1, h2⟩ | ⟨j, x, h1, h2, h3⟩
      · refine .inl ⟨h1, fun x hx => ?_⟩
        rcases List.mem_cons.1 hx with rfl | hx
        · rw [hm]; intro e2; injection e2 with _ e3; exact c e3.symm
        · exact h2 x hx
      · exact .inr ⟨j + 1, x, by rw [h1, show i + 1 + j = i + (j + 1) from by omega], by simpa using h2, h3⟩
theorem KeyF.int {P : Program} {kt : TypeId} (hkt : P.underlying kt = some (.int .i64)) : KeyF P kt intV :=
  ⟨fun w em v ⟨n, hn⟩ => by
    subst hn
    show (Instr.checkKey em (9999 + 1) kt (.int .i64 n)).run P w = .ok () w
    rw [Instr.checkKey]
    simp [run_underlying hkt],
   fun w x ⟨n, hn⟩ es he => by
    subst hn
    rcases findNow_int n es 0 he with ⟨h1, h2⟩ | ⟨j, e, h1, h2, h3⟩
    · left; exact ⟨by simp [Instr.findKey, run_underlying hkt, h1], h2⟩
    · right; exact ⟨j, e, by simp [Instr.findKey, run_underlying hkt, h1], h2, h3⟩,
   fun w v ⟨n, hn⟩ => by subst hn; unfold Instr.keyThatStays; rw [show Instr.sameBits 10000 (.int .i64 n) (.int .i64 n) = true by rw [Instr.sameBits]; simp]; rfl⟩
def strV (v : Value) : Prop := ∃ s : ByteArray, v = .string s
theorem findNow_st (n : ByteArray) : ∀ (es : List MapEntry) (i : Nat), (∀ e ∈ es, strV e.key) →
    (Instr.findNow .string (.string n) es i = some none ∧ ∀ e ∈ es, e.key ≠ .string n) ∨ ∃ j e, Instr.findNow .string (.string n) es i = some (some (i + j, e.val)) ∧ es[j]? = some e ∧ e.key = .string n := by
  intro es
  induction es with
  | nil => exact fun i _ => .inl ⟨rfl, fun _ h => by cases h⟩
  | cons e r ih =>
    intro i he
    obtain ⟨m, hm⟩ := he e (.head _)
    by_cases c : n = m
    · right
      refine ⟨0, e, ?_, rfl, by rw [hm, c]⟩
      have hb : (n == m) = true := by rw [ba_beq]; simpa using c
      simp [Instr.findNow, Instr.sameNow, hm, hb]
    · have hb : (n == m) = false := by rw [ba_beq]; simpa using c
      have hs : Instr.findNow .string (.string n) (e :: r) i = Instr.findNow .string (.string n) r (i + 1) := by simp [Instr.findNow, Instr.sameNow, hm, hb]
      rw [hs]
      rcases ih (i + 1) (fun x hx => he x (.tail _ hx)) with ⟨h1, h2⟩ | ⟨j, x, h1, h2, h3⟩
      · refine .inl ⟨h1, fun x hx => ?_⟩
        rcases List.mem_cons.1 hx with rfl | hx
        · rw [hm]; intro e2; injection e2 with e3; exact c e3.symm
        · exact h2 x hx
      · exact .inr ⟨j + 1, x, by rw [h1, show i + 1 + j = i + (j + 1) from by omega], by simpa using h2, h3⟩
theorem KeyF.str {P : Program} {kt : TypeId} (hkt : P.underlying kt = some .string) : KeyF P kt strV :=
  ⟨fun w em v ⟨n, hn⟩ => by subst hn; exact checkKey_str hkt em n w,
   fun w x ⟨n, hn⟩ es he => by
    subst hn
    rcases findNow_st n es 0 he with ⟨h1, h2⟩ | ⟨j, e, h1, h2, h3⟩
    · left; exact ⟨by simp [Instr.findKey, run_underlying hkt, h1], h2⟩
    · right; exact ⟨j, e, by simp [Instr.findKey, run_underlying hkt, h1], h2, h3⟩,
   fun w v ⟨n, hn⟩ => by subst hn; unfold Instr.keyThatStays; rw [show Instr.sameBits 10000 (.string n) (.string n) = true by rw [Instr.sameBits, ba_beq]; simp]; rfl⟩
def mapE (es : List MapEntry) (n : Nat) : Obj := .map es.toArray n
structure MapIs (K : Value → Prop) (es : List MapEntry) (n : Nat) (f : Value → Option Value) : Prop where
  key : ∀ e, e ∈ es → K e.key
  val : ∀ e, e ∈ es → f e.key = some e.val
  all : ∀ k v, f k = some v → ∃ e, e ∈ es ∧ e.key = k
  born : ∀ e, e ∈ es → e.born < n
  nd : es.Pairwise fun a b => a.born ≠ b.born ∧ a.key ≠ b.key
open Classical in
noncomputable def upd (f : Value → Option Value) (k : Value) (o : Option Value) : Value → Option Value := fun x => if x = k then o else f x
section
variable {K : Value → Prop} {es : List MapEntry} {n : Nat} {f : Value → Option Value} {k v : Value}
theorem MapIs.nil : MapIs K [] 0 fun _ => none := ⟨fun _ h => (by cases h), fun _ h => (by cases h), fun _ _ h => (by cases h), fun _ h => (by cases h), List.Pairwise.nil⟩
theorem MapIs.inj {i j : Nat} {a b : MapEntry} (h : MapIs K es n f) (ha : es[i]? = some a) (hb : es[j]? = some b) (e : a.born = b.born ∨ a.key = b.key) : i = j := by
  have h1 := List.pairwise_iff_getElem.1 h.nd
  obtain ⟨l1, e1⟩ := List.getElem?_eq_some_iff.1 ha
  obtain ⟨l2, e2⟩ := List.getElem?_eq_some_iff.1 hb
  rcases Nat.lt_trichotomy i j with hl | hl | hl
  · have := h1 i j l1 l2 hl
    rw [e1, e2] at this
    exact absurd e (fun h => h.elim this.1 this.2)
  · exact hl
  · have := h1 j i l2 l1 hl
    rw [e1, e2] at this
    exact absurd e (fun h => h.elim (fun x => this.1 x.symm) (fun x => this.2 x.symm))
theorem MapIs.push (h : MapIs K es n f) (hk : K k) (hn : ∀ e, e ∈ es → e.key ≠ k) : MapIs K (es ++ [{ key := k, val := v, born := n }]) (n + 1) (upd f k (some v)) := by
  refine ⟨fun e he => ?_, fun e he => ?_, fun x y hx => ?_, fun e he => ?_, ?_⟩
  · rcases List.mem_append.1 he with he | he
    · exact h.key e he
    · rw [List.mem_singleton.1 he]; exact hk
  · rcases List.mem_append.1 he with he | he
    · unfold upd; rw [if_neg (hn e he)]; exact h.val e he
    · rw [List.mem_singleton.1 he]; simp [upd]
  · unfold upd at hx
    split at hx
    · rename_i e; exact ⟨_, List.mem_append_right _ (.head _), e.symm⟩
    · obtain ⟨e, h1, h2⟩ := h.all x y hx; exact ⟨e, List.mem_append_left _ h1, h2⟩
  · rcases List.mem_append.1 he with he | he
    · have := h.born e he; omega
    · rw [List.mem_singleton.1 he]; simp
  · refine List.pairwise_append.2 ⟨h.nd, List.pairwise_singleton _ _, fun a ha b hb => ?_⟩
    rw [List.mem_singleton.1 hb]
    exact ⟨by have := h.born a ha; simp; omega, hn a ha⟩
theorem MapIs.modify {j : Nat} {e : MapEntry} (h : MapIs K es n f) (hj : es[j]? = some e) (he : e.key = k) (g : MapEntry → MapEntry) (hg : (g e).key = k ∧ (g e).val = v ∧ (g e).born = e.born) : MapIs K (es.modify j g) n (upd f k (some v)) := by
  have hget : ∀ (i : Nat) (x : MapEntry), (es.modify j g)[i]? = some x → ∃ y, es[i]? = some y ∧ x.key = y.key ∧ x.born = y.born ∧ ((i = j ∧ x.val = v) ∨ (i ≠ j ∧ x = y)) := fun i x hx => by
    rw [List.getElem?_modify] at hx
    cases hy : es[i]? with
    | none => rw [hy] at hx; cases hx
    | some y =>
      rw [hy] at hx
      simp only [Option.map_eq_map, Option.map_some, Option.some.injEq] at hx
      by_cases e1 : j = i
      · subst e1
        rw [if_pos rfl] at hx
        rw [hj] at hy
        cases hy
        obtain ⟨a1, a2, a3⟩ := hg
        exact ⟨e, rfl, by rw [← hx, a1, he], by rw [← hx, a3], .inl ⟨rfl, by rw [← hx, a2]⟩⟩
      · rw [if_neg e1] at hx
        exact ⟨y, rfl, by rw [← hx], by rw [← hx], .inr ⟨fun h9 => e1 h9.symm, hx.symm⟩⟩
  refine ⟨fun x hx => ?_, fun x hx => ?_, fun x y hx => ?_, fun x hx => ?_, ?_⟩
  · obtain ⟨i, hi⟩ := List.getElem?_of_mem hx
    obtain ⟨y, h1, h2, _⟩ := hget i x hi
    rw [h2]; exact h.key y (List.mem_of_getElem? h1)
  · obtain ⟨i, hi⟩ := List.getElem?_of_mem hx
    obtain ⟨y, h1, h2, _, h4⟩ := hget i x hi
    rcases h4 with ⟨rfl, h4⟩ | ⟨h4, h5⟩
    · rw [hj] at h1; cases h1
      unfold upd; rw [if_pos (by rw [h2, he]), h4]
    · have hne : x.key ≠ k := fun h9 => h4 (h.inj h1 hj (.inr (by rw [← h2, h9, he])))
      unfold upd; rw [if_neg hne, h5]; exact h.val y (List.mem_of_getElem? h1)
  · have hpos : ∀ (i : Nat) (y : MapEntry), es[i]? = some y → ∃ x, x ∈ es.modify j g ∧ x.key = y.key := fun i y hy => by
      have hi : (es.modify j g)[i]? = some (if j = i then g y else y) := by
        rw [List.getElem?_modify, hy]
        by_cases e1 : j = i
        · simp [e1]
        · simp [e1]
      refine ⟨_, List.mem_of_getElem? hi, ?_⟩
      obtain ⟨y', h1, h2, _⟩ := hget i _ hi
      rw [hy] at h1; cases h1; exact h2
    unfold upd at hx
    split at hx
    · rename_i e1
      obtain ⟨x2, a1, a2⟩ := hpos j e hj
      exact ⟨x2, a1, by rw [a2, he, e1]⟩
    · obtain ⟨y2, h1, h2⟩ := h.all x y hx
      obtain ⟨i, hi⟩ := List.getElem?_of_mem h1
      obtain ⟨x2, a1, a2⟩ := hpos i y2 hi
      exact ⟨x2, a1, by rw [a2, h2]⟩
  · obtain ⟨i, hi⟩ := List.getElem?_of_mem hx
    obtain ⟨y, h1, _, h3, _⟩ := hget i x hi
    rw [h3]; exact h.born y (List.mem_of_getElem? h1)
  · refine List.pairwise_iff_getElem.2 fun a b ha hb hab => ?_
    obtain ⟨y, h1, h2, h3, _⟩ := hget a _ (List.getElem?_eq_getElem ha)
    obtain ⟨z, h4, h5, h6, _⟩ := hget b _ (List.getElem?_eq_getElem hb)
    refine ⟨fun h9 => ?_, fun h9 => ?_⟩
    · have := h.inj h1 h4 (.inl (by rw [← h3, ← h6]; exact h9)); omega
    · have := h.inj h1 h4 (.inr (by rw [← h2, ← h5]; exact h9)); omega
theorem MapIs.erase {j : Nat} {e : MapEntry} (h : MapIs K es n f) (hj : es[j]? = some e) (he : e.key = k) : MapIs K (es.eraseIdx j) n (upd f k none) := by
  have hsub : ∀ x, x ∈ es.eraseIdx j → x ∈ es := fun x hx => (List.eraseIdx_sublist _ _).subset hx
  have hne : ∀ x, x ∈ es.eraseIdx j → x.key ≠ k := fun x hx h9 => by
    obtain ⟨i, hi, hx2⟩ := List.mem_eraseIdx_iff_getElem?.1 hx
    exact hi (h.inj hx2 hj (.inr (by rw [h9, he])))
  refine ⟨fun x hx => h.key x (hsub x hx), fun x hx => ?_, fun x y hx => ?_, fun x hx => h.born x (hsub x hx), h.nd.sublist (List.eraseIdx_sublist _ _)⟩
  · unfold upd; rw [if_neg (hne x hx)]; exact h.val x (hsub x hx)
  · unfold upd at hx
    split at hx
    · cases hx
    · rename_i e1
      obtain ⟨y2, h1, h2⟩ := h.all x y hx
      obtain ⟨i, hi⟩ := List.getElem?_of_mem h1
      exact ⟨y2, List.mem_eraseIdx_iff_getElem?.2 ⟨i, fun h9 => e1 (by subst h9; rw [hj] at hi; cases hi; rw [← h2, he]), hi⟩, h2⟩
theorem MapIs.same (h : MapIs K es n f) (hn : ∀ e, e ∈ es → e.key ≠ k) : MapIs K es n (upd f k none) :=
  ⟨h.key, fun x hx => by unfold upd; rw [if_neg (hn x hx)]; exact h.val x hx, fun x y hx => by
    unfold upd at hx
    split at hx
    · cases hx
    · exact h.all x y hx, h.born, h.nd⟩
theorem MapIs.none (h : MapIs K es n f) (hn : ∀ e, e ∈ es → e.key ≠ k) : f k = none := by
  cases hf : f k with
  | none => rfl
  | some v => obtain ⟨e, h1, h2⟩ := h.all k v hf; exact absurd h2 (hn e h1)
end
section
variable {P : Program} {T : TT} {N : Nat} {B : Nat} {w0 : World} {ds : List Deferred} {Q : Exit → Act → World → Prop} {F : Fr} {L : Lo} {pu : Prop}
variable {dst : Option Tmp} {ty : TypeId} {p : String} {af : Array Edge} {gd : Option (Nat × Bool)} {ops : Array Oper} {rest : List Oper} {K : Value → Prop} {es : List MapEntry} {n : Nat} {f : Value → Option Value}
theorem Ev.lookM (hT : TOK P T) (i : Nat) {t kt et : TypeId} {x y : Operand} {z k : Value} {r : Nat} {co : Bool} (KF : KeyF P kt K) (hx : evo F x = some (.map (some r))) (hy : evo F y = some k) (hL : L[i]? = some (r, mapE es n))
    (ht : P.underlying t = some (.map kt et)) (hz : lkG T.zero et = some z) (hm : MapIs K es n f) (hk : K k) :
    Ev P N B w0 ds pu F L ⟨dst, .lookup t x y co, ty, p, af, gd⟩ (if co = true then .tuple ⟨[(f k).getD z, .bool (f k).isSome]⟩ else (f k).getD z) :=
  .of_run fun a w hf hw => by
    have h2 := getObj_run (P := P) (show w.heap[r]? = some (.map es.toArray n) from hw.obj hL)
    have hc := fun em => KF.check w em hk
    rcases KF.find w hk es hm.key with ⟨h1, h3⟩ | ⟨j, e, h1, h3, h4⟩
    · have h5 := hm.none h3
      cases co <;> simp [execOp, hf.eval hx, hf.eval hy, Instr.lookup, run_underlying ht, h2, hc, h1, zero_run hT hz, h5]
    · have h5 : f k = some e.val := by rw [← h4]; exact hm.val e (List.mem_of_getElem? h3)
      cases co <;> simp [execOp, hf.eval hx, hf.eval hy, Instr.lookup, run_underlying ht, h2, hc, h1, h5]
theorem Ev.lookN2 (hT : TOK P T) (i : Nat) {t kt et : TypeId} {x y : Operand} {z k : Value} {r : Nat} (KF : KeyF P kt K) (hx : evo F x = some (.map (some r))) (hy : evo F y = some k) (hL : L[i]? = some (r, mapE es n))
    (ht : P.underlying t = some (.map kt et)) (hz : lkG T.zero et = some z) (hm : MapIs K es n f) (hk : K k) (hf : f k = none) : Ev P N B w0 ds pu F L ⟨dst, .lookup t x y true, ty, p, af, gd⟩ (.tuple ⟨[z, .bool false]⟩) := by
  have h := Ev.lookM (P := P) (N := N) (B := B) (w0 := w0) (ds := ds) (pu := pu) (dst := dst) (ty := ty) (p := p) (af := af) (gd := gd) hT i (co := true) KF hx hy hL ht hz hm hk
  rw [hf] at h; exact h
theorem Ev.lookY2 (hT : TOK P T) (i : Nat) {t kt et : TypeId} {x y : Operand} {z k v : Value} {r : Nat} (KF : KeyF P kt K) (hx : evo F x = some (.map (some r))) (hy : evo F y = some k) (hL : L[i]? = some (r, mapE es n))
    (ht : P.underlying t = some (.map kt et)) (hz : lkG T.zero et = some z) (hm : MapIs K es n f) (hk : K k) (hf : f k = some v) : Ev P N B w0 ds pu F L ⟨dst, .lookup t x y true, ty, p, af, gd⟩ (.tuple ⟨[v, .bool true]⟩) := by
  have h := Ev.lookM (P := P) (N := N) (B := B) (w0 := w0) (ds := ds) (pu := pu) (dst := dst) (ty := ty) (p := p) (af := af) (gd := gd) hT i (co := true) KF hx hy hL ht hz hm hk
  rw [hf] at h; exact h
theorem Ev.look1 (hT : TOK P T) (i : Nat) {t kt et : TypeId} {x y : Operand} {z k v : Value} {r : Nat} (KF : KeyF P kt K) (hx : evo F x = some (.map (some r))) (hy : evo F y = some k) (hL : L[i]? = some (r, mapE es n))
    (ht : P.underlying t = some (.map kt et)) (hz : lkG T.zero et = some z) (hm : MapIs K es n f) (hk : K k) (hf : (f k).getD z = v) : Ev P N B w0 ds pu F L ⟨dst, .lookup t x y false, ty, p, af, gd⟩ v := by
  have h := Ev.lookM (P := P) (N := N) (B := B) (w0 := w0) (ds := ds) (pu := pu) (dst := dst) (ty := ty) (p := p) (af := af) (gd := gd) hT i (co := false) KF hx hy hL ht hz hm hk
  rw [hf] at h; exact h
theorem XL.updM (i : Nat) {t kt et : TypeId} {x y u : Operand} {r : Nat} {k v : Value} {L' : List MapEntry → Nat → Lo} (KF : KeyF P kt K) (hx : evo F x = some (.map (some r))) (hy : evo F y = some k)
    (hu : evo F u = some v) (hL : L[i]? = some (r, mapE es n)) (ht : P.underlying t = some (.map kt et)) (hm : MapIs K es n f) (hk : K k) (hL' : ∀ es' n', setN L i (r, mapE es' n') = some (L' es' n'))
    (c : ∀ es' n', MapIs K es' n' (upd f k (some v)) → XL P N B w0 ds Q ops rest F (L' es' n')) :
    XL P N B w0 ds Q ops ({ dst := none, op := .mapUpdate t x y u, type := ty, pos := p, after := af, guard := none } :: rest) F L := by
  refine ⟨fun a w hf hs => ?_⟩
  refine wpList_plain rfl fun Kk hK => ?_
  unfold Oper.wp
  have hh := hs.obj hL
  have h2 := getObj_run (P := P) (show w.heap[r]? = some (.map es.toArray n) from hh)
  have hc := fun em => KF.check w em hk
  have h3 := fun o => setObj_run (P := P) (o := o) (show w.heap[r]? = some (.map es.toArray n) from hh)
  rcases KF.find w hk es hm.key with ⟨h1, h4⟩ | ⟨j, e, h1, h4, h5⟩
  · have hm2 := hm.push (v := v) hk h4
    have : (execOp a.eval { dst := none, op := .mapUpdate t x y u, type := ty, pos := p, after := af, guard := none }).run P w = .ok .skip { w with heap := w.heap.setIfInBounds r (mapE (es ++ [{ key := k, val := v, born := n }]) (n + 1)) } := by
      simp [execOp, hf.eval hx, hf.eval hy, hf.eval hu, Instr.mapUpdate, run_underlying ht, h2, hc, h1, h3, mapE]
    rw [this]
    exact hK _ _ ((c _ _ hm2).run _ _ hf (hs.setObj hL (setN_spec _ _ _ _ (hL' _ _)).1))
  · have hm2 := hm.modify (v := v) h4 h5 (fun e => { e with key := k, val := v }) ⟨rfl, rfl, rfl⟩
    have hst := KF.stays w hk
    have : (execOp a.eval { dst := none, op := .mapUpdate t x y u, type := ty, pos := p, after := af, guard := none }).run P w = .ok .skip { w with heap := w.heap.setIfInBounds r (mapE (es.modify j fun e => { e with key := k, val := v }) n) } := by
      have h6 : (es.toArray[j]?.map (·.key)).getD k = k := by simp [h4, h5]
      simp [execOp, hf.eval hx, hf.eval hy, hf.eval hu, Instr.mapUpdate, run_underlying ht, h2, hc, h1, h3, mapE, h4, h5, hst]
    rw [this]
    exact hK _ _ ((c _ _ hm2).run _ _ hf (hs.setObj hL (setN_spec _ _ _ _ (hL' _ _)).1))
theorem XL.delM (i : Nat) {t kt et t2 : TypeId} {x y : Operand} {r : Nat} {k : Value} {L' : List MapEntry → Nat → Lo} (KF : KeyF P kt K) (hx : evo F x = some (.map (some r))) (hy : evo F y = some k)
    (hL : L[i]? = some (r, mapE es n)) (ht : P.underlying t = some (.map kt et)) (hm : MapIs K es n f) (hk : K k) (hL' : ∀ es' n', setN L i (r, mapE es' n') = some (L' es' n'))
    (c : ∀ es' n', MapIs K es' n' (upd f k none) → XL P N B w0 ds Q ops rest F (L' es' n')) :
    XL P N B w0 ds Q ops ({ dst := none, op := .call { callee := .builtin .delete, args := #[x, y], argTypes := #[t, t2] }, type := ty, pos := p, after := af, guard := none } :: rest) F L := by
  refine ⟨fun a w hf hs => ?_⟩
  refine wpList_plain rfl fun Kk hK => ?_
  unfold Oper.wp
  have hh := hs.obj hL
  have h2 := getObj_run (P := P) (show w.heap[r]? = some (.map es.toArray n) from hh)
  have hc := fun em => KF.check w em hk
  have h3 := fun o => setObj_run (P := P) (o := o) (show w.heap[r]? = some (.map es.toArray n) from hh)
  rcases KF.find w hk es hm.key with ⟨h1, h4⟩ | ⟨j, e, h1, h4, h5⟩
  · have : (execOp a.eval { dst := none, op := .call { callee := .builtin .delete, args := #[x, y], argTypes := #[t, t2] }, type := ty, pos := p, after := af, guard := none }).run P w = .ok (.value (.tuple #[])) { w with heap := w.heap.setIfInBounds r (mapE es n) } := by
      have hmm : (#[x, y] : Array Operand).map a.eval = #[.map (some r), k] := by simp [hf.eval hx, hf.eval hy]
      simp [execOp, resolve, invoke, builtin, hmm, hf.eval hx, hf.eval hy, Builtin.delete_, run_underlying ht, h2, hc, h1, h3, mapE]
    rw [this]
    exact hK _ _ ((c _ _ (hm.same h4)).run _ _ hf (hs.setObj hL (setN_spec _ _ _ _ (hL' _ _)).1))
  · have hj : j < es.length := (List.getElem?_eq_some_iff.1 h4).1
    have : (execOp a.eval { dst := none, op := .call { callee := .builtin .delete, args := #[x, y], argTypes := #[t, t2] }, type := ty, pos := p, after := af, guard := none }).run P w = .ok (.value (.tuple #[])) { w with heap := w.heap.setIfInBounds r (mapE (es.eraseIdx j) n) } := by
      have hmm : (#[x, y] : Array Operand).map a.eval = #[.map (some r), k] := by simp [hf.eval hx, hf.eval hy]
      simp [execOp, resolve, invoke, builtin, hmm, hf.eval hx, hf.eval hy, Builtin.delete_, run_underlying ht, h2, hc, h1, h3, mapE]
    rw [this]
    exact hK _ _ ((c _ _ (hm.erase h4 h5)).run _ _ hf (hs.setObj hL (setN_spec _ _ _ _ (hL' _ _)).1))
theorem XL.entM (hT : TOK P T) (i : Nat) {d : Nat} {t kt et : TypeId} {x y : Operand} {r : Nat} {k z : Value} {L' : List MapEntry → Nat → Lo} (KF : KeyF P kt K) (hx : evo F x = some (.map (some r))) (hy : evo F y = some k)
    (hL : L[i]? = some (r, mapE es n)) (ht : P.underlying t = some (.map kt et)) (hz : lkG T.zero et = some z) (hm : MapIs K es n f) (hk : K k) (hd : Nat.blt d N = true) (hL' : ∀ es' n', setN L i (r, mapE es' n') = some (L' es' n'))
    (c : ∀ es' n' (b : Nat), MapIs K es' n' (upd f k (some ((f k).getD z))) → (∃ e, e ∈ es' ∧ e.key = k ∧ e.born = b) → XL P N B w0 ds Q ops rest ((d, .tuple ⟨[(f k).getD z, .int .i64 (b : Nat)]⟩) :: F) (L' es' n')) :
    XL P N B w0 ds Q ops ({ dst := some d, op := .mapEntry t x y, type := ty, pos := p, after := af, guard := none } :: rest) F L := by
  refine ⟨fun a w hf hs => ?_⟩
  refine wpList_plain rfl fun Kk hK => ?_
  unfold Oper.wp
  have hh := hs.obj hL
  have h2 := getObj_run (P := P) (show w.heap[r]? = some (.map es.toArray n) from hh)
  have hc := fun em => KF.check w em hk
  have h3 := fun o => setObj_run (P := P) (o := o) (show w.heap[r]? = some (.map es.toArray n) from hh)
  rcases KF.find w hk es hm.key with ⟨h1, h4⟩ | ⟨j, e, h1, h4, h5⟩
  · have hm2 := hm.push (v := z) hk h4
    have h6 := hm.none h4
    have c1 := c (es ++ [{ key := k, val := z, born := n }]) (n + 1) n (by rw [h6]; exact hm2) ⟨_, List.mem_append_right _ (.head _), rfl, rfl⟩
    rw [h6] at c1
    have : (execOp a.eval { dst := some d, op := .mapEntry t x y, type := ty, pos := p, after := af, guard := none }).run P w = .ok (.value (.tuple ⟨[z, .int .i64 (n : Nat)]⟩)) { w with heap := w.heap.setIfInBounds r (mapE (es ++ [{ key := k, val := z, born := n }]) (n + 1)) } := by
      simp [execOp, hf.eval hx, hf.eval hy, Instr.mapEntry, run_underlying ht, h2, hc, h1, h3, mapE, zero_run hT hz, goInt]
    rw [this]
    exact hK _ _ (c1.run _ _ (hf.put hd) (hs.setObj hL (setN_spec _ _ _ _ (hL' _ _)).1))
  · have hv : f k = some e.val := by rw [← h5]; exact hm.val e (List.mem_of_getElem? h4)
    have hm2 := hm.modify (v := e.val) h4 h5 (fun e => { e with key := k }) ⟨rfl, rfl, rfl⟩
    have hst := KF.stays w hk
    have hj : j < es.length := (List.getElem?_eq_some_iff.1 h4).1
    have c1 := c (es.modify j fun e => { e with key := k }) n e.born (by rw [hv]; exact hm2) ⟨{ e with key := k }, List.mem_of_getElem? (i := j) (by rw [List.getElem?_modify, h4]; simp), rfl, rfl⟩
    rw [hv] at c1
    have : (execOp a.eval { dst := some d, op := .mapEntry t x y, type := ty, pos := p, after := af, guard := none }).run P w = .ok (.value (.tuple ⟨[e.val, .int .i64 (e.born : Nat)]⟩)) { w with heap := w.heap.setIfInBounds r (mapE (es.modify j fun e => { e with key := k }) n) } := by
      simp [execOp, hf.eval hx, hf.eval hy, Instr.mapEntry, run_underlying ht, h2, hc, h1, h3, mapE, h4, h5, hst, goInt]
    rw [this]
    exact hK _ _ (c1.run _ _ (hf.put hd) (hs.setObj hL (setN_spec _ _ _ _ (hL' _ _)).1))
theorem XL.stoM (i : Nat) {t : TypeId} {x y u : Operand} {r b : Nat} {k v : Value} {L' : List MapEntry → Nat → Lo} (hx : evo F x = some (.map (some r))) (hy : evo F y = some (.int .i64 (b : Nat))) (hu : evo F u = some v)
    (hL : L[i]? = some (r, mapE es n)) (hm : MapIs K es n f) (hb : ∃ e, e ∈ es ∧ e.key = k ∧ e.born = b) (hL' : ∀ es' n', setN L i (r, mapE es' n') = some (L' es' n'))
    (c : ∀ es' n', MapIs K es' n' (upd f k (some v)) → XL P N B w0 ds Q ops rest F (L' es' n')) :
    XL P N B w0 ds Q ops ({ dst := none, op := .entryStore t x y u, type := ty, pos := p, after := af, guard := none } :: rest) F L := by
  refine ⟨fun a w hf hs => ?_⟩
  refine wpList_plain rfl fun Kk hK => ?_
  unfold Oper.wp
  have hh := hs.obj hL
  have h2 := getObj_run (P := P) (show w.heap[r]? = some (.map es.toArray n) from hh)
  have h3 := fun o => setObj_run (P := P) (o := o) (show w.heap[r]? = some (.map es.toArray n) from hh)
  obtain ⟨e, he, hk, hb⟩ := hb
  obtain ⟨j, hj⟩ := List.getElem?_of_mem he
  have hfi : es.findIdx? (fun e => (e.born : Int) == (b : Int)) = some j := by
    cases hf : es.findIdx? (fun e => (e.born : Int) == (b : Int)) with
    | none =>
      have := List.findIdx?_eq_none_iff.1 hf e he
      simp [hb] at this
    | some i2 =>
      obtain ⟨h5, h6, _⟩ := List.findIdx?_eq_some_iff_getElem.1 hf
      have h7 : es[i2].born = b := by simp only [beq_iff_eq] at h6; omega
      rw [hm.inj (List.getElem?_eq_getElem h5) hj (.inl (by rw [h7, hb]))]
  have hm2 := hm.modify (v := v) hj hk (fun e => { e with val := v }) ⟨hk, rfl, rfl⟩
  have : (execOp a.eval { dst := none, op := .entryStore t x y u, type := ty, pos := p, after := af, guard := none }).run P w = .ok .skip { w with heap := w.heap.setIfInBounds r (mapE (es.modify j fun e => { e with val := v }) n) } := by
    simp [execOp, hf.eval hx, hf.eval hy, hf.eval hu, Instr.entryStore, h2, h3, mapE, asInt, asIntOf, hfi]
  rw [this]
  exact hK _ _ ((c _ _ hm2).run _ _ hf (hs.setObj hL (setN_spec _ _ _ _ (hL' _ _)).1))
theorem XL.rngM (i : Nat) {d : Nat} {t kt et : TypeId} {x : Operand} {r : Nat} (hx : evo F x = some (.map (some r))) (hL : L[i]? = some (r, mapE es n)) (ht : P.underlying t = some (.map kt et)) (hd : Nat.blt d N = true)
    (c : ∀ g, w0.heap.size ≤ g → XL P N B w0 ds Q ops rest ((d, .pointer (some ⟨g, 0, none⟩)) :: F) ((g, .mapIter (some r) n #[] n) :: L)) :
    XL P N B w0 ds Q ops ({ dst := some d, op := .range t x, type := ty, pos := p, after := af, guard := none } :: rest) F L := by
  refine ⟨fun a w hf hs => ?_⟩
  refine wpList_plain rfl fun Kk hK => ?_
  unfold Oper.wp
  have hh := hs.obj hL
  have h2 := getObj_run (P := P) (show w.heap[r]? = some (.map es.toArray n) from hh)
  have : (execOp a.eval { dst := some d, op := .range t x, type := ty, pos := p, after := af, guard := none }).run P w = .ok (.value (.pointer (some ⟨w.heap.size, 0, none⟩))) (w.alloc (.mapIter (some r) n #[] n)) := by
    simp [execOp, hf.eval hx, Instr.range, run_underlying ht, h2]
  rw [this]
  exact hK _ _ ((c w.heap.size hs.size).run _ _ (hf.put hd) (hs.box _))
theorem XL.nxtM (i j : Nat) {d : Nat} {x : Operand} {r g s c0 : Nat} {seen : Array Nat} {L' : Array Nat → Lo} (hx : evo F x = some (.pointer (some ⟨g, 0, none⟩))) (hL : L[i]? = some (g, .mapIter (some r) s seen c0)) (hM : L[j]? = some (r, mapE es n))
    (hb : ∀ e, e ∈ es → e.born < s) (hs : s ≤ c0) (hd : Nat.blt d N = true) (hL' : ∀ seen', setN L i (g, .mapIter (some r) s seen' n) = some (L' seen'))
    (c1 : (∀ e, e ∈ es → seen.contains e.born = true) → XL P N B w0 ds Q ops rest ((d, .tuple ⟨[.bool false]⟩) :: F) L)
    (c2 : ∀ e, e ∈ es → seen.contains e.born = false → XL P N B w0 ds Q ops rest ((d, .tuple ⟨[.bool true, e.key, e.val]⟩) :: F) (L' (seen.push e.born))) :
    XL P N B w0 ds Q ops ({ dst := some d, op := .next x false, type := ty, pos := p, after := af, guard := none } :: rest) F L := by
  refine ⟨fun a w hf hs2 => ?_⟩
  refine wpList_plain rfl fun Kk hK => ?_
  unfold Oper.wp
  have hh := hs2.obj hL
  have hm := hs2.obj hM
  have hleft : ∀ e, e ∈ (leftOf es.toArray seen).toList ↔ e ∈ es ∧ seen.contains e.born = false := fun e => by simp [leftOf]
  rcases run_next_at (P := P) w ty g r s c0 seen es.toArray n hh hm (by simpa using hb) hs with ⟨h1, h2⟩ | ⟨e, he, w1, hw, h2⟩
  · have : (execOp a.eval { dst := some d, op := .next x false, type := ty, pos := p, after := af, guard := none }).run P w = .ok (.value (.tuple #[.bool false])) w := by
      simp [execOp, hf.eval hx, h2]
    rw [this]
    refine hK _ _ ((c1 fun e he => ?_).run _ _ (hf.put hd) hs2)
    cases hq : seen.contains e.born with
    | true => rfl
    | false =>
      have := (hleft e).2 ⟨he, hq⟩
      have h0 : (leftOf es.toArray seen).toList = [] := by
        apply List.eq_nil_of_length_eq_zero
        simpa using h1
      rw [h0] at this
      cases this
  · obtain ⟨h3, h4⟩ := (hleft e).1 he
    have : (execOp a.eval { dst := some d, op := .next x false, type := ty, pos := p, after := af, guard := none }).run P w = .ok (.value (.tuple #[.bool true, e.key, e.val])) (ChangeMaps.setBlock w1 g (.mapIter (some r) s (seen.push e.born) n)) := by
      simp [execOp, hf.eval hx, h2]
    rw [this]
    have hs3 : Sys B w0 L w1 := by
      rcases hw with rfl | rfl
      · exact hs2
      · exact hs2.drew
    exact hK _ _ ((c2 e h3 h4).run _ _ (hf.put hd) (hs3.setObj hL (setN_spec _ _ _ _ (hL' _)).1))
theorem Ev.ent (i j : Nat) {x : Operand} {r g s : Nat} {seen : Array Nat} {e : MapEntry} (hx : evo F x = some (.pointer (some ⟨g, 0, none⟩))) (hL : L[i]? = some (g, .mapIter (some r) s (seen.push e.born) n)) (hM : L[j]? = some (r, mapE es n))
    (hm : MapIs K es n f) (he : e ∈ es) : Ev P N B w0 ds pu F L ⟨dst, .entry x, ty, p, af, gd⟩ (.tuple ⟨[e.key, e.val]⟩) :=
  .of_run fun a w hf hw => by
    have h2 := run_entry_at (P := P) w g r s seen es.toArray n e (hw.obj hL) (hw.obj hM) (by simpa using he) (List.pairwise_map.2 (hm.nd.imp fun h => h.1))
    simp [execOp, hf.eval hx, h2]
end
end X
namespace X
open Go Go.RowKit Bs
def hMis (g i : Nat) (e : Int) : Held := ⟨fun w ok => ok g ∧ w.heap[g]? = some (cel 188 [.int .i64 (i : Nat), .int .i64 e]), fun h hk => ⟨h.1, (hk g h.1).trans h.2⟩, fun h hk => ⟨hk g h.1, h.2⟩⟩
def MisV (f : Nat → Int) (n : Nat) (v : Value) (new : List Held) : Prop := match firstN f n with
  | none => v = .nilIface ∧ new = []
  | some i => ∃ g, v = .iface 182 (.pointer (some ⟨g, 0, none⟩)) ∧ new = [hMis g i (f i)]
set_option maxHeartbeats 8000000 in
theorem eachC_any {f : FuncId} {cap : List Value} {R : Cha → Int} {r : SV} {l : List Cha} {w : World} (hck : callOk Tryz.prog f = true) (hr : ListAt chaK w (Lt w.heap.size) r l) (hn : l.length ≤ 1000) (hnm : ∀ x, x ∈ l → x.name.size ≤ 9223372036854775807)
    (hc : ∀ x, x ∈ l → ∀ w', Below w.heap.size w w' → Calls Tryz.prog f ([] ++ [Value.agg ⟨chaC x⟩] ++ cap).toArray w' fun e w'' => e = .returned (.int .i64 (R x)) ∧ Below w'.heap.size w' w'') :
    Calls Tryz.prog 76 #[svV r, .func (.func 77) #[] #[], .func (.func f) #[] cap.toArray] w (Made w (MisV (eachE (fun x : Cha => x.name) R l) l.length)) := by
  obtain ⟨A, n, c⟩ := r
  have hln := hr.len (by decide)
  simp only at hln
  subst hln
  simp only [svV]
  refine enter Tryz.func76 rfl Tryz.ntmps76 rfl ?_; simp only [frame, Nat.zero_add, Nat.reduceAdd]
  repeat (first | (refine M0 ?_; first | refine SL ?_ | refine SB fun _ _ => ?_) | (refine M1 ?_; refine SC ?_) | (refine M2 ?_; refine SE ?_))
  refine XL.makeMap rfl fun gm hgm => ?_
  repeat (first | (refine M0 ?_; first | refine SL ?_ | refine SB fun _ _ => ?_) | (refine M1 ?_; refine SC ?_) | (refine M2 ?_; refine SE ?_))
  have hck1 : callOk Tryz.prog 77 = true := ck rfl
  have hKF := KeyF.str (P := Tryz.prog) Tryz.underlying9
  refine XC.loopk [1, 2, 7, 14, 15] rfl (fun z : Nat × List MapEntry × Nat × (Value → Option Value) => [(16, .int .i64 (z.1 : Nat))]) (fun z => [(gm, mapE z.2.1 z.2.2.1)]) (fun _ => w) (fun z => z.1 ≤ l.length ∧ (∀ j, j < z.1 → eachE (fun x : Cha => x.name) R l j = 0) ∧ MapIs strV z.2.1 z.2.2.1 z.2.2.2 ∧ ∀ s, (z.2.2.2 (.string s)).isSome = (l.take z.1).any fun x => decide (x.name = s)) (fun z => l.length - z.1) (0, [], 0, fun _ => none) ⟨Nat.zero_le _, fun j hj => absurd hj (Nat.not_lt_zero j), MapIs.nil, fun s => rfl⟩ ZZSUB (fun _ h => h) ?_
  rintro ⟨k, es, n, f0⟩ ⟨hk, hok, hm, hs⟩
  simp only at hk hok hm hs
  dsimp only [List.cons_append, List.nil_append]
  repeat (first | (refine M0 ?_; first | refine SL ?_ | refine SB fun _ _ => ?_) | (refine M1 ?_; refine SC ?_) | (refine M2 ?_; refine SE ?_))
  refine XC.cond _ rfl (fun h2 => ?_) (fun h2 => ?_)
  · have hkn : k < l.length := by have := of_decide_eq_true h2; omega
    clear h2
    obtain ⟨ad, rfl, hlt⟩ := hr.addr (by decide) (by omega)
    have hx : l[k]? = some l[k] := List.getElem?_eq_getElem hkn
    have hcl := hr.elem hx
    have hmem : l[k] ∈ l := List.getElem_mem hkn
    have hE : eachE (fun x : Cha => x.name) R l k = if nameB ((fun x : Cha => x.name) l[k]) = false then 6 else if (l.take k).any (fun y => decide ((fun x : Cha => x.name) y = (fun x : Cha => x.name) l[k])) then 5 else R l[k] := by unfold eachE; rw [hx]
    obtain ⟨x, hxe⟩ : ∃ x, x = l[k] := ⟨_, rfl⟩
    rw [← hxe] at hcl hmem hE
    have hname := hnm x hmem
    have hrest := hc x hmem
    have hsx := hs x.name
    simp only at hE
    rw [← hsx] at hE
    simp only [chaC] at hcl hrest
    have hnf : ∀ w5 : World, Calls Tryz.prog 77 ([] ++ [Value.agg ⟨chaC x⟩] ++ []).toArray w5 fun e w' => e = .returned (.string x.name) ∧ Below w5.heap.size w5 w' := fun w5 => by simp only [List.nil_append, List.append_nil]; exact achk1_any x w5
    simp only [chaC] at hnf
    have hfi : ∀ e, eachE (fun x : Cha => x.name) R l k = e → e ≠ 0 → firstN (eachE (fun x : Cha => x.name) R l) l.length = some k := fun e he hne => firstN_some hkn hok (by rw [he]; exact hne)
    cases hf : f0 (.string x.name) with
    | some v0 =>
      rw [hf] at hE
      repeat (first | (refine M0 ?_; first | refine SL ?_ | refine SB fun _ _ => ?_ | refine Y4 (Ev.load_old_agg tok (chaC x) rfl rfl rfl (add_lt hlt) hcl) ?_) | (refine M1 ?_; refine SC ?_) | (refine M2 ?_; refine SE ?_))
      refine Y4 (Ev.callv (f := 77) (fst := []) (cap := []) hck1 rfl rfl (fun w5 S5 => hnf w5)) ?_
      repeat (first | (refine M0 ?_; first | refine SL ?_ | refine SB fun _ _ => ?_ | refine Y4 (Ev.lookY2 tok 1 hKF rfl rfl rfl Tryz.underlying214 rfl hm ⟨_, rfl⟩ hf) ?_) | (refine M1 ?_; refine SC ?_) | (refine M2 ?_; refine SE ?_))
      refine Y4 (Ev.callv (f := 77) (fst := []) (cap := []) hck1 rfl rfl (fun w5 S5 => hnf w5)) ?_
      repeat (first | (refine M0 ?_; first | refine SL ?_ | refine SB fun _ _ => ?_ | refine Y4 (Ev.call (f := 68) (ck rfl) rfl (fun w5 _ => name_any _ hname w5)) ?_) | (refine M1 ?_; refine SC ?_) | (refine M2 ?_; refine SE ?_))
      cases hb : nameB x.name with
      | false =>
        rw [hb] at hE
        repeat (first | (refine M0 ?_; first | refine SL ?_ | refine SB fun _ _ => ?_ | refine Y4 (Ev.makeI misT_con rfl) ?_) | (refine M1 ?_; refine SC ?_) | (refine M2 ?_; refine SE ?_))
        rename_i gb hgb
        refine XE.retg tok Tryz.results76 rfl (by simp only [and_self, and_true]) (fun w' S => ?_)
        refine ⟨_, [hMis gb k 6], rfl, ?_, fun y hy => ?_, S.toBelow⟩
        · show MisV _ _ _ _
          unfold MisV
          rw [hfi 6 hE (by decide)]
          exact ⟨gb, rfl, by rw [show eachE (fun x : Cha => x.name) R l k = 6 from hE]⟩
        · rw [List.mem_singleton.1 hy]
          exact ⟨⟨hgb, S.keyLt gb (by simp)⟩, (S.own (gb, _) (by repeat (first | exact List.mem_cons_self | apply List.mem_cons_of_mem))).2⟩
      | true =>
        rw [hb] at hE
        repeat (first | (refine M0 ?_; first | refine SL ?_ | refine SB fun _ _ => ?_ | refine Y4 (Ev.makeI misT_con rfl) ?_) | (refine M1 ?_; refine SC ?_) | (refine M2 ?_; refine SE ?_))
        rename_i gb hgb
        refine XE.retg tok Tryz.results76 rfl (by simp only [and_self, and_true]) (fun w' S => ?_)
        refine ⟨_, [hMis gb k 5], rfl, ?_, fun y hy => ?_, S.toBelow⟩
        · show MisV _ _ _ _
          unfold MisV
          rw [hfi 5 hE (by decide)]
          exact ⟨gb, rfl, by rw [show eachE (fun x : Cha => x.name) R l k = 5 from hE]⟩
        · rw [List.mem_singleton.1 hy]
          exact ⟨⟨hgb, S.keyLt gb (by simp)⟩, (S.own (gb, _) (by repeat (first | exact List.mem_cons_self | apply List.mem_cons_of_mem))).2⟩
    | none =>
      rw [hf] at hE
      repeat (first | (refine M0 ?_; first | refine SL ?_ | refine SB fun _ _ => ?_ | refine Y4 (Ev.load_old_agg tok (chaC x) rfl rfl rfl (add_lt hlt) hcl) ?_) | (refine M1 ?_; refine SC ?_) | (refine M2 ?_; refine SE ?_))
      refine Y4 (Ev.callv (f := 77) (fst := []) (cap := []) hck1 rfl rfl (fun w5 S5 => hnf w5)) ?_
      repeat (first | (refine M0 ?_; first | refine SL ?_ | refine SB fun _ _ => ?_ | refine Y4 (Ev.lookN2 tok 1 hKF rfl rfl rfl Tryz.underlying214 rfl hm ⟨_, rfl⟩ hf) ?_) | (refine M1 ?_; refine SC ?_) | (refine M2 ?_; refine SE ?_))
      refine Y4 (Ev.callv (f := 77) (fst := []) (cap := []) hck1 rfl rfl (fun w5 S5 => hnf w5)) ?_
      repeat (first | (refine M0 ?_; first | refine SL ?_ | refine SB fun _ _ => ?_ | refine Y4 (Ev.call (f := 68) (ck rfl) rfl (fun w5 _ => name_any _ hname w5)) ?_) | (refine M1 ?_; refine SC ?_) | (refine M2 ?_; refine SE ?_))
      cases hb : nameB x.name with
      | false =>
        rw [hb] at hE
        repeat (first | (refine M0 ?_; first | refine SL ?_ | refine SB fun _ _ => ?_ | refine Y4 (Ev.makeI misT_con rfl) ?_) | (refine M1 ?_; refine SC ?_) | (refine M2 ?_; refine SE ?_))
        rename_i gb hgb
        refine XE.retg tok Tryz.results76 rfl (by simp only [and_self, and_true]) (fun w' S => ?_)
        refine ⟨_, [hMis gb k 6], rfl, ?_, fun y hy => ?_, S.toBelow⟩
        · show MisV _ _ _ _
          unfold MisV
          rw [hfi 6 hE (by decide)]
          exact ⟨gb, rfl, by rw [show eachE (fun x : Cha => x.name) R l k = 6 from hE]⟩
        · rw [List.mem_singleton.1 hy]
          exact ⟨⟨hgb, S.keyLt gb (by simp)⟩, (S.own (gb, _) (by repeat (first | exact List.mem_cons_self | apply List.mem_cons_of_mem))).2⟩
      | true =>
        rw [hb] at hE
        have hE2 : eachE (fun x : Cha => x.name) R l k = R x := hE
        obtain ⟨e, he⟩ : ∃ e, e = R x := ⟨_, rfl⟩
        rw [← he] at hrest hE2
        repeat (first | (refine M0 ?_; first | refine SL ?_ | refine SB fun _ _ => ?_) | (refine M1 ?_; refine SC ?_) | (refine M2 ?_; refine SE ?_))
        refine Y4 (Ev.callv (f := f) (fst := []) (cap := cap) hck rfl rfl (fun w5 S5 => hrest w5 S5.toBelow)) ?_
        repeat (first | (refine M0 ?_; first | refine SL ?_ | refine SB fun _ _ => ?_) | (refine M1 ?_; refine SC ?_) | (refine M2 ?_; refine SE ?_))
        refine XC.cond _ rfl (fun h4 => ?_) (fun h4 => ?_)
        · have hne : e ≠ 0 := of_decide_eq_true h4
          repeat (first | (refine M0 ?_; first | refine SL ?_ | refine SB fun _ _ => ?_ | refine Y4 (Ev.makeI misT_con rfl) ?_) | (refine M1 ?_; refine SC ?_) | (refine M2 ?_; refine SE ?_))
          rename_i gb hgb
          refine XE.retg tok Tryz.results76 rfl (by simp only [and_self, and_true]) (fun w' S => ?_)
          refine ⟨_, [hMis gb k e], rfl, ?_, fun y hy => ?_, S.toBelow⟩
          · show MisV _ _ _ _
            unfold MisV
            rw [hfi e hE2 hne]
            exact ⟨gb, rfl, by rw [show eachE (fun x : Cha => x.name) R l k = e from hE2]⟩
          · rw [List.mem_singleton.1 hy]
            exact ⟨⟨hgb, S.keyLt gb (by simp)⟩, (S.own (gb, _) (by repeat (first | exact List.mem_cons_self | apply List.mem_cons_of_mem))).2⟩
        · have he0 : e = 0 := Decidable.not_not.1 (of_decide_eq_false h4)
          repeat (first | (refine M0 ?_; first | refine SL ?_ | refine SB fun _ _ => ?_) | (refine M1 ?_; refine SC ?_) | (refine M2 ?_; refine SE ?_))
          refine Y4 (Ev.callv (f := 77) (fst := []) (cap := []) hck1 rfl rfl (fun w5 S5 => hnf w5)) ?_
          repeat (first | (refine M0 ?_; first | refine SL ?_ | refine SB fun _ _ => ?_) | (refine M1 ?_; refine SC ?_) | (refine M2 ?_; refine SE ?_))
          refine XL.updM 1 hKF rfl rfl rfl rfl Tryz.underlying214 hm ⟨_, rfl⟩ (fun _ _ => rfl) (fun es' n' hm' => ?_)
          repeat (first | (refine M0 ?_; first | refine SL ?_ | refine SB fun _ _ => ?_) | (refine M1 ?_; refine SC ?_) | (refine M2 ?_; refine SE ?_))
          refine XE.round (s := (k, es, n, f0)) (k + 1, es', n', upd f0 (.string x.name) (some (.int .i64 (k : Nat)))) ⟨hkn, fun j hj => ?_, hm', fun s => ?_⟩ (by simp only; omega) ZZSUB (fun _ h => by first | exact h | exact h.pop (by assumption) | exact (h.pop (by assumption)).pop (by assumption) | exact ((h.pop (by assumption)).pop (by assumption)).pop (by assumption) | exact (((h.pop (by assumption)).pop (by assumption)).pop (by assumption)).pop (by assumption) | exact Sys.anchor (by assumption) h (by simp) (by simp))
          · rcases Nat.lt_succ_iff_lt_or_eq.1 hj with hj | rfl
            · exact hok j hj
            · rw [hE2]; exact he0
          · simp only
            rw [List.take_succ_eq_append_getElem hkn, List.any_append, ← hs s]
            simp only [List.any_cons, List.any_nil, Bool.or_false]
            rw [← hxe]
            by_cases e9 : x.name = s
            · subst e9; simp [upd]
            · have : (Value.string s) ≠ .string x.name := fun h => e9 (Value.string.inj h).symm
              simp [upd, this, e9]
  have hkn : k = l.length := by have := of_decide_eq_false h2; omega
  subst hkn
  repeat (first | (refine M0 ?_; first | refine SL ?_ | refine SB fun _ _ => ?_) | (refine M1 ?_; refine SC ?_) | (refine M2 ?_; refine SE ?_))
  refine XE.retg tok Tryz.results76 rfl (by simp only [and_self, and_true]) (fun w' S => ?_)
  refine ⟨_, [], rfl, ?_, (fun y hy => by cases hy), S.toBelow⟩
  show MisV _ _ _ _
  unfold MisV
  rw [firstN_none hok]
  exact ⟨rfl, rfl⟩
set_option maxHeartbeats 8000000 in
theorem eachT_any {f : FuncId} {cap : List Value} {R : (SV × Twn) → Int} {r : SV} {l : List (SV × Twn)} {w : World} (hck : callOk Tryz.prog f = true) (hr : ListAt twnK w (Lt w.heap.size) r l) (hn : l.length ≤ 1000) (hnm : ∀ x, x ∈ l → x.2.name.size ≤ 9223372036854775807)
    (hc : ∀ x, x ∈ l → ∀ w', Below w.heap.size w w' → Calls Tryz.prog f ([] ++ [Value.agg ⟨twnC x.1 x.2⟩] ++ cap).toArray w' fun e w'' => e = .returned (.int .i64 (R x)) ∧ Below w'.heap.size w' w'') :
    Calls Tryz.prog 79 #[svV r, .func (.func 80) #[] #[], .func (.func f) #[] cap.toArray] w (Made w (MisV (eachE (fun x : (SV × Twn) => x.2.name) R l) l.length)) := by
  obtain ⟨A, n, c⟩ := r
  have hln := hr.len (by decide)
  simp only at hln
  subst hln
  simp only [svV]
  refine enter Tryz.func79 rfl Tryz.ntmps79 rfl ?_; simp only [frame, Nat.zero_add, Nat.reduceAdd]
  repeat (first | (refine M0 ?_; first | refine SL ?_ | refine SB fun _ _ => ?_) | (refine M1 ?_; refine SC ?_) | (refine M2 ?_; refine SE ?_))
  refine XL.makeMap rfl fun gm hgm => ?_
  repeat (first | (refine M0 ?_; first | refine SL ?_ | refine SB fun _ _ => ?_) | (refine M1 ?_; refine SC ?_) | (refine M2 ?_; refine SE ?_))
  have hck1 : callOk Tryz.prog 80 = true := ck rfl
  have hKF := KeyF.str (P := Tryz.prog) Tryz.underlying9
  refine XC.loopk [1, 2, 7, 14, 15] rfl (fun z : Nat × List MapEntry × Nat × (Value → Option Value) => [(16, .int .i64 (z.1 : Nat))]) (fun z => [(gm, mapE z.2.1 z.2.2.1)]) (fun _ => w) (fun z => z.1 ≤ l.length ∧ (∀ j, j < z.1 → eachE (fun x : (SV × Twn) => x.2.name) R l j = 0) ∧ MapIs strV z.2.1 z.2.2.1 z.2.2.2 ∧ ∀ s, (z.2.2.2 (.string s)).isSome = (l.take z.1).any fun x => decide (x.2.name = s)) (fun z => l.length - z.1) (0, [], 0, fun _ => none) ⟨Nat.zero_le _, fun j hj => absurd hj (Nat.not_lt_zero j), MapIs.nil, fun s => rfl⟩ ZZSUB (fun _ h => h) ?_
  rintro ⟨k, es, n, f0⟩ ⟨hk, hok, hm, hs⟩
  simp only at hk hok hm hs
  dsimp only [List.cons_append, List.nil_append]
  repeat (first | (refine M0 ?_; first | refine SL ?_ | refine SB fun _ _ => ?_) | (refine M1 ?_; refine SC ?_) | (refine M2 ?_; refine SE ?_))
  refine XC.cond _ rfl (fun h2 => ?_) (fun h2 => ?_)
  · have hkn : k < l.length := by have := of_decide_eq_true h2; omega
    clear h2
    obtain ⟨ad, rfl, hlt⟩ := hr.addr (by decide) (by omega)
    have hx : l[k]? = some l[k] := List.getElem?_eq_getElem hkn
    have hcl := hr.elem hx
    have hmem : l[k] ∈ l := List.getElem_mem hkn
    have hE : eachE (fun x : (SV × Twn) => x.2.name) R l k = if nameB ((fun x : (SV × Twn) => x.2.name) l[k]) = false then 6 else if (l.take k).any (fun y => decide ((fun x : (SV × Twn) => x.2.name) y = (fun x : (SV × Twn) => x.2.name) l[k])) then 5 else R l[k] := by unfold eachE; rw [hx]
    obtain ⟨x, hxe⟩ : ∃ x, x = l[k] := ⟨_, rfl⟩
    rw [← hxe] at hcl hmem hE
    have hname := hnm x hmem
    have hrest := hc x hmem
    have hsx := hs x.2.name
    simp only at hE
    rw [← hsx] at hE
    simp only [twnC] at hcl hrest
    have hnf : ∀ w5 : World, Calls Tryz.prog 80 ([] ++ [Value.agg ⟨twnC x.1 x.2⟩] ++ []).toArray w5 fun e w' => e = .returned (.string x.2.name) ∧ Below w5.heap.size w5 w' := fun w5 => by simp only [List.nil_append, List.append_nil]; exact achk3_any x.1 x.2 w5
    simp only [twnC] at hnf
    have hfi : ∀ e, eachE (fun x : (SV × Twn) => x.2.name) R l k = e → e ≠ 0 → firstN (eachE (fun x : (SV × Twn) => x.2.name) R l) l.length = some k := fun e he hne => firstN_some hkn hok (by rw [he]; exact hne)
    cases hf : f0 (.string x.2.name) with
    | some v0 =>
      rw [hf] at hE
      repeat (first | (refine M0 ?_; first | refine SL ?_ | refine SB fun _ _ => ?_ | refine Y4 (Ev.load_old_agg tok (twnC x.1 x.2) rfl rfl rfl (add_lt hlt) hcl) ?_) | (refine M1 ?_; refine SC ?_) | (refine M2 ?_; refine SE ?_))
      refine Y4 (Ev.callv (f := 80) (fst := []) (cap := []) hck1 rfl rfl (fun w5 S5 => hnf w5)) ?_
      repeat (first | (refine M0 ?_; first | refine SL ?_ | refine SB fun _ _ => ?_ | refine Y4 (Ev.lookY2 tok 1 hKF rfl rfl rfl Tryz.underlying214 rfl hm ⟨_, rfl⟩ hf) ?_) | (refine M1 ?_; refine SC ?_) | (refine M2 ?_; refine SE ?_))
      refine Y4 (Ev.callv (f := 80) (fst := []) (cap := []) hck1 rfl rfl (fun w5 S5 => hnf w5)) ?_
      repeat (first | (refine M0 ?_; first | refine SL ?_ | refine SB fun _ _ => ?_ | refine Y4 (Ev.call (f := 68) (ck rfl) rfl (fun w5 _ => name_any _ hname w5)) ?_) | (refine M1 ?_; refine SC ?_) | (refine M2 ?_; refine SE ?_))
      cases hb : nameB x.2.name with
      | false =>
        rw [hb] at hE
        repeat (first | (refine M0 ?_; first | refine SL ?_ | refine SB fun _ _ => ?_ | refine Y4 (Ev.makeI misT_con rfl) ?_) | (refine M1 ?_; refine SC ?_) | (refine M2 ?_; refine SE ?_))
        rename_i gb hgb
        refine XE.retg tok Tryz.results79 rfl (by simp only [and_self, and_true]) (fun w' S => ?_)
        refine ⟨_, [hMis gb k 6], rfl, ?_, fun y hy => ?_, S.toBelow⟩
        · show MisV _ _ _ _
          unfold MisV
          rw [hfi 6 hE (by decide)]
          exact ⟨gb, rfl, by rw [show eachE (fun x : (SV × Twn) => x.2.name) R l k = 6 from hE]⟩
        · rw [List.mem_singleton.1 hy]
          exact ⟨⟨hgb, S.keyLt gb (by simp)⟩, (S.own (gb, _) (by repeat (first | exact List.mem_cons_self | apply List.mem_cons_of_mem))).2⟩
      | true =>
        rw [hb] at hE
        repeat (first | (refine M0 ?_; first | refine SL ?_ | refine SB fun _ _ => ?_ | refine Y4 (Ev.makeI misT_con rfl) ?_) | (refine M1 ?_; refine SC ?_) | (refine M2 ?_; refine SE ?_))
        rename_i gb hgb
        refine XE.retg tok Tryz.results79 rfl (by simp only [and_self, and_true]) (fun w' S => ?_)
        refine ⟨_, [hMis gb k 5], rfl, ?_, fun y hy => ?_, S.toBelow⟩
        · show MisV _ _ _ _
          unfold MisV
          rw [hfi 5 hE (by decide)]
          exact ⟨gb, rfl, by rw [show eachE (fun x : (SV × Twn) => x.2.name) R l k = 5 from hE]⟩
        · rw [List.mem_singleton.1 hy]
          exact ⟨⟨hgb, S.keyLt gb (by simp)⟩, (S.own (gb, _) (by repeat (first | exact List.mem_cons_self | apply List.mem_cons_of_mem))).2⟩
    | none =>
      rw [hf] at hE
      repeat (first | (refine M0 ?_; first | refine SL ?_ | refine SB fun _ _ => ?_ | refine Y4 (Ev.load_old_agg tok (twnC x.1 x.2) rfl rfl rfl (add_lt hlt) hcl) ?_) | (refine M1 ?_; refine SC ?_) | (refine M2 ?_; refine SE ?_))
      refine Y4 (Ev.callv (f := 80) (fst := []) (cap := []) hck1 rfl rfl (fun w5 S5 => hnf w5)) ?_
      repeat (first | (refine M0 ?_; first | refine SL ?_ | refine SB fun _ _ => ?_ | refine Y4 (Ev.lookN2 tok 1 hKF rfl rfl rfl Tryz.underlying214 rfl hm ⟨_, rfl⟩ hf) ?_) | (refine M1 ?_; refine SC ?_) | (refine M2 ?_; refine SE ?_))
      refine Y4 (Ev.callv (f := 80) (fst := []) (cap := []) hck1 rfl rfl (fun w5 S5 => hnf w5)) ?_
      repeat (first | (refine M0 ?_; first | refine SL ?_ | refine SB fun _ _ => ?_ | refine Y4 (Ev.call (f := 68) (ck rfl) rfl (fun w5 _ => name_any _ hname w5)) ?_) | (refine M1 ?_; refine SC ?_) | (refine M2 ?_; refine SE ?_))
      cases hb : nameB x.2.name with
      | false =>
        rw [hb] at hE
        repeat (first | (refine M0 ?_; first | refine SL ?_ | refine SB fun _ _ => ?_ | refine Y4 (Ev.makeI misT_con rfl) ?_) | (refine M1 ?_; refine SC ?_) | (refine M2 ?_; refine SE ?_))
        rename_i gb hgb
        refine XE.retg tok Tryz.results79 rfl (by simp only [and_self, and_true]) (fun w' S => ?_)
        refine ⟨_, [hMis gb k 6], rfl, ?_, fun y hy => ?_, S.toBelow⟩
        · show MisV _ _ _ _
          unfold MisV
          rw [hfi 6 hE (by decide)]
          exact ⟨gb, rfl, by rw [show eachE (fun x : (SV × Twn) => x.2.name) R l k = 6 from hE]⟩
        · rw [List.mem_singleton.1 hy]
          exact ⟨⟨hgb, S.keyLt gb (by simp)⟩, (S.own (gb, _) (by repeat (first | exact List.mem_cons_self | apply List.mem_cons_of_mem))).2⟩
      | true =>
        rw [hb] at hE
        have hE2 : eachE (fun x : (SV × Twn) => x.2.name) R l k = R x := hE
        obtain ⟨e, he⟩ : ∃ e, e = R x := ⟨_, rfl⟩
        rw [← he] at hrest hE2
        repeat (first | (refine M0 ?_; first | refine SL ?_ | refine SB fun _ _ => ?_) | (refine M1 ?_; refine SC ?_) | (refine M2 ?_; refine SE ?_))
        refine Y4 (Ev.callv (f := f) (fst := []) (cap := cap) hck rfl rfl (fun w5 S5 => hrest w5 S5.toBelow)) ?_
        repeat (first | (refine M0 ?_; first | refine SL ?_ | refine SB fun _ _ => ?_) | (refine M1 ?_; refine SC ?_) | (refine M2 ?_; refine SE ?_))
        refine XC.cond _ rfl (fun h4 => ?_) (fun h4 => ?_)
        · have hne : e ≠ 0 := of_decide_eq_true h4
          repeat (first | (refine M0 ?_; first | refine SL ?_ | refine SB fun _ _ => ?_ | refine Y4 (Ev.makeI misT_con rfl) ?_) | (refine M1 ?_; refine SC ?_) | (refine M2 ?_; refine SE ?_))
          rename_i gb hgb
          refine XE.retg tok Tryz.results79 rfl (by simp only [and_self, and_true]) (fun w' S => ?_)
          refine ⟨_, [hMis gb k e], rfl, ?_, fun y hy => ?_, S.toBelow⟩
          · show MisV _ _ _ _
            unfold MisV
            rw [hfi e hE2 hne]
            exact ⟨gb, rfl, by rw [show eachE (fun x : (SV × Twn) => x.2.name) R l k = e from hE2]⟩
          · rw [List.mem_singleton.1 hy]
            exact ⟨⟨hgb, S.keyLt gb (by simp)⟩, (S.own (gb, _) (by repeat (first | exact List.mem_cons_self | apply List.mem_cons_of_mem))).2⟩
        · have he0 : e = 0 := Decidable.not_not.1 (of_decide_eq_false h4)
          repeat (first | (refine M0 ?_; first | refine SL ?_ | refine SB fun _ _ => ?_) | (refine M1 ?_; refine SC ?_) | (refine M2 ?_; refine SE ?_))
          refine Y4 (Ev.callv (f := 80) (fst := []) (cap := []) hck1 rfl rfl (fun w5 S5 => hnf w5)) ?_
          repeat (first | (refine M0 ?_; first | refine SL ?_ | refine SB fun _ _ => ?_) | (refine M1 ?_; refine SC ?_) | (refine M2 ?_; refine SE ?_))
          refine XL.updM 1 hKF rfl rfl rfl rfl Tryz.underlying214 hm ⟨_, rfl⟩ (fun _ _ => rfl) (fun es' n' hm' => ?_)
          repeat (first | (refine M0 ?_; first | refine SL ?_ | refine SB fun _ _ => ?_) | (refine M1 ?_; refine SC ?_) | (refine M2 ?_; refine SE ?_))
          refine XE.round (s := (k, es, n, f0)) (k + 1, es', n', upd f0 (.string x.2.name) (some (.int .i64 (k : Nat)))) ⟨hkn, fun j hj => ?_, hm', fun s => ?_⟩ (by simp only; omega) ZZSUB (fun _ h => by first | exact h | exact h.pop (by assumption) | exact (h.pop (by assumption)).pop (by assumption) | exact ((h.pop (by assumption)).pop (by assumption)).pop (by assumption) | exact (((h.pop (by assumption)).pop (by assumption)).pop (by assumption)).pop (by assumption) | exact Sys.anchor (by assumption) h (by simp) (by simp))
          · rcases Nat.lt_succ_iff_lt_or_eq.1 hj with hj | rfl
            · exact hok j hj
            · rw [hE2]; exact he0
          · simp only
            rw [List.take_succ_eq_append_getElem hkn, List.any_append, ← hs s]
            simp only [List.any_cons, List.any_nil, Bool.or_false]
            rw [← hxe]
            by_cases e9 : x.2.name = s
            · subst e9; simp [upd]
            · have : (Value.string s) ≠ .string x.2.name := fun h => e9 (Value.string.inj h).symm
              simp [upd, this, e9]
  have hkn : k = l.length := by have := of_decide_eq_false h2; omega
  subst hkn
  repeat (first | (refine M0 ?_; first | refine SL ?_ | refine SB fun _ _ => ?_) | (refine M1 ?_; refine SC ?_) | (refine M2 ?_; refine SE ?_))
  refine XE.retg tok Tryz.results79 rfl (by simp only [and_self, and_true]) (fun w' S => ?_)
  refine ⟨_, [], rfl, ?_, (fun y hy => by cases hy), S.toBelow⟩
  show MisV _ _ _ _
  unfold MisV
  rw [firstN_none hok]
  exact ⟨rfl, rfl⟩
end X
namespace X
open Go Go.Shelf
def shR : Ren := ⟨fun n => match n with | 125 => 105 | 128 => 120 | 129 => 121 | 189 => 94 | 215 => 69 | 216 => 117 | 257 => 104 | 294 => 111 | 295 => 112 | 296 => 113 | 297 => 114 | 298 => 115 | 299 => 116 | 300 => 118 | 301 => 119 | 328 => 125 | 329 => 126 | 330 => 127 | 331 => 128 | 332 => 129 | 343 => 130 | n => n, fun n => match n with | 0 => 0 | 3 => 3 | 4 => 4 | 5 => 5 | 9 => 9 | 28 => 26 | 46 => 225 | 51 => 240 | 53 => 242 | 131 => 142 | 182 => 233 | 183 => 234 | 218 => 245 | 222 => 249 | 228 => 251 | 229 => 252 | n => n, fun n => n⟩
theorem sh189 : Lays.n189 Tryz.prog shR := { mixed := by kernel_rfl, f125 := by kernel_rfl, f128 := by kernel_rfl, f129 := by kernel_rfl, f189 := by kernel_rfl, f215 := by kernel_rfl, f216 := by kernel_rfl, f257 := by kernel_rfl, f294 := by kernel_rfl, f295 := by kernel_rfl, f296 := by kernel_rfl, f297 := by kernel_rfl, f298 := by kernel_rfl, f299 := by kernel_rfl, f300 := by kernel_rfl, f301 := by kernel_rfl, f328 := by kernel_rfl, f329 := by kernel_rfl, f330 := by kernel_rfl, f331 := by kernel_rfl, f332 := by kernel_rfl, f343 := by kernel_rfl, t0 := by kernel_rfl, a0 := fun _ => by kernel_rfl, z0 := fun _ => by kernel_rfl, v0 := fun _ => by kernel_rfl, t3 := by kernel_rfl, a3 := fun _ => by kernel_rfl, z3 := fun _ => by kernel_rfl, v3 := fun _ => by kernel_rfl, t4 := by kernel_rfl, a4 := fun _ => by kernel_rfl, z4 := fun _ => by kernel_rfl, v4 := fun _ => by kernel_rfl, t5 := by kernel_rfl, a5 := fun _ => by kernel_rfl, z5 := fun _ => by kernel_rfl, v5 := fun _ => by kernel_rfl, t9 := by kernel_rfl, a9 := fun _ => by kernel_rfl, z9 := fun _ => by kernel_rfl, v9 := fun _ => by kernel_rfl, t28 := by kernel_rfl, a28 := fun _ => by kernel_rfl, z28 := fun _ => by kernel_rfl, v28 := fun _ => by kernel_rfl, t46 := by kernel_rfl, a46 := fun _ => by kernel_rfl, z46 := fun _ => by kernel_rfl, v46 := fun _ => by kernel_rfl, t51 := by kernel_rfl, a51 := fun _ => by kernel_rfl, z51 := fun _ => by kernel_rfl, v51 := fun _ => by kernel_rfl, t53 := by kernel_rfl, a53 := fun _ => by kernel_rfl, z53 := fun _ => by kernel_rfl, v53 := fun _ => by kernel_rfl, t131 := by kernel_rfl, a131 := fun _ => by kernel_rfl, z131 := fun _ => by kernel_rfl, v131 := fun _ => by kernel_rfl, t182 := by kernel_rfl, a182 := fun _ => by kernel_rfl, z182 := fun _ => by kernel_rfl, v182 := fun _ => by kernel_rfl, t183 := by kernel_rfl, a183 := fun _ => by kernel_rfl, z183 := fun _ => by kernel_rfl, v183 := fun _ => by kernel_rfl, t218 := by kernel_rfl, a218 := fun _ => by kernel_rfl, z218 := fun _ => by kernel_rfl, v218 := fun _ => by kernel_rfl, t222 := by kernel_rfl, a222 := fun _ => by kernel_rfl, z222 := fun _ => by kernel_rfl, v222 := fun _ => by kernel_rfl, t228 := by kernel_rfl, a228 := fun _ => by kernel_rfl, z228 := fun _ => by kernel_rfl, v228 := fun _ => by kernel_rfl, t229 := by kernel_rfl, a229 := fun _ => by kernel_rfl, z229 := fun _ => by kernel_rfl, v229 := fun _ => by kernel_rfl }
end X
namespace X
open Go Go.RowKit Bs
theorem vals0_any {q : SV} {w : World} :
    Calls Tryz.prog 85 #[svV q] w fun e w' => ∃ v, e = .returned v ∧ ∃ gp, v = .func (.func 95) #[] #[.pointer (some ⟨gp, 0, none⟩)] ∧ Sys w.heap.size w [(gp, cel 26 [svV q])] w' := by
  simp only [svV]
  refine enter Tryz.func85 rfl Tryz.ntmps85 rfl ?_; simp only [frame, Nat.zero_add, Nat.reduceAdd]
  repeat (first | (refine M0 ?_; first | refine SL ?_ | refine SB fun _ _ => ?_ | refine Y4 (Ev.makeFunc rfl rfl) ?_) | (refine M1 ?_; first | refine SC ?_ | refine SD ?_) | (refine M2 ?_; refine SE ?_) | (refine M3 ?_; first | refine SG ?_ | refine SF ?_ | refine YF (Ev.makeFunc rfl rfl) ?_) | (refine M4 ?_; refine SR ?_) | (refine M5 ?_; first | exact M7 | refine YM ?_ | refine YN ?_ ?_))
  refine XE.retg tok Tryz.results85 rfl (by simp only [and_self, and_true]) (fun w' S => ?_)
  exact ⟨_, rfl, _, rfl, S⟩
set_option maxHeartbeats 8000000 in
theorem vals_any {σ : Type} (Lf : σ → Lo) (Wf : σ → World) (J : Nat → σ → Prop) {B l gp n c : Nat} {A : Option Addr} {ms : List Int} {W1 : World} (s0 : σ) (S0 : Sys B (Wf s0) (Lf s0) W1) (h0 : J 0 s0)
    (hgp : ∀ i s, J i s → (Wf s).cell? ⟨gp, 0, none⟩ = some (.slice A n c)) (hlp : ∀ i s, J i s → gp < (Wf s).heap.size) (hfp : ∀ s e, e ∈ Lf s → e.1 ≠ gp) (hq : ∀ i s, J i s → IntsAt (Wf s) (Lt B) ⟨A, n, c⟩ ms)
    (hy : ∀ i s, i < ms.length → J i s → ∀ w1, Sys B (Wf s) (Lf s) w1 → ∃ fn tmps assign body, (Instr.yield l (#[.int .i64 (at0 ms i)] : Array Value)).run Tryz.prog w1 = .ok (.round l fn tmps assign body) w1 ∧
        RoundIn Fence.wide 0 Tryz.prog l fn tmps assign body w1 fun e w' => ∃ v, e = .returned v ∧ v = .bool true ∧ ∃ s', J (i + 1) s' ∧ Sys B (Wf s') (Lf s') w') :
    Calls Tryz.prog 95 #[.func (.yield l) #[] #[], .pointer (some ⟨gp, 0, none⟩)] W1 fun e w' => ∃ v, e = .returned v ∧ ∃ s, J ms.length s ∧ Sys B (Wf s) (Lf s) w' := by
  have hq0 := hq 0 s0 h0
  have hln := hq0.len
  have hmx := hq0.max
  simp only at hln hmx
  subst hln
  have hlp0 := hlp 0 s0 h0
  have hgp0 := hgp 0 s0 h0
  have hgpW : W1.cell? ⟨gp, 0, none⟩ = some (.slice A ms.length c) := (S0.farCell (a := ⟨gp, 0, none⟩) hlp0 (hfp s0)).trans hgp0
  have hlpW : gp < W1.heap.size := Nat.lt_of_lt_of_le hlp0 S0.size
  refine enterL Tryz.func95 rfl Tryz.ntmps95 rfl (S0.rebase (List.Sublist.refl _)) ?_; simp only [frame, Nat.zero_add, Nat.reduceAdd]
  repeat (first | (refine M0 ?_; first | refine SL ?_ | refine SB fun _ _ => ?_ | refine Y4 (Ev.load_far tok rfl rfl hlpW (hfp s0) hgpW) ?_) | (refine M1 ?_; refine SC ?_) | (refine M2 ?_; refine SE ?_))
  refine XC.loopk [0, 5, 6] rfl (fun z : Nat × σ => [(7, .int .i64 (z.1 : Nat))]) (fun z => Lf z.2) (fun z => Wf z.2) (fun z => z.1 ≤ ms.length ∧ J z.1 z.2) (fun z => ms.length - z.1) (0, s0) ⟨Nat.zero_le _, h0⟩ ZZSUB (fun _ h => S0.trans h (fun _ h => h)) ?_
  rintro ⟨i, s⟩ ⟨hi, hJ⟩
  simp only at hi hJ
  dsimp only [List.cons_append, List.nil_append]
  repeat (first | (refine M0 ?_; first | refine SL ?_ | refine SB fun _ _ => ?_) | (refine M1 ?_; refine SC ?_) | (refine M2 ?_; refine SE ?_))
  refine XC.cond _ rfl (fun h1 => ?_) (fun h1 => ?_)
  rotate_left
  · have him : i = ms.length := by have := of_decide_eq_false h1; omega
    subst him
    repeat (first | (refine M0 ?_; first | refine SL ?_ | refine SB fun _ _ => ?_) | (refine M1 ?_; refine SC ?_) | (refine M2 ?_; refine SE ?_))
    refine XE.end0 Tryz.results95 (fun w' S => ?_)
    exact ⟨_, rfl, s, hJ, S⟩
  have hil : i < ms.length := by have := of_decide_eq_true h1; omega
  obtain ⟨ad, rfl, hlt, hcells⟩ := (hq i s hJ).at_ (by omega)
  have hcell := hcells i hil
  repeat (first | (refine M0 ?_; first | refine SL ?_ | refine SB fun _ _ => ?_ | refine Y4 (Ev.load_old tok rfl rfl (add_lt hlt) hcell) ?_) | (refine XI.id ?_; first | refine XI.done ?_ | refine XI.one1 rfl ?_) | (refine XR'.id ?_; first | refine XR'.seq ?_ | refine XR'.region ?_ | refine XR'.block ?_ | refine XR'.skip ?_ | refine XR'.ret ?_ | refine XR'.cond_t rfl ?_ | refine XR'.cond_f rfl ?_ | refine XR'.exit ?_) | (refine M1 ?_; first | refine XC.regionI (id := 3) 1 ?_ | refine SC ?_ | refine SD ?_) | (refine M2 ?_; first | refine XE.nextI ?_ | refine XE.nextR ?_ | refine SE ?_))
  refine XI.yield (vs := [.int .i64 (at0 ms i)]) rfl rfl rfl (fun _ v w' => v = .bool true ∧ ∃ s', J (i + 1) s' ∧ Sys B (Wf s') (Lf s') w') (fun w4 S4 => hy i s hil hJ w4 S4) (fun w4 v5 w5 S4 hR => ?_)
  obtain ⟨rfl, s', hJ', S5⟩ := hR
  refine ⟨_, _, S5, ?_⟩
  repeat (first | (refine M0 ?_; first | refine SL ?_ | refine SB fun _ _ => ?_) | (refine XI.id ?_; first | refine XI.done ?_ | refine XI.one1 rfl ?_) | (refine XR'.id ?_; first | refine XR'.seq ?_ | refine XR'.region ?_ | refine XR'.block ?_ | refine XR'.skip ?_ | refine XR'.ret ?_ | refine XR'.cond_t rfl ?_ | refine XR'.cond_f rfl ?_ | refine XR'.exit ?_) | (refine M1 ?_; first | refine SC ?_ | refine SD ?_) | (refine M2 ?_; first | refine XE.nextI ?_ | refine XE.nextR ?_ | refine SE ?_))
  repeat (first | (refine M0 ?_; first | refine SL ?_ | refine SB fun _ _ => ?_) | (refine M1 ?_; refine SC ?_) | (refine M2 ?_; refine SE ?_))
  exact XE.round (s := (i, s)) (i + 1, s') ⟨hil, hJ'⟩ (by simp only; omega) ZZSUB (fun _ h => h)
theorem Fits.params1A {N : Nat} {ds : List Deferred} {F : Fr} {a : Act} {t : Nat} {v : Value} (h : Fits N ds F a) (ht : Nat.blt t N = true) :
    Fits N [] ((t, v) :: F) { tmps := ((#[t] : Array Tmp).zip #[v]).foldl (fun s (p, y) => s.setIfInBounds p y) a.tmps, defers := [] } := by
  have h1 := h.put (v := v) ht
  have e : ((#[t] : Array Tmp).zip #[v]).foldl (fun s (p, y) => s.setIfInBounds p y) a.tmps = (a.put (some t) v).tmps := by
    simp [Act.put]
  rw [e]
  exact ⟨h1.size, rfl, h1.get⟩
set_option maxHeartbeats 16000000 in
theorem aseq_any {gp : Nat} {q : SV} {l : List Int} {w : World} (hg : w.heap[gp]? = some (cel 26 [svV q])) (hq : IntsAt w (Lt w.heap.size) q l) (hl : l.length ≤ 5000000) :
    Calls Tryz.prog 103 #[.slice none 0 0, .func (.func 95) #[] #[.pointer (some ⟨gp, 0, none⟩)]] w fun e w' => ∃ v, e = .returned v ∧ Below w.heap.size w w' ∧ w'.ownsRow w.heap.size 3 1 v l.length (ints l) := by
  have hlp := (Array.getElem?_eq_some_iff.1 hg).1
  obtain ⟨A, n, c⟩ := q
  have hcg : w.cell? ⟨gp, 0, none⟩ = some (.slice A n c) := by simp [World.cell?, hg, svV]
  refine enterM Tryz.func103 rfl Tryz.ntmps103 rfl ?_; simp only [frame, Nat.zero_add, Nat.reduceAdd]
  repeat (first | (refine M0 ?_; first | refine SL ?_ | refine SB fun _ _ => ?_) | (refine M1 ?_; refine SC ?_) | (refine M2 ?_; refine SE ?_))
  rename_i g2 hg2
  refine XC.rangeFunc (cap := [.pointer (some ⟨gp, 0, none⟩)]) rfl (ck rfl) (fun fn a D w3 hD hf S3 => ?_)
  have hfS : Fits 13 [] [(1000000 + 2, .slice none 0 0), (2, .pointer (some ⟨g2, 0, none⟩))] { tmps := a.tmps, defers := [] } := by
    have h4 := Sub.fits (G := [(1000000 + 2, .slice none 0 0), (2, .pointer (some ⟨g2, 0, none⟩))]) ZZSUB hf
    exact ⟨h4.size, rfl, h4.get⟩
  have hnd := S3.nd
  have hB3 := S3.toBelow
  have hF3 : Fam w3 w.heap.size [D + 1, D, g2] [⟨Int, intK, .slice none 0 0, l.take 0⟩] [] := (Fam.start (ks := [D + 1, D, g2]) hB3.size).nil intK
  have hk3 : ∀ k, k ∈ [D + 1, D, g2] → k < w3.heap.size := fun k hk => S3.keyLt k hk
  refine (vals_any (l := D + 1) (gp := gp) (A := A) (n := n) (c := c) (ms := l) (fun s : World × Value => [(D + 1, .loop (recO fn a.tmps #[7] _ _ D .ready none)), (D, .deferred (some [])), (g2, cel 26 [s.2])]) (fun s => s.1)
    (fun i s => Fam s.1 w.heap.size [D + 1, D, g2] [⟨Int, intK, s.2, l.take i⟩] [] ∧ Below w.heap.size w s.1 ∧ ∀ k, k ∈ [D + 1, D, g2] → k < s.1.heap.size) (w3, .slice none 0 0) (S3.rebase (List.Sublist.refl _)) ⟨hF3, hB3, hk3⟩ ?_ ?_ ?_ ?_ ?_).mono fun e w4 ⟨u, hu, s, ⟨hF4, hB4, hk4⟩, S4⟩ => ⟨u, hu, ?_⟩
  · exact fun i s hJ => (World.cell?_of_block (a := ⟨gp, 0, none⟩) (hJ.2.1.block gp hlp)).trans hcg
  · exact fun i s hJ => Nat.lt_of_lt_of_le hlp hJ.2.1.size
  · intro s e he e9
    have h5 : e.1 ∈ [D + 1, D, g2] := List.mem_map.2 ⟨e, he, rfl⟩
    simp only [List.mem_cons, List.not_mem_nil, or_false] at h5
    omega
  · exact fun i s hJ => hq.keep fun k hk => hJ.2.1.block k hk
  · rintro i ⟨W, v⟩ hi ⟨hF, hB, hk⟩ w1 S1
    simp only at hF hB hk S1
    have hloop := (S1.own _ (.head _)).2
    refine ⟨_, _, _, _, run_yield (args := #[.int .i64 (at0 l i)]) hloop rfl, ?_⟩
    refine round_of (hfS.params1A rfl) S1 ?_
    clear hloop
    repeat (first | (refine M0 ?_; first | refine SL ?_ | refine SB fun _ _ => ?_) | (refine XI.id ?_; first | refine XI.done ?_ | refine XI.one1 rfl ?_) | (refine XR'.id ?_; first | refine XR'.seq ?_ | refine XR'.region ?_ | refine XR'.block ?_ | refine XR'.skip ?_ | refine XR'.ret ?_ | refine XR'.cond_t rfl ?_ | refine XR'.cond_f rfl ?_ | refine XR'.exit ?_) | (refine M1 ?_; first | refine SC ?_ | refine SD ?_) | (refine M2 ?_; first | refine XE.nextI ?_ | refine XE.nextR ?_ | refine SE ?_))
    refine XE.begin (i := 0) rfl rfl rfl ?_
    repeat (first | (refine M0 ?_; first | refine SL ?_ | refine SB fun _ _ => ?_) | (refine XI.id ?_; first | refine XI.done ?_ | refine XI.one1 rfl ?_) | (refine XR'.id ?_; first | refine XR'.seq ?_ | refine XR'.region ?_ | refine XR'.block ?_ | refine XR'.skip ?_ | refine XR'.ret ?_ | refine XR'.cond_t rfl ?_ | refine XR'.cond_f rfl ?_ | refine XR'.exit ?_) | (refine M1 ?_; first | refine SC ?_ | refine SD ?_) | (refine M2 ?_; first | refine XE.nextI ?_ | refine XE.nextR ?_ | refine SE ?_))
    refine XL.buildSlice tok rfl rfl rfl rfl rfl rfl rfl rfl rfl (fun gn hgn => ?_)
    repeat (first | (refine M0 ?_; first | refine SL ?_ | refine SB fun _ _ => ?_) | (refine XI.id ?_; first | refine XI.done ?_ | refine XI.one1 rfl ?_) | (refine XR'.id ?_; first | refine XR'.seq ?_ | refine XR'.region ?_ | refine XR'.block ?_ | refine XR'.skip ?_ | refine XR'.ret ?_ | refine XR'.cond_t rfl ?_ | refine XR'.cond_f rfl ?_ | refine XR'.exit ?_) | (refine M1 ?_; first | refine SC ?_ | refine SD ?_) | (refine M2 ?_; first | refine XE.nextI ?_ | refine XE.nextR ?_ | refine SE ?_))
    refine XL.push (K := intK) (a := at0 l i) (wE := w) 0 intK_el (by decide) rfl rfl rfl hF rfl hk hB (Nat.le_refl _) rfl (by rw [List.length_take]; omega) (by decide) (fun x hx => by cases hx) (fun W1 u1 hF1 hB1 hk1 => ?_)
    simp only [List.set_cons_zero] at hF1
    obtain ⟨r, rfl, hrn⟩ := hF1.sv (K := intK) (l := l.take i ++ [at0 l i]) (.head _)
    repeat (first | (refine M0 ?_; first | refine SL ?_ | refine SB fun _ _ => ?_) | (refine XI.id ?_; first | refine XI.done ?_ | refine XI.one1 rfl ?_) | (refine XR'.id ?_; first | refine XR'.seq ?_ | refine XR'.region ?_ | refine XR'.block ?_ | refine XR'.skip ?_ | refine XR'.ret ?_ | refine XR'.cond_t rfl ?_ | refine XR'.cond_f rfl ?_ | refine XR'.exit ?_) | (refine M1 ?_; first | refine SC ?_ | refine SD ?_) | (refine M2 ?_; first | refine XE.nextI ?_ | refine XE.nextR ?_ | refine SE ?_))
    refine XE.endR (i := 1) rfl rfl (fun w' S => ?_)
    simp only [List.set_cons_zero, Nat.zero_add] at S
    have htk : l.take (i + 1) = l.take i ++ [at0 l i] := by
      rw [List.take_succ_eq_append_getElem hi]; congr 2; simp [at0, hi]
    refine ⟨_, rfl, rfl, (w', svV r), ⟨?_, hB1.trans S.toBelow, fun x hx => S.keyLt x (by simp only [List.map_cons, List.map_nil]; exact .tail _ hx)⟩, S.rebase (List.sublist_cons_self _ _)⟩
    simp only [htk]
    exact Fam.add (hF1.sys S ZZHL) (fun x hx => .inl (List.mem_append_right _ hx))
  refine .inl ⟨_, s.1, S4, ?_⟩
  obtain ⟨r, hr, hrn⟩ := hF4.sv (K := intK) (l := l.take l.length) (.head _)
  rw [hr]
  rw [hr] at hF4
  simp only [svV]
  repeat (first | (refine M0 ?_; first | refine SL ?_ | refine SB fun _ _ => ?_) | (refine M1 ?_; refine SC ?_) | (refine M2 ?_; refine SE ?_))
  refine XE.retM tok (D := D) (i := 1) Tryz.results103 rfl rfl rfl (by simp only [and_self, and_true]) (fun w' S => ?_)
  have hF5 := (hF4.sys S ZZHL).row _ (.head _)
  simp only [List.take_length, ints_flat'] at hF5
  exact ⟨_, rfl, hB4.trans S.toBelow, hF5⟩
end X
namespace X
open Go Go.RowKit Bs
section
variable {P : Program} {T : TT} {N : Nat} {B : Nat} {w0 : World} {ds : List Deferred} {Q : Exit → Act → World → Prop} {F : Fr} {L : Lo} {ty : TypeId} {p : String} {af : Array Edge}
theorem XL.callK {f : FuncId} {d : Nat} {c : Operand} {fst cap : List Value} {args : Array Operand} {vs : List Value} {ats : Array TypeId} {ops : Array Oper} {rest : List Oper} (R : Value → World → Prop) (h : callOk P f = true)
    (hcv : evo F c = some (.func (.func f) fst.toArray cap.toArray)) (ha : evos F args.toList = some vs) (hd : Nat.blt d N = true)
    (hc : ∀ w, Sys B w0 L w → Calls P f (fst ++ vs ++ cap).toArray w fun e w' => ∃ v, e = .returned v ∧ R v w' ∧ Below B w w' ∧ ∀ e, e ∈ L → w'.heap[e.1]? = w.heap[e.1]?)
    (k : ∀ v w', R v w' → Below B w0 w' → Sys B w' L w' → XL P N B w' ds Q ops rest ((d, v) :: F) L) :
    XL P N B w0 ds Q ops ({ dst := some d, op := .call { callee := .value c, args := args, argTypes := ats }, type := ty, pos := p, after := af, guard := none } :: rest) F L := by
  refine ⟨fun a w hf hs => ?_⟩
  refine wpList_plain rfl fun K hK => ?_
  unfold Oper.wp
  rw [callExec_run h hf hcv ha w]
  refine (hc w hs).mono fun e w' he => ?_
  obtain ⟨v, rfl, hR, hb, ho⟩ := he
  have S' : Sys B w' L w' := ⟨rfl, rfl, rfl, Nat.le_refl _, Nat.le_trans hs.base (Nat.le_trans hs.size hb.size), fun _ _ _ => rfl, fun x hx => ⟨(hs.own x hx).1, (ho x hx).trans (hs.own x hx).2⟩, hs.nd⟩
  exact hK _ _ ((k v w' hR (hs.toBelow.trans hb) S').run _ _ (hf.put hd) S')
end
theorem collect_any {gp : Nat} {q : SV} {l : List Int} {w : World} (hg : w.heap[gp]? = some (cel 26 [svV q])) (hq : IntsAt w (Lt w.heap.size) q l) (hl : l.length ≤ 5000000) :
    Calls Tryz.prog 93 #[.func (.func 95) #[] #[.pointer (some ⟨gp, 0, none⟩)]] w fun e w' => ∃ v, e = .returned v ∧ Below w.heap.size w w' ∧ w'.ownsRow w.heap.size 3 1 v l.length (ints l) := by
  have hlp := (Array.getElem?_eq_some_iff.1 hg).1
  refine enter Tryz.func93 rfl Tryz.ntmps93 rfl ?_; simp only [frame, Nat.zero_add, Nat.reduceAdd]
  repeat (first | (refine M0 ?_; first | refine SL ?_ | refine SB fun _ _ => ?_) | (refine M1 ?_; refine SC ?_) | (refine M2 ?_; refine SE ?_))
  refine XL.callK (fst := []) (cap := []) (fun v w' => Below w.heap.size w w' ∧ w'.ownsRow w.heap.size 3 1 v l.length (ints l)) (ck rfl) rfl rfl rfl (fun w5 S5 => ?_) (fun v w6 hR hB6 S6 => ?_)
  · have hB5 := S5.toBelow
    refine (aseq_any (w := w5) ((hB5.block gp hlp).trans hg) (hq.arg S5) hl).mono fun e w' ⟨v, h1, h2, h3⟩ => ⟨v, h1, ⟨hB5.trans (h2.mono hB5.size), owns_base h3 hB5.size⟩, h2.mono hB5.size, fun _ h => by cases h⟩
  · obtain ⟨r, rfl, hrn⟩ := owns_sv hR.2
    simp only [svV]
    repeat (first | (refine M0 ?_; first | refine SL ?_ | refine SB fun _ _ => ?_) | (refine M1 ?_; refine SC ?_) | (refine M2 ?_; refine SE ?_))
    refine XE.retg tok Tryz.results93 rfl (by simp only [and_self, and_true]) (fun w' S => ?_)
    exact ⟨_, rfl, hR.1.trans S.toBelow, owns_move' hR.2 fun k hk => S.old k (hR.2.lt k hk).2 fun e he => by cases he⟩
def sortL (l : List Int) : List Int := l.mergeSort fun x y => decide (x ≤ y)
structure ChgB (b : Option Nat) (w w' : World) : Prop where
  os : w'.os = w.os
  tape : w'.tape = w.tape
  output : w'.output = w.output
  size : w.heap.size ≤ w'.heap.size
  old : ∀ k, k < w.heap.size → b ≠ some k → w'.heap[k]? = w.heap[k]?
theorem sort_any {v : Value} {l : List Int} {b0 : Nat} {w : World} (hv : w.ownsRow b0 3 1 v l.length (ints l)) (hl : l.length ≤ 5000000) :
    Calls Tryz.prog 94 #[v] w fun e w' => e = .returned (.tuple #[]) ∧ w'.ownsRow b0 3 1 v l.length (ints (sortL l)) ∧ ChgB v.ownBlock w w' := by
  obtain ⟨⟨A, n, c⟩, rfl, hn⟩ := owns_sv hv
  simp only [svV] at hv ⊢
  simp only at hn
  subst hn
  rcases Nat.eq_zero_or_pos l.length with h0 | h0
  · have : l = [] := List.length_eq_zero_iff.1 h0
    subst this
    refine (Any.slices_Sort_int_none sh189 A c w).mono fun e w' ⟨h1, h2⟩ => ⟨h1, ?_, ?_⟩
    · rw [h2, show sortL [] = [] by simp [sortL]]; exact hv
    · rw [h2]; exact ⟨rfl, rfl, rfl, Nat.le_refl _, fun _ _ _ => rfl⟩
  obtain ⟨g, sp, rfl, _, hb, hg, hc, hm⟩ := owns_block hv h0
  have hglt := (Array.getElem?_eq_some_iff.1 hg).1
  refine (Any.slices_Sort_int sh189 g 0 c l w ?_ hglt (by omega)).mono fun e w' ⟨h1, n, os, h2⟩ => ⟨h1, ?_, ?_⟩
  · intro j hj
    have hj2 : j < l.length := by simpa using hj
    refine ⟨?_, ?_⟩
    · simp [World.cell?, hg, ints, hj2, List.getElem?_append_left]
    · simp [World.frozen?, hg]
  · have hlen : (sortL l).length = l.length := by simp [sortL]
    have hcell : w'.heap[g]? = some (cel 3 (ints (sortL l) ++ sp)) := by
      rw [h2]
      simp only [«Sort».grow, «Sort».putRow, «Sort».mapBlock, «Sort».ahead]
      rw [Array.getElem?_append_left (by simpa using hglt), Array.getElem?_modify, hg]
      simp only [if_true, Option.map_some]
      congr 1
      unfold cel
      simp only [«Sort».onCells]
      congr 1
      have hl2 : (l.mergeSort fun x y => decide (x ≤ y)).length = l.length := by simp
      refine Array.ext (by simp [«Sort».putCells, ints, hlen]) fun j h1 h3 => ?_
      simp only [«Sort».putCells, Array.getElem_mapIdx, Nat.zero_add, Nat.zero_le, true_and, Nat.sub_zero, List.size_toArray, hl2, List.getElem_toArray]
      by_cases hj : j < l.length
      · rw [if_pos hj, getElem!_pos _ _ (by simpa [hl2] using hj)]
        rw [List.getElem_append_left (by simp [ints, hlen]; exact hj)]
        simp [ints, sortL]
      · rw [if_neg hj, List.getElem_append_right (by simp [ints]; omega), List.getElem_append_right (by simp [ints, hlen]; omega)]
        simp [ints, hlen]
    have := owns_of (w := w') (base := b0) (e := 3) (g := g) (n := l.length) (c := c) (xs := ints (sortL l)) (sp := sp) hcell hb (by simp [ints, hlen]) (by rw [← hc]; simp [ints, hlen]) hm
    exact this
  · subst h2
    refine ⟨rfl, rfl, rfl, by simp [«Sort».grow, «Sort».putRow, «Sort».mapBlock, «Sort».ahead], fun k hk hne => ?_⟩
    have hkg : g ≠ k := fun e => hne (by rw [e]; rfl)
    simp only [«Sort».grow, «Sort».putRow, «Sort».mapBlock, «Sort».ahead]
    rw [Array.getElem?_append_left (by simpa using hk), Array.getElem?_modify, if_neg hkg]
end X
namespace X
open Go Go.RowKit Bs
theorem sortL_len (l : List Int) : (sortL l).length = l.length := by simp [sortL]
theorem sorted_any {gp : Nat} {q : SV} {l : List Int} {w : World} (hg : w.heap[gp]? = some (cel 26 [svV q])) (hq : IntsAt w (Lt w.heap.size) q l) (hl : l.length ≤ 5000000) :
    Calls Tryz.prog 84 #[.func (.func 95) #[] #[.pointer (some ⟨gp, 0, none⟩)]] w fun e w' => ∃ v, e = .returned v ∧ Below w.heap.size w w' ∧ w'.ownsRow w.heap.size 3 1 v l.length (ints (sortL l)) := by
  have hlp := (Array.getElem?_eq_some_iff.1 hg).1
  refine enter Tryz.func84 rfl Tryz.ntmps84 rfl ?_; simp only [frame, Nat.zero_add, Nat.reduceAdd]
  repeat (first | (refine M0 ?_; first | refine SL ?_ | refine SB fun _ _ => ?_) | (refine M1 ?_; refine SC ?_) | (refine M2 ?_; refine SE ?_))
  refine XL.callK (fst := []) (cap := []) (fun v w' => Below w.heap.size w w' ∧ w'.ownsRow w.heap.size 3 1 v l.length (ints l)) (ck rfl) rfl rfl rfl (fun w5 S5 => ?_) (fun v w6 hR hB6 S6 => ?_)
  · have hB5 := S5.toBelow
    refine (collect_any (w := w5) ((hB5.block gp hlp).trans hg) (hq.arg S5) hl).mono fun e w' ⟨v, h1, h2, h3⟩ => ⟨v, h1, ⟨hB5.trans (h2.mono hB5.size), owns_base h3 hB5.size⟩, h2.mono hB5.size, fun _ h => by cases h⟩
  · clear S6
    obtain ⟨r, rfl, hrn⟩ := owns_sv hR.2
    simp only [svV] at hR ⊢
    repeat (first | (refine M0 ?_; first | refine SL ?_ | refine SB fun _ _ => ?_) | (refine M1 ?_; refine SC ?_) | (refine M2 ?_; refine SE ?_))
    refine XL.callK (fst := []) (cap := []) (fun _ w' => Below w.heap.size w w' ∧ w'.ownsRow w.heap.size 3 1 (.slice r.A r.n r.c) l.length (ints (sortL l))) (ck rfl) rfl rfl rfl (fun w7 S7 => ?_) (fun v2 w8 hR2 hB8 S8 => ?_)
    · have hv7 := owns_move' hR.2 fun k hk => S7.old k (hR.2.lt k hk).2 fun e he => by cases he
      have hB7 := hR.1.trans S7.toBelow
      refine (sort_any (w := w7) hv7 hl).mono fun e w' ⟨h1, h2, h3⟩ => ⟨_, h1, ?_⟩
      have hB9 : Below w.heap.size w7 w' := ⟨h3.os, h3.tape, h3.output, h3.size, fun k hk => h3.old k (Nat.lt_of_lt_of_le hk hB7.size) fun e => by have := (hR.2.lt k e).1; omega⟩
      exact ⟨⟨hB7.trans hB9, h2⟩, hB9, fun _ h => by cases h⟩
    · repeat (first | (refine M0 ?_; first | refine SL ?_ | refine SB fun _ _ => ?_) | (refine M1 ?_; refine SC ?_) | (refine M2 ?_; refine SE ?_))
      refine XE.retg tok Tryz.results84 rfl (by simp only [and_self, and_true]) (fun w' S => ?_)
      have h9 := owns_move' hR2.2 fun k hk => S.old k (hR2.2.lt k hk).2 fun e he => by cases he
      exact ⟨_, rfl, hR2.1.trans S.toBelow, h9⟩
end X
namespace X
open Go Go.RowKit Bs
section
variable {P : Program} {T : TT} {N : Nat} {B : Nat} {w0 : World} {ds : List Deferred} {Q : Exit → Act → World → Prop} {F : Fr} {L : Lo} {ty : TypeId} {p : String} {af : Array Edge} {ops : Array Oper} {rest : List Oper}
theorem XL.clearO (hT : TOK P T) (i : Nat) {t e tg : TypeId} {x : Operand} {g o n c : Nat} {z : Value} {cs : List Value} {L' : List Value → Lo} (hx : evo F x = some (.slice (some ⟨g, o, none⟩) n c)) (hu : P.underlying t = some (.slice e)) (hz : lkG T.zero e = some z) (hz1 : z.cells = #[z]) (hz2 : z.oneCell' = true)
    (hL : L[i]? = some (g, cel tg cs)) (hfit : o + n ≤ cs.length) (hL' : ∀ cs', setN L i (g, cel tg cs') = some (L' cs')) (c1 : ∀ cs', cs'.length = cs.length → XL P N B w0 ds Q ops rest F (L' cs')) :
    XL P N B w0 ds Q ops ({ dst := none, op := .call { callee := .builtin .clear, args := #[x], argTypes := #[t] }, type := ty, pos := p, after := af, guard := none } :: rest) F L := by
  refine ⟨fun a w hf hs => ?_⟩
  refine wpList_plain rfl fun K hK => ?_
  unfold Oper.wp
  have hg := hs.obj hL
  have hm : (#[x] : Array Operand).map a.eval = #[.slice (some ⟨g, o, none⟩) n c] := by simp [hf.eval hx]
  have hrun : ∃ cs', cs'.length = cs.length ∧ (Builtin.clear_ #[t] ty #[.slice (some ⟨g, o, none⟩) n c]).run P w = .ok (.tuple #[]) { w with heap := w.heap.setIfInBounds g (cel tg cs') } := by
    cases n with
    | zero =>
      refine ⟨cs, rfl, ?_⟩
      have h5 : w.heap.setIfInBounds g (cel tg cs) = w.heap := by
        obtain ⟨hlt, he⟩ := Array.getElem?_eq_some_iff.1 hg
        rw [← he]
        apply Array.ext (by simp)
        intro j h1 h2
        rw [Array.getElem_setIfInBounds (by simpa using h2)]
        split
        · rename_i e; subst e; rfl
        · rfl
      rw [h5]
      simp [Builtin.clear_, run_underlying hu]
    | succ m =>
      have hlen : (Builtin.zeroCells z.cells (m + 1)).toList.length = m + 1 := by simp [Builtin.zeroCells, hz1]
      have h1 : ∀ v ∈ (Builtin.zeroCells z.cells (m + 1)).toList, v.oneCell' = true := fun v hv => by
        simp only [Builtin.zeroCells, hz1, Array.toList_map, List.mem_map] at hv
        obtain ⟨j, _, rfl⟩ := hv
        simp only [List.size_toArray, List.length_singleton, Nat.mod_one]
        exact hz2
      have h2 := run_storeCells_at (P := P) g o tg (Builtin.zeroCells z.cells (m + 1)).toList 0 cs.toArray w hg (by simp only [List.size_toArray]; omega) h1
      rw [setRow_obj hg] at h2
      refine ⟨cs.toArray.toList.take (o + 0) ++ (Builtin.zeroCells z.cells (m + 1)).toList ++ cs.toArray.toList.drop (o + 0 + (Builtin.zeroCells z.cells (m + 1)).toList.length), ?_, by simp [Builtin.clear_, run_underlying hu, zero_run hT hz, h2]⟩
      simp only [List.length_append, List.length_take, List.length_drop, hlen]
      omega
  obtain ⟨cs', hl, hrun⟩ := hrun
  have : (execOp a.eval { dst := none, op := .call { callee := .builtin .clear, args := #[x], argTypes := #[t] }, type := ty, pos := p, after := af, guard := none }).run P w = .ok (.value (.tuple #[])) { w with heap := w.heap.setIfInBounds g (cel tg cs') } := by
    simp only [execOp, resolve, Sem.run_bind, Sem.run_pure, Result.andThen_ok, invoke, builtin, hm, hrun]
  rw [this]
  exact hK _ _ ((c1 cs' hl).run _ _ hf (hs.setObj hL (setN_spec _ _ _ _ (hL' _)).1))
end
def dupN (l : List Int) : Prop := ∃ j, j + 1 < l.length ∧ at0 l j = at0 l (j + 1)
theorem ints_atA {l : List Int} {sp : List Value} {j : Nat} (h : j < l.length) : (ints l ++ sp)[j]? = some (.int .i64 (at0 l j)) := by
  rw [List.getElem?_append_left (by simpa [ints] using h)]
  simp [ints, at0, h]
set_option maxHeartbeats 8000000 in
theorem compact_any {v : Value} {l : List Int} {b0 : Nat} {w : World} (hv : w.ownsRow b0 3 1 v l.length (ints l)) (hl : l.length ≤ 5000000) :
    Calls Tryz.prog 83 #[v] w fun e w' => ∃ A m c, e = .returned (.slice A m c) ∧ (m < l.length ↔ dupN l) ∧ ChgB v.ownBlock w w' := by
  obtain ⟨⟨A, n, c⟩, rfl, hn⟩ := owns_sv hv
  simp only [svV] at hv ⊢
  simp only at hn
  subst hn
  by_cases h2 : l.length < 2
  · refine enter Tryz.func83 rfl Tryz.ntmps83 rfl ?_; simp only [frame, Nat.zero_add, Nat.reduceAdd]
    repeat (first | (refine M0 ?_; first | refine SL ?_ | refine SB fun _ _ => ?_) | (refine M1 ?_; refine SC ?_) | (refine M2 ?_; refine SE ?_))
    rw [show decide ((l.length : Int) < 2) = true from decide_eq_true (by omega)]
    repeat (first | (refine M0 ?_; first | refine SL ?_ | refine SB fun _ _ => ?_) | (refine M1 ?_; refine SC ?_) | (refine M2 ?_; refine SE ?_))
    refine XE.retg tok Tryz.results83 rfl (by simp only [and_self, and_true]) (fun w' S => ?_)
    refine ⟨_, _, _, rfl, ⟨fun h => absurd h (Nat.lt_irrefl _), fun ⟨j, h, _⟩ => by omega⟩, ⟨S.os, S.tape, S.output, S.size, fun k hk _ => S.old k hk fun e he => by cases he⟩⟩
  obtain ⟨g, sp, rfl, _, hb, hg, hc, hm⟩ := owns_block hv (by omega)
  have hcap : l.length ≤ c := by have : (ints l).length = l.length := by simp [ints]
                                 omega
  obtain ⟨cs, hcs⟩ : ∃ cs, cs = ints l ++ sp := ⟨_, rfl⟩
  rw [← hcs] at hg
  have hcl : cs.length = c := by rw [hcs, List.length_append]; exact hc
  have hat : ∀ j, j < l.length → cs[j]? = some (.int .i64 (at0 l j)) := fun j hj => by rw [hcs]; exact ints_atA hj
  have S0 := Sys.start1 (Nat.le_refl g) hg
  have hchg : ∀ {cs' : List Value} {w' : World}, Sys g w [(g, cel 3 cs')] w' → ChgB (some g) w w' := fun S => ⟨S.os, S.tape, S.output, S.size, fun k hk hne => S.old k hk fun e he e9 => hne (by rw [List.mem_singleton.1 he] at e9; exact congrArg some e9)⟩
  refine enterL Tryz.func83 rfl Tryz.ntmps83 rfl (S0) ?_; simp only [frame, Nat.zero_add, Nat.reduceAdd]
  repeat (first | (refine M0 ?_; first | refine SL ?_ | refine SB fun _ _ => ?_) | (refine M1 ?_; refine SC ?_) | (refine M2 ?_; refine SE ?_))
  rw [show decide ((l.length : Int) < 2) = false from decide_eq_false (by omega)]
  repeat (first | (refine M0 ?_; first | refine SL ?_ | refine SB fun _ _ => ?_) | (refine M1 ?_; refine SC ?_) | (refine M2 ?_; refine SE ?_))
  refine XC.loopk [0] rfl (fun k : Nat => [(3, .int .i64 (k : Nat))]) (fun _ => [(g, cel 3 cs)]) (fun _ => w) (fun k => 1 ≤ k ∧ k ≤ l.length ∧ ∀ j, 1 ≤ j → j < k → at0 l j ≠ at0 l (j - 1)) (fun k => l.length - k) 1 ⟨Nat.le_refl _, by omega, fun j h1 h2 => by omega⟩ ZZSUB (fun _ h => h) ?_
  rintro k ⟨hk1, hkn, hne⟩
  dsimp only [List.cons_append, List.nil_append]
  repeat (first | (refine M0 ?_; first | refine SL ?_ | refine SB fun _ _ => ?_) | (refine M1 ?_; refine SC ?_) | (refine M2 ?_; refine SE ?_))
  refine XC.cond _ rfl (fun h3 => ?_) (fun h3 => ?_)
  rotate_left
  · have hkl : k = l.length := by have := of_decide_eq_false h3; omega
    repeat (first | (refine M0 ?_; first | refine SL ?_ | refine SB fun _ _ => ?_) | (refine M1 ?_; refine SC ?_) | (refine M2 ?_; refine SE ?_))
    refine XE.retg tok Tryz.results83 rfl (by simp only [and_self, and_true]) (fun w' S => ?_)
    refine ⟨_, _, _, rfl, ⟨fun h => absurd h (Nat.lt_irrefl _), fun ⟨j, h4, h5⟩ => ?_⟩, hchg S⟩
    exact absurd h5.symm (by have := hne (j + 1) (by omega) (by omega); simpa using this)
  have hkl : k < l.length := by have := of_decide_eq_true h3; omega
  clear h3
  have e1 : ((k : Int) - 1).toNat = k - 1 := by omega
  have d1 : cs[0 + (k : Int).toNat * 1]? = some (.int .i64 (at0 l k)) := by rw [show 0 + (k : Int).toNat * 1 = k by omega]; exact hat k hkl
  have d2 : cs[0 + ((k : Int) - 1).toNat * 1]? = some (.int .i64 (at0 l (k - 1))) := by rw [show 0 + ((k : Int) - 1).toNat * 1 = k - 1 by omega]; exact hat (k - 1) (by omega)
  repeat (first | (refine M0 ?_; first | refine SL ?_ | refine SB fun _ _ => ?_) | (refine M1 ?_; refine SC ?_) | (refine M2 ?_; refine SE ?_))
  refine XC.drawR _ [0, 1, 2, 3, 4, 5, 6, 7, 8, 9] [] mixed (fun _ h => h) rfl (by kernel_rfl) ?_
  repeat (any_goals (first | (refine M0 ?_; first | refine SL ?_ | refine SB fun _ _ => ?_ | refine Y4 (Ev.load_at tok 0 (g := g) rfl rfl rfl d1) ?_ | refine Y4 (Ev.load_at tok 0 (g := g) rfl rfl rfl d2) ?_) | (refine M1 ?_; refine SC ?_) | (refine M2 ?_; refine SE ?_) | (refine M3 ?_; first | refine SG ?_ | refine SF ?_ | refine YF (Ev.load_at tok 0 (g := g) rfl rfl rfl d1) ?_ | refine YF (Ev.load_at tok 0 (g := g) rfl rfl rfl d2) ?_) | (refine M4 ?_; refine SR ?_) | (refine M5 ?_; first | exact M7 | refine YM ?_ | refine YN ?_ ?_)))
  refine XC.cond _ rfl (fun h3 => ?_) (fun h3 => ?_)
  rotate_left
  · have h4 : at0 l k ≠ at0 l (k - 1) := of_decide_eq_false h3
    repeat (first | (refine M0 ?_; first | refine SL ?_ | refine SB fun _ _ => ?_) | (refine M1 ?_; refine SC ?_) | (refine M2 ?_; refine SE ?_))
    refine XE.round (s := k) (k + 1) ⟨by omega, by omega, fun j h5 h6 => ?_⟩ (by omega) ZZSUB (fun _ h => h)
    rcases Nat.lt_succ_iff_lt_or_eq.1 h6 with h6 | rfl
    · exact hne j h5 h6
    · exact h4
  have hdup : dupN l := ⟨k - 1, by omega, by rw [show k - 1 + 1 = k by omega]; exact (of_decide_eq_true h3).symm⟩
  clear h3 hne
  repeat (first | (refine M0 ?_; first | refine SL ?_ | refine SB fun _ _ => ?_ | refine Y4 (Ev.slice_lo tok k rfl rfl rfl rfl (by omega) (by omega)) ?_) | (refine M1 ?_; refine SC ?_) | (refine M2 ?_; refine SE ?_))
  rw [show (⟨g, 0, none⟩ : Addr).add (k * 1) = ⟨g, 0 + k * 1, none⟩ from add_off g 0 (k * 1)]
  refine XC.loopk [0, 4] rfl (fun z : Nat × Nat × List Value => [(3, .int .i64 (z.1 : Nat)), (5, .int .i64 (z.2.1 : Nat))]) (fun z => [(g, cel 3 z.2.2)]) (fun _ => w) (fun z => k ≤ z.1 ∧ 1 ≤ z.2.1 ∧ z.1 + 1 ≤ k + z.2.1 ∧ k + z.2.1 ≤ l.length ∧ z.2.2.length = cs.length ∧ ∀ j, j < l.length → ∃ x, z.2.2[j]? = some (.int .i64 x)) (fun z => l.length - z.2.1) (k, 1, cs) ⟨Nat.le_refl _, Nat.le_refl _, Nat.le_refl _, hkl, rfl, fun j hj => ⟨_, hat j hj⟩⟩ ZZSUB (fun _ h => h) ?_
  clear d1 d2
  rintro ⟨k1, k2, cs1⟩ ⟨i1, i2, i3, i4, i5, i6⟩
  simp only at i1 i2 i3 i4 i5 i6
  dsimp only [List.cons_append, List.nil_append]
  repeat (first | (refine M0 ?_; first | refine SL ?_ | refine SB fun _ _ => ?_) | (refine M1 ?_; refine SC ?_) | (refine M2 ?_; refine SE ?_))
  refine XC.cond _ rfl (fun h4 => ?_) (fun h4 => ?_)
  rotate_left
  · repeat (first | (refine M0 ?_; first | refine SL ?_ | refine SB fun _ _ => ?_ | refine Y4 (Ev.slice_lo tok k1 rfl rfl rfl rfl (by omega) (by omega)) ?_) | (refine M1 ?_; refine SC ?_) | (refine M2 ?_; refine SE ?_))
    rw [show (⟨g, 0, none⟩ : Addr).add (k1 * 1) = ⟨g, 0 + k1 * 1, none⟩ from add_off g 0 (k1 * 1)]
    refine XL.clearO tok 0 (g := g) (o := 0 + k1 * 1) rfl Tryz.underlying26 rfl rfl rfl rfl (by omega) (fun _ => rfl) (fun cs2 hl2 => ?_)
    repeat (first | (refine M0 ?_; first | refine SL ?_ | refine SB fun _ _ => ?_ | refine Y4 (Ev.slice_hi tok k1 rfl rfl rfl rfl (by omega)) ?_) | (refine M1 ?_; refine SC ?_) | (refine M2 ?_; refine SE ?_))
    refine XE.retg tok Tryz.results83 rfl (by simp only [and_self, and_true]) (fun w' S => ?_)
    exact ⟨_, _, _, rfl, ⟨fun _ => hdup, fun _ => by omega⟩, hchg S⟩
  have i7 : k + k2 < l.length := by have := of_decide_eq_true h4; omega
  clear h4
  obtain ⟨x1, hx1⟩ := i6 (k + k2) i7
  obtain ⟨x2, hx2⟩ := i6 (k + k2 - 1) (by omega)
  have d1 : cs1[0 + k * 1 + (k2 : Int).toNat * 1]? = some (.int .i64 x1) := by rw [show 0 + k * 1 + (k2 : Int).toNat * 1 = k + k2 by omega]; exact hx1
  have d2 : cs1[0 + k * 1 + ((k2 : Int) - 1).toNat * 1]? = some (.int .i64 x2) := by rw [show 0 + k * 1 + ((k2 : Int) - 1).toNat * 1 = k + k2 - 1 by omega]; exact hx2
  repeat (first | (refine M0 ?_; first | refine SL ?_ | refine SB fun _ _ => ?_) | (refine M1 ?_; refine SC ?_) | (refine M2 ?_; refine SE ?_))
  refine XC.drawR _ [0, 1, 2, 3, 4, 5, 6, 7, 8, 9] [] mixed (fun _ h => h) rfl (by kernel_rfl) ?_
  repeat (any_goals (first | (refine M0 ?_; first | refine SL ?_ | refine SB fun _ _ => ?_ | refine Y4 (Ev.load_at tok 0 (g := g) (o := 0 + k * 1) rfl rfl rfl d1) ?_ | refine Y4 (Ev.load_at tok 0 (g := g) (o := 0 + k * 1) rfl rfl rfl d2) ?_) | (refine M1 ?_; refine SC ?_) | (refine M2 ?_; refine SE ?_) | (refine M3 ?_; first | refine SG ?_ | refine SF ?_ | refine YF (Ev.load_at tok 0 (g := g) (o := 0 + k * 1) rfl rfl rfl d1) ?_ | refine YF (Ev.load_at tok 0 (g := g) (o := 0 + k * 1) rfl rfl rfl d2) ?_) | (refine M4 ?_; refine SR ?_) | (refine M5 ?_; first | exact M7 | refine YM ?_ | refine YN ?_ ?_)))
  refine XC.cond _ rfl (fun h5 => ?_) (fun h5 => ?_)
  · repeat (first | (refine M0 ?_; first | refine SL ?_ | refine SB fun _ _ => ?_ | refine Y4 (Ev.load_at tok 0 (g := g) (o := 0 + k * 1) rfl rfl rfl d1) ?_) | (refine M1 ?_; refine SC ?_) | (refine M2 ?_; refine SE ?_))
    refine XL.store_at tok 0 (g := g) (o := 0) (j := (k1 : Int).toNat * 1) (cs := cs1) rfl rfl rfl rfl rfl (by omega) rfl ?_
    repeat (first | (refine M0 ?_; first | refine SL ?_ | refine SB fun _ _ => ?_) | (refine M1 ?_; refine SC ?_) | (refine M2 ?_; refine SE ?_))
    refine XE.round (s := (k1, k2, cs1)) (k1 + 1, k2 + 1, cs1.set (0 + (k1 : Int).toNat * 1) (.int .i64 x1)) ⟨by simp only; omega, by simp only; omega, by simp only; omega, by simp only; omega, by simp only [List.length_set]; exact i5, fun j hj => ?_⟩ (by simp only; omega) ZZSUB (fun _ h => h)
    simp only
    rw [List.getElem?_set]
    split
    · rename_i e
      rw [if_pos (by omega)]
      exact ⟨_, rfl⟩
    · exact i6 j hj
  · repeat (first | (refine M0 ?_; first | refine SL ?_ | refine SB fun _ _ => ?_) | (refine M1 ?_; refine SC ?_) | (refine M2 ?_; refine SE ?_))
    exact XE.round (s := (k1, k2, cs1)) (k1, k2 + 1, cs1) ⟨i1, by simp only; omega, by simp only; omega, by simp only; omega, i5, i6⟩ (by simp only; omega) ZZSUB (fun _ h => h)
end X
namespace Bs
open X
theorem dup_sort (l : List Int) : dupN (sortL l) ↔ ¬ l.Nodup := by
  have hp : (sortL l).Perm l := List.mergeSort_perm _ _
  have hs : (sortL l).Pairwise fun x y => x ≤ y := by
    have h := List.pairwise_mergeSort (le := fun x y : Int => decide (x ≤ y)) (fun a b c h1 h2 => by simp only [decide_eq_true_eq] at *; omega) (fun a b => by simp only [Bool.or_eq_true, decide_eq_true_eq]; omega) l
    exact h.imp fun h => by simpa using h
  rw [← hp.nodup_iff]
  generalize sortL l = s at hs
  constructor
  · rintro ⟨j, h1, h2⟩ hn
    have := List.pairwise_iff_getElem.1 hn j (j + 1) (by omega) h1 (by omega)
    apply this
    simpa [at0, h1, show j < s.length by omega] using h2
  · intro hn
    apply Classical.byContradiction
    intro hd
    apply hn
    refine List.pairwise_iff_getElem.2 fun i j hi hj hij => ?_
    have h1 := List.pairwise_iff_getElem.1 hs
    have h2 : s[i] ≠ s[i + 1]'(by omega) := fun e => hd ⟨i, by omega, by simp [at0, show i < s.length by omega, show i + 1 < s.length by omega, e]⟩
    have h3 := h1 i (i + 1) hi (by omega) (by omega)
    have h4 : s[i + 1]'(by omega) ≤ s[j] := by
      rcases Nat.lt_or_ge (i + 1) j with h | h
      · exact h1 (i + 1) j (by omega) hj h
      · have : j = i + 1 := by omega
        subst this; exact Int.le_refl _
    omega
end Bs
namespace X
open Go Go.RowKit Bs
set_option maxHeartbeats 8000000 in
theorem achk4_any {g : Nat} {v : ATV} {t : ATk} {q : SV} {x : Twn} {w : World} (hg : w.heap[g]? = some (cel 56 (atkC v t))) (hn : v.c.n = t.cha.length) (h4 : t.cha.length ≤ 4) (hp : 0 ≤ t.pol ∧ t.pol ≤ 6) (hq : IntsAt w (Lt w.heap.size) q x.chs) (hl : x.chs.length ≤ 5000000) :
    Calls Tryz.prog 81 #[.agg ⟨twnC q x⟩, .pointer (some ⟨g, 0, none⟩)] w fun e w' => e = .returned (.int .i64 (t.twnE x)) ∧ Below w.heap.size w w' := by
  have hlt := (Array.getElem?_eq_some_iff.1 hg).1
  have hc0 : w.cell? ⟨g, 0, none⟩ = some (.int .i64 t.pol) := by simp [World.cell?, hg, atkC]
  have hcont := fun (w5 : World) (hB : Below w.heap.size w w5) => contA (f := 82) (cap := [.pointer (some ⟨g, 0, none⟩)]) (P := fun c => outB c 0 (t.cha.length - 1)) (r := q) (ms := x.chs) (w := w5) (ck rfl) ((hq.keep fun k hk => hB.block k hk).mono fun k hk => Nat.lt_of_lt_of_le hk hB.size) (by omega)
    (fun m _ w' hB' => achk41_any (g := g) (v := v) (t := t) m w' ((hB'.block g (Nat.lt_of_lt_of_le hlt hB.size)).trans ((hB.block g hlt).trans hg)) hn h4)
  simp only [twnC, svV] at hcont ⊢
  refine enter Tryz.func81 rfl Tryz.ntmps81 rfl ?_; simp only [frame, Nat.zero_add, Nat.reduceAdd]
  repeat (first | (refine M0 ?_; first | refine SL ?_ | refine SB fun _ _ => ?_ | refine Y4 (Ev.makeFunc rfl rfl) ?_ | refine Y4 (Ev.load_old tok rfl rfl hlt hc0) ?_ | refine Y4 (Ev.call (f := 23) (ck rfl) rfl (fun w S => aout_any _ _ _ w)) ?_) | (refine M1 ?_; refine SC ?_) | (refine M2 ?_; refine SE ?_))
  rename_i g2 hg2
  cases h1 : outB x.pol 0 (t.pol - 1) with
  | true =>
    repeat (first | (refine M0 ?_; first | refine SL ?_ | refine SB fun _ _ => ?_) | (refine M1 ?_; refine SC ?_) | (refine M2 ?_; refine SE ?_))
    refine XE.retg tok Tryz.results81 rfl (by simp only [and_self, and_true]) (fun w' S => ?_)
    exact ⟨by unfold ATk.twnE; rw [h1]; rfl, S.toBelow⟩
  | false =>
  repeat (first | (refine M0 ?_; first | refine SL ?_ | refine SB fun _ _ => ?_ | refine Y4 (Ev.call (f := 57) (ck rfl) rfl (fun w5 S5 => hcont w5 S5.toBelow)) ?_) | (refine M1 ?_; refine SC ?_) | (refine M2 ?_; refine SE ?_))
  cases h2 : x.chs.any fun c => outB c 0 (t.cha.length - 1) with
  | true =>
    repeat (first | (refine M0 ?_; first | refine SL ?_ | refine SB fun _ _ => ?_) | (refine M1 ?_; refine SC ?_) | (refine M2 ?_; refine SE ?_))
    refine XE.retg tok Tryz.results81 rfl (by simp only [and_self, and_true]) (fun w' S => ?_)
    exact ⟨by unfold ATk.twnE; rw [h1, h2]; rfl, S.toBelow⟩
  | false =>
  repeat (first | (refine M0 ?_; first | refine SL ?_ | refine SB fun _ _ => ?_) | (refine M1 ?_; refine SC ?_) | (refine M2 ?_; refine SE ?_))
  refine XC.drawR _ [0, 1, 6, 7, 8] [2, 3, 4, 5, 9, 10] mixed (fun _ h => h) rfl (by kernel_rfl) ?_
  repeat (first | (refine M0 ?_; first | refine SL ?_ | refine SB fun _ _ => ?_) | (refine M2 ?_; refine SE ?_) | (refine M3 ?_; first | refine SG ?_ | refine SF ?_) | (refine M4 ?_; refine SR ?_) | (refine M5 ?_; first | exact M7 | refine YM ?_ | refine YN ?_ ?_))
  have hqn : q.n = x.chs.length := hq.len
  refine XL.call (fst := []) (cap := []) (ck rfl) rfl rfl rfl (List.Sublist.refl _) (fun w5 (v : Value) w6 => ∃ gp, v = .func (.func 95) #[] #[.pointer (some ⟨gp, 0, none⟩)] ∧ w5.heap.size ≤ gp ∧ w6.heap[gp]? = some (cel 26 [svV q])) (fun w5 S5 => ?_) (fun w5 v5 w6 S5 hR hb6 S6 => ?_)
  · exact (vals0_any (q := q) (w := w5)).mono fun e w' ⟨u, h3, gp, h4', S⟩ => ⟨u, h3, ⟨gp, h4', (S.own _ (.head _)).1, (S.own _ (.head _)).2⟩, S.toBelow⟩
  obtain ⟨gp, rfl, hgp, hgc⟩ := hR
  have hg25 : g2 < w5.heap.size := S5.keyLt g2 (by simp)
  have hgp6 := (Array.getElem?_eq_some_iff.1 hgc).1
  have hz6 := S6.size
  repeat (first | (refine M0 ?_; first | refine SL ?_ | refine SB fun _ _ => ?_) | (refine M2 ?_; refine SE ?_) | (refine M3 ?_; first | refine SG ?_ | refine SF ?_) | (refine M4 ?_; refine SR ?_) | (refine M5 ?_; first | exact M7 | refine YM ?_ | refine YN ?_ ?_))
  refine z5 ?_
  repeat (first | (refine M0 ?_; first | refine SL ?_ | refine SB fun _ _ => ?_) | (refine M2 ?_; refine SE ?_) | (refine M3 ?_; first | refine SG ?_ | refine SF ?_) | (refine M4 ?_; refine SR ?_) | (refine M5 ?_; first | exact M7 | refine YM ?_ | refine YN ?_ ?_))
  refine XL.call (fst := []) (cap := []) (ck rfl) rfl rfl rfl (List.Sublist.refl _) (fun w7 v w8 => w8.ownsRow w7.heap.size 3 1 v x.chs.length (ints (sortL x.chs))) (fun w7 S7 => ?_) (fun w7 v8 w8 S7 hR8 hb8 S8 => ?_)
  · have hg7 : w7.heap[gp]? = some (cel 26 [svV q]) := (S7.old gp hgp6 fun e he e9 => by rw [List.mem_singleton.1 he] at e9; simp only at e9; omega).trans hgc
    exact (sorted_any (w := w7) hg7 (hq.arg (S6.trans S7 (fun _ h => h))) hl).mono fun e w' ⟨u, h3, h5, h6⟩ => ⟨u, h3, h6, h5⟩
  have S68 := S6.trans S8 (fun _ h => h)
  have hz8 := S68.size
  have hg27 : g2 < w7.heap.size := S7.keyLt g2 (by simp)
  have hw7 : w.heap.size ≤ w7.heap.size := Nat.le_trans hz6 S7.size
  repeat (first | (refine M0 ?_; first | refine SL ?_ | refine SB fun _ _ => ?_) | (refine M2 ?_; refine SE ?_) | (refine M3 ?_; first | refine SG ?_ | refine SF ?_) | (refine M4 ?_; refine SR ?_) | (refine M5 ?_; first | exact M7 | refine YM ?_ | refine YN ?_ ?_))
  refine z5 (S' := S68) ?_
  repeat (first | (refine M0 ?_; first | refine SL ?_ | refine SB fun _ _ => ?_) | (refine M2 ?_; refine SE ?_) | (refine M3 ?_; first | refine SG ?_ | refine SF ?_) | (refine M4 ?_; refine SR ?_) | (refine M5 ?_; first | exact M7 | refine YM ?_ | refine YN ?_ ?_))
  refine XL.callK (fst := []) (cap := []) (fun v w' => ∃ A m c, v = .slice A m c ∧ (m < x.chs.length ↔ dupN (sortL x.chs)) ∧ Sys w.heap.size w [(g2, cel 67 [.string x.name, .int .i64 x.pol, .int .i64 x.travel, .int .i64 x.lead, .slice q.A q.n q.c])] w') (ck rfl) rfl rfl rfl (fun w9 S9 => ?_) (fun v10 w10 hR10 hB10 S10 => ?_)
  · have hrow := owns_move' (W' := w9) hR8 fun k hk => S9.old k (hR8.lt k hk).2 fun e he e9 => by rw [List.mem_singleton.1 he] at e9; have := (hR8.lt k hk).1; simp only at e9; omega
    rw [← sortL_len x.chs] at hrow
    refine (compact_any (w := w9) hrow (by rw [sortL_len]; exact hl)).mono fun e w' ⟨A, m, c, h3, h5, h6⟩ => ⟨_, h3, ⟨A, m, c, rfl, by rw [sortL_len] at h5; exact h5, ?_⟩, ?_, ?_⟩
    · have S69 := S68.trans S9 (fun _ h => h)
      exact ⟨h6.os.trans S69.os, h6.tape.trans S69.tape, h6.output.trans S69.output, Nat.le_trans S69.size h6.size, S69.base, fun k hk hk2 => (h6.old k (Nat.lt_of_lt_of_le hk S69.size) fun e9 => by have := (hR8.lt k e9).1; omega).trans (S69.old k hk hk2), fun e he => ⟨(S69.own e he).1, (h6.old e.1 (S69.lt he) fun e9 => by rw [List.mem_singleton.1 he] at e9; have := (hR8.lt _ e9).1; simp only at this; omega).trans (S69.own e he).2⟩, S69.nd⟩
    · exact ⟨h6.os, h6.tape, h6.output, h6.size, fun k hk => h6.old k (Nat.lt_of_lt_of_le hk (Nat.le_trans hz8 S9.size)) fun e9 => by have := (hR8.lt k e9).1; omega⟩
    · intro e he
      exact h6.old e.1 (S9.lt he) fun e9 => by rw [List.mem_singleton.1 he] at e9; have := (hR8.lt _ e9).1; simp only at this; omega
  obtain ⟨A, m, c, rfl, hmd, S11⟩ := hR10
  have hz10 := S11.size
  repeat (first | (refine M0 ?_; first | refine SL ?_ | refine SB fun _ _ => ?_) | (refine M2 ?_; refine SE ?_) | (refine M3 ?_; first | refine SG ?_ | refine SF ?_) | (refine M4 ?_; refine SR ?_) | (refine M5 ?_; first | exact M7 | refine YM ?_ | refine YN ?_ ?_))
  refine z5 (S' := S11) ?_
  repeat (first | (refine M0 ?_; first | refine SL ?_ | refine SB fun _ _ => ?_) | (refine M2 ?_; refine SE ?_) | (refine M3 ?_; first | refine SG ?_ | refine SF ?_) | (refine M4 ?_; refine SR ?_) | (refine M5 ?_; first | exact M7 | refine YM ?_ | refine YN ?_ ?_))
  refine z5 (S' := S11) ?_
  repeat (first | (refine M0 ?_; first | refine SL ?_ | refine SB fun _ _ => ?_) | (refine M2 ?_; refine SE ?_) | (refine M3 ?_; first | refine SG ?_ | refine SF ?_) | (refine M4 ?_; refine SR ?_) | (refine M5 ?_; first | exact M7 | refine YM ?_ | refine YN ?_ ?_))
  refine z5 (S' := S11) ?_
  repeat (first | (refine M0 ?_; first | refine SL ?_ | refine SB fun _ _ => ?_) | (refine M2 ?_; refine SE ?_) | (refine M3 ?_; first | refine SG ?_ | refine SF ?_) | (refine M4 ?_; refine SR ?_) | (refine M5 ?_; first | exact M7 | refine YM ?_ | refine YN ?_ ?_))
  any_goals (repeat (first | exact AnyR.nil | refine AnyR.skip rfl ?_))
  rw [hqn]
  by_cases hd : dupN (sortL x.chs)
  · rw [show decide ((m : Int) < (x.chs.length : Nat)) = true from decide_eq_true (by have := hmd.2 hd; omega)]
    repeat (first | (refine M0 ?_; first | refine SL ?_ | refine SB fun _ _ => ?_) | (refine M1 ?_; refine SC ?_) | (refine M2 ?_; refine SE ?_))
    refine XE.retg tok Tryz.results81 rfl (by simp only [and_self, and_true]) (fun w' S => ?_)
    exact ⟨by unfold ATk.twnE; rw [h1, h2, if_neg (by decide), if_pos ((dup_sort _).1 hd)]; rfl, S11.toBelow.trans S.toBelow⟩
  rw [show decide ((m : Int) < (x.chs.length : Nat)) = false from decide_eq_false (fun h => hd (hmd.1 (by omega)))]
  have hnd : ¬ ¬ x.chs.Nodup := fun h => hd ((dup_sort _).2 h)
  repeat (first | (refine M0 ?_; first | refine SL ?_ | refine SB fun _ _ => ?_ | refine Y4 (Ev.call (f := 23) (ck rfl) rfl (fun w S => aout_any _ _ _ w)) ?_) | (refine M1 ?_; refine SC ?_) | (refine M2 ?_; refine SE ?_))
  cases h3 : outB x.travel 0 500 with
  | true =>
    repeat (first | (refine M0 ?_; first | refine SL ?_ | refine SB fun _ _ => ?_) | (refine M1 ?_; refine SC ?_) | (refine M2 ?_; refine SE ?_))
    refine XE.retg tok Tryz.results81 rfl (by simp only [and_self, and_true]) (fun w' S => ?_)
    exact ⟨by unfold ATk.twnE; rw [h1, h2, if_neg (by decide), if_neg hnd, h3]; rfl, S11.toBelow.trans S.toBelow⟩
  | false =>
  repeat (first | (refine M0 ?_; first | refine SL ?_ | refine SB fun _ _ => ?_ | refine Y4 (Ev.call (f := 23) (ck rfl) rfl (fun w S => aout_any _ _ _ w)) ?_) | (refine M1 ?_; refine SC ?_) | (refine M2 ?_; refine SE ?_))
  cases h5 : outB x.lead 0 500 with
  | true =>
    repeat (first | (refine M0 ?_; first | refine SL ?_ | refine SB fun _ _ => ?_) | (refine M1 ?_; refine SC ?_) | (refine M2 ?_; refine SE ?_))
    refine XE.retg tok Tryz.results81 rfl (by simp only [and_self, and_true]) (fun w' S => ?_)
    exact ⟨by unfold ATk.twnE; rw [h1, h2, if_neg (by decide), if_neg hnd, h3, h5]; rfl, S11.toBelow.trans S.toBelow⟩
  | false =>
    repeat (first | (refine M0 ?_; first | refine SL ?_ | refine SB fun _ _ => ?_) | (refine M1 ?_; refine SC ?_) | (refine M2 ?_; refine SE ?_))
    refine XE.retg tok Tryz.results81 rfl (by simp only [and_self, and_true]) (fun w' S => ?_)
    exact ⟨by unfold ATk.twnE; rw [h1, h2, if_neg (by decide), if_neg hnd, h3, h5]; rfl, S11.toBelow.trans S.toBelow⟩
end X
namespace Bs
open X
theorem eachE_map {α β : Type} (g : α → β) (name : β → ByteArray) (rest : β → Int) (l : List α) (i : Nat) : eachE (fun x => name (g x)) (fun x => rest (g x)) l i = eachE name rest (l.map g) i := by
  unfold eachE
  rw [List.getElem?_map]
  cases l[i]? with
  | none => rfl
  | some x => simp only [Option.map_some]; rw [← List.map_take, List.any_map]; rfl
namespace ATk
variable {t : ATk}
theorem alE_1 (a1 : outB t.pol 0 6 = true) : t.alE = 7 := by unfold alE; rw [if_pos a1]
theorem alE_2 (a1 : outB t.pol 0 6 = false) (a2 : 4 < t.cha.length) : t.alE = 3 := by unfold alE; rw [if_neg (by simp [a1]), if_pos a2]
theorem alE_3 {i : Nat} (a1 : outB t.pol 0 6 = false) (a2 : ¬ 4 < t.cha.length) (b1 : firstN (eachE Cha.name chaE t.cha) t.cha.length = some i) : t.alE = eachE Cha.name chaE t.cha i := by
  unfold alE; rw [if_neg (by simp [a1]), if_neg a2, b1]
theorem alE_4 (a1 : outB t.pol 0 6 = false) (a2 : ¬ 4 < t.cha.length) (b1 : firstN (eachE Cha.name chaE t.cha) t.cha.length = none) (a3 : 8 < t.twn.length) : t.alE = 3 := by
  unfold alE; rw [if_neg (by simp [a1]), if_neg a2, b1]; simp only; rw [if_pos a3]
theorem alE_5 {i : Nat} (a1 : outB t.pol 0 6 = false) (a2 : ¬ 4 < t.cha.length) (b1 : firstN (eachE Cha.name chaE t.cha) t.cha.length = none) (a3 : ¬ 8 < t.twn.length) (b2 : firstN (eachE Twn.name t.twnE t.twn) t.twn.length = some i) : t.alE = eachE Twn.name t.twnE t.twn i := by
  unfold alE; rw [if_neg (by simp [a1]), if_neg a2, b1]; simp only; rw [if_neg a3, b2]
theorem alE_6 (a1 : outB t.pol 0 6 = false) (a2 : ¬ 4 < t.cha.length) (b1 : firstN (eachE Cha.name chaE t.cha) t.cha.length = none) (a3 : ¬ 8 < t.twn.length) (b2 : firstN (eachE Twn.name t.twnE t.twn) t.twn.length = none) (a4 : outB t.flo.length 1 8 = true) : t.alE = 3 := by
  unfold alE; rw [if_neg (by simp [a1]), if_neg a2, b1]; simp only; rw [if_neg a3, b2]; simp only; rw [if_pos a4]
theorem alE_7 (a1 : outB t.pol 0 6 = false) (a2 : ¬ 4 < t.cha.length) (b1 : firstN (eachE Cha.name chaE t.cha) t.cha.length = none) (a3 : ¬ 8 < t.twn.length) (b2 : firstN (eachE Twn.name t.twnE t.twn) t.twn.length = none) (a4 : outB t.flo.length 1 8 = false) :
    (∀ i, firstN (fun i => t.floE (t.flo[i]?.getD [])) t.flo.length = some i → t.alE = t.floE (t.flo[i]?.getD [])) ∧ (firstN (fun i => t.floE (t.flo[i]?.getD [])) t.flo.length = none → t.alE = 0) := by
  unfold alE; rw [if_neg (by simp [a1]), if_neg a2, b1]; simp only; rw [if_neg a3, b2]; simp only; rw [if_neg (by simp [a4])]
  exact ⟨fun i h => by rw [h], fun h => by rw [h]⟩
end ATk
end Bs
namespace X
open Go Go.RowKit Bs
set_option maxHeartbeats 16000000 in
theorem aCheck_any {v : ATV} {t : ATk} {w : World} (hL : Laid w) (ht : AtAt w w.heap.size v t) (hl : ∀ x, x ∈ t.twn → x.chs.length ≤ 5000000) :
    Calls Tryz.prog 62 #[atkV v t] w fun e w' => ∃ p a : Int, e = .returned (.tuple ⟨[.int .i64 p, .int .i64 a, .int .i64 t.alE]⟩) ∧ Below w.heap.size w w' := by
  have hnc := ht.nc
  have hnw := ht.nw
  have hnf := ht.nf
  have hflo := fun k hk => ht.floAt (k := k) hk
  have htes := ht.tes
  obtain ⟨⟨Ac, nc, cc⟩, ⟨Aw, nw, cw⟩, ⟨Af, nf, cf⟩, es, fs⟩ := v
  simp only at hnc hnw hnf hflo htes
  subst hnc hnw hnf
  simp only [atkV, atkC]
  refine enter Tryz.func62 rfl Tryz.ntmps62 rfl ?_; simp only [frame, Nat.zero_add, Nat.reduceAdd]
  repeat (first | (refine M0 ?_; first | refine SL ?_ | refine SB fun _ _ => ?_ | refine Y4 (Ev.call (f := 23) (ck rfl) rfl (fun w S => aout_any _ _ _ w)) ?_) | (refine M1 ?_; refine SC ?_) | (refine M2 ?_; refine SE ?_))
  rename_i g1 hg1 g5 hg5
  cases a1 : outB t.pol 0 6 with
  | true =>
    repeat (first | (refine M0 ?_; first | refine SL ?_ | refine SB fun _ _ => ?_) | (refine M1 ?_; refine SC ?_) | (refine M2 ?_; refine SE ?_))
    refine XE.retg tok Tryz.results62 rfl (by simp only [and_self, and_true]) (fun w' S => ?_)
    exact ⟨1, 0, by rw [ATk.alE_1 a1]; rfl, S.toBelow⟩
  | false =>
  repeat (first | (refine M0 ?_; first | refine SL ?_ | refine SB fun _ _ => ?_) | (refine M1 ?_; refine SC ?_) | (refine M2 ?_; refine SE ?_))
  refine XC.cond _ rfl (fun h2 => ?_) (fun h2 => ?_)
  · have a2 : 4 < t.cha.length := by have := of_decide_eq_true h2; omega
    repeat (first | (refine M0 ?_; first | refine SL ?_ | refine SB fun _ _ => ?_) | (refine M1 ?_; refine SC ?_) | (refine M2 ?_; refine SE ?_))
    refine XE.retg tok Tryz.results62 rfl (by simp only [and_self, and_true]) (fun w' S => ?_)
    exact ⟨2, 0, by rw [ATk.alE_2 a1 a2]; rfl, S.toBelow⟩
  have a2 : ¬ 4 < t.cha.length := by have := of_decide_eq_false h2; omega
  clear h2
  repeat (first | (refine M0 ?_; first | refine SL ?_ | refine SB fun _ _ => ?_) | (refine M1 ?_; refine SC ?_) | (refine M2 ?_; refine SE ?_))
  refine XL.rebase (List.Sublist.refl _) (fun W0 S0 => ?_)
  have hp0 := outB_f.1 a1
  refine XL.callF (ks := [g5, g1]) (rs := []) (hs := []) (b0 := w.heap.size) (wE := w) (MisV (eachE Cha.name chaE t.cha) t.cha.length) (ck rfl) rfl rfl (Fam.start S0.size) (fun k hk => S0.keyLt k hk) S0.toBelow (fun w1 S1 _ hB1 => eachC_any (f := 78) (cap := []) (R := chaE) (r := ⟨Ac, t.cha.length, cc⟩) (ck rfl) ((ht.sys (Sys.ofBelow hB1)).cha) (by omega) ht.cn (fun x _ w' _ => by simp only [List.nil_append, List.append_nil]; exact achk2_any x w')) (fun w2 x new hR hF2 hB2 hk2 => ?_) ZZHL
  unfold MisV at hR
  cases b1 : firstN (eachE Cha.name chaE t.cha) t.cha.length with
  | some i =>
    rw [b1] at hR
    obtain ⟨gf, rfl, rfl⟩ := hR
    repeat (first | (refine M0 ?_; first | refine SL ?_ | refine SB fun _ _ => ?_ | refine Y4 (Ev.makeI targM_con rfl) ?_) | (refine M1 ?_; refine SC ?_) | (refine M2 ?_; refine SE ?_))
    have hmi := hF2.held (hMis gf i (eachE Cha.name chaE t.cha i)) (.head _)
    have hL2 : Laid w2 := hL.below hB2
    refine XL.callT (fst := []) (cap := []) (B' := g5) 0 (ck rfl) rfl rfl rfl rfl rfl (fun w3 S3 => asHitM_any (gf := gf) (hL2.sys S3 hL.pos) (S3.own _ (.head _)).2) ?_
    have hgf2 : gf < w2.heap.size := hmi.1.2.1
    have hnk : ∀ j, j ∈ [g5, g1] → j ≠ gf := fun j hj e2 => hmi.1.2.2.1 (List.mem_append_left _ (by subst e2; exact hj))
    have hc0 : w2.cell? ((⟨gf, 0, none⟩ : Addr).add 0) = some (.int .i64 (i : Nat)) := by rw [add_off]; simp [World.cell?, hmi.2]
    have hc1 : w2.cell? ((⟨gf, 0, none⟩ : Addr).add 1) = some (.int .i64 (eachE Cha.name chaE t.cha i)) := by rw [add_off]; simp [World.cell?, hmi.2]
    repeat (first | (refine M0 ?_; first | refine SL ?_ | refine SB fun _ _ => ?_) | (refine M1 ?_; refine SC ?_) | (refine M2 ?_; refine SE ?_))
    refine XC.drawR _ [0, 1, 2, 3, 4, 5, 6, 7] [8, 9, 10] mixed (fun _ h => h) rfl (by kernel_rfl) ?_
    repeat (any_goals (first | (refine M0 ?_; first | refine SL ?_ | refine SB fun _ _ => ?_ | (refine XL.split _ _ rfl (fun h => ?_) (fun h => ?_) <;> rw [h]) | refine Y4 (Ev.load_far tok rfl rfl hgf2 (fun e he => hnk e.1 (List.mem_map.2 ⟨e, he, rfl⟩)) hc0) ?_ | refine Y4 (Ev.load_far tok rfl rfl hgf2 (fun e he => hnk e.1 (List.mem_map.2 ⟨e, he, rfl⟩)) hc1) ?_) | (refine M1 ?_; first | refine SC ?_ | refine SD ?_ | refine XC.cond _ rfl (fun h => ?_) (fun h => ?_)) | (refine M2 ?_; refine SE ?_) | (refine M3 ?_; first | refine SG ?_ | refine SF ?_ | (refine Fw.split _ _ rfl (fun h => ?_) (fun h => ?_) <;> rw [h]) | refine YF (Ev.load_far tok rfl rfl hgf2 (fun e he => hnk e.1 (List.mem_map.2 ⟨e, he, rfl⟩)) hc0) ?_ | refine YF (Ev.load_far tok rfl rfl hgf2 (fun e he => hnk e.1 (List.mem_map.2 ⟨e, he, rfl⟩)) hc1) ?_) | (refine M4 ?_; refine SR ?_) | (refine M5 ?_; first | exact M7 | refine YM ?_ | refine YN ?_ ?_)))
    refine XE.retg tok Tryz.results62 rfl (by simp only [and_self, and_true]) (fun w' S => ?_)
    exact ⟨2, i, by rw [ATk.alE_3 a1 a2 b1]; rfl, hB2.trans S.toBelow⟩
  | none =>
  rw [b1] at hR
  obtain ⟨rfl, rfl⟩ := hR
  repeat (first | (refine M0 ?_; first | refine SL ?_ | refine SB fun _ _ => ?_ | refine Y4 (Ev.makeI targM_con rfl) ?_) | (refine M1 ?_; refine SC ?_) | (refine M2 ?_; refine SE ?_))
  refine Y4 (Ev.call (f := 55) (ck rfl) rfl (fun w S => asNil_any _ w)) ?_
  repeat (first | (refine M0 ?_; first | refine SL ?_ | refine SB fun _ _ => ?_) | (refine M1 ?_; refine SC ?_) | (refine M2 ?_; refine SE ?_))
  refine XC.cond _ rfl (fun h2 => ?_) (fun h2 => ?_)
  · have a3 : 8 < t.twn.length := by have := of_decide_eq_true h2; omega
    repeat (first | (refine M0 ?_; first | refine SL ?_ | refine SB fun _ _ => ?_) | (refine M1 ?_; refine SC ?_) | (refine M2 ?_; refine SE ?_))
    refine XE.retg tok Tryz.results62 rfl (by simp only [and_self, and_true]) (fun w' S => ?_)
    exact ⟨3, 0, by rw [ATk.alE_4 a1 a2 b1 a3]; rfl, hB2.trans S.toBelow⟩
  have a3 : ¬ 8 < t.twn.length := by have := of_decide_eq_false h2; omega
  clear h2
  repeat (first | (refine M0 ?_; first | refine SL ?_ | refine SB fun _ _ => ?_ | refine Y4 (Ev.makeFunc rfl rfl) ?_) | (refine M1 ?_; refine SC ?_) | (refine M2 ?_; refine SE ?_))
  have hel : es.length = t.twn.length := by rw [← htes]; simp
  have hEm : eachE (fun x : SV × Twn => x.2.name) (fun x => t.twnE x.2) es = eachE Twn.name t.twnE t.twn := by
    funext i; rw [← htes]; exact eachE_map (fun x : SV × Twn => x.2) Twn.name t.twnE es i
  have hek : ∀ k, k ∈ [g5, g1] ++ [g5, g1] → k < w2.heap.size := hk2
  refine XL.callF (ks := [g5, g1] ++ [g5, g1]) (rs := []) (hs := []) (b0 := w.heap.size) (wE := w) (MisV (eachE Twn.name t.twnE t.twn) t.twn.length) (ck rfl) rfl rfl hF2 hk2 hB2 (fun w1 S1 _ hB1 => ?_) (fun w4 x new hR2 hF4 hB4 hk4 => ?_) (fun e he => .inl (List.mem_append_left _ (List.mem_map.2 ⟨e, he, rfl⟩)))
  · have hT := eachT_any (f := 81) (cap := [.pointer (some ⟨g1, 0, none⟩)]) (R := fun x : SV × Twn => t.twnE x.2) (r := ⟨Aw, t.twn.length, cw⟩) (w := w1) (ck rfl) ((ht.sys (Sys.ofBelow hB1)).twn) (show es.length ≤ 1000 by omega) (fun x hx => ht.tn x.2 (by rw [← htes]; exact List.mem_map_of_mem hx)) (fun x hx w' hB' => ?_)
    · rw [hEm, hel] at hT
      exact hT
    · have hg1 := S1.own (g1, cel 56 (atkC ⟨⟨Ac, t.cha.length, cc⟩, ⟨Aw, t.twn.length, cw⟩, ⟨Af, t.flo.length, cf⟩, es, fs⟩ t)) (.tail _ (.head _))
      have hgl := S1.keyLt g1 (by simp)
      have hBw : Below w.heap.size w1 w' := hB'.mono hB1.size
      exact achk4_any (g := g1) (v := ⟨⟨Ac, t.cha.length, cc⟩, ⟨Aw, t.twn.length, cw⟩, ⟨Af, t.flo.length, cf⟩, es, fs⟩) (t := t) (q := x.1) (x := x.2) ((hB'.block g1 hgl).trans hg1.2) rfl (by omega) hp0 ((ht.sys (Sys.ofBelow (hB1.trans hBw))).twn.ins x hx (hInts x.1 x.2.chs) (List.mem_singleton.2 rfl)) (hl x.2 (by rw [← htes]; exact List.mem_map_of_mem hx))
  unfold MisV at hR2
  cases b2 : firstN (eachE Twn.name t.twnE t.twn) t.twn.length with
  | some i =>
    rw [b2] at hR2
    obtain ⟨gf, rfl, rfl⟩ := hR2
    have hmi := hF4.held (hMis gf i (eachE Twn.name t.twnE t.twn i)) (.head _)
    have hL4 : Laid w4 := hL.below hB4
    repeat (first | (refine M0 ?_; first | refine SL ?_ | refine SB fun _ _ => ?_ | refine Y4 (Ev.makeI targM_con rfl) ?_) | (refine M1 ?_; refine SC ?_) | (refine M2 ?_; refine SE ?_))
    refine XL.callT (fst := []) (cap := []) (B' := g5) 0 (ck rfl) rfl rfl rfl rfl rfl (fun w3 S3 => asHitM_any (gf := gf) (hL4.sys S3 hL.pos) (S3.own _ (.head _)).2) ?_
    have hgf4 : gf < w4.heap.size := hmi.1.2.1
    have hnk : ∀ j, j ∈ [g5, g1] → j ≠ gf := fun j hj e2 => hmi.1.2.2.1 (List.mem_append_left _ (by subst e2; exact hj))
    have hc0 : w4.cell? ((⟨gf, 0, none⟩ : Addr).add 0) = some (.int .i64 (i : Nat)) := by rw [add_off]; simp [World.cell?, hmi.2]
    have hc1 : w4.cell? ((⟨gf, 0, none⟩ : Addr).add 1) = some (.int .i64 (eachE Twn.name t.twnE t.twn i)) := by rw [add_off]; simp [World.cell?, hmi.2]
    repeat (first | (refine M0 ?_; first | refine SL ?_ | refine SB fun _ _ => ?_) | (refine M1 ?_; refine SC ?_) | (refine M2 ?_; refine SE ?_))
    refine XC.drawR _ [0, 1, 2, 3, 4, 5, 6, 7] [8, 9, 10] mixed (fun _ h => h) rfl (by kernel_rfl) ?_
    repeat (any_goals (first | (refine M0 ?_; first | refine SL ?_ | refine SB fun _ _ => ?_ | (refine XL.split _ _ rfl (fun h => ?_) (fun h => ?_) <;> rw [h]) | refine Y4 (Ev.load_far tok rfl rfl hgf4 (fun e he => hnk e.1 (List.mem_map.2 ⟨e, he, rfl⟩)) hc0) ?_ | refine Y4 (Ev.load_far tok rfl rfl hgf4 (fun e he => hnk e.1 (List.mem_map.2 ⟨e, he, rfl⟩)) hc1) ?_) | (refine M1 ?_; first | refine SC ?_ | refine SD ?_ | refine XC.cond _ rfl (fun h => ?_) (fun h => ?_)) | (refine M2 ?_; refine SE ?_) | (refine M3 ?_; first | refine SG ?_ | refine SF ?_ | (refine Fw.split _ _ rfl (fun h => ?_) (fun h => ?_) <;> rw [h]) | refine YF (Ev.load_far tok rfl rfl hgf4 (fun e he => hnk e.1 (List.mem_map.2 ⟨e, he, rfl⟩)) hc0) ?_ | refine YF (Ev.load_far tok rfl rfl hgf4 (fun e he => hnk e.1 (List.mem_map.2 ⟨e, he, rfl⟩)) hc1) ?_) | (refine M4 ?_; refine SR ?_) | (refine M5 ?_; first | exact M7 | refine YM ?_ | refine YN ?_ ?_)))
    refine XE.retg tok Tryz.results62 rfl (by simp only [and_self, and_true]) (fun w' S => ?_)
    exact ⟨3, i, by rw [ATk.alE_5 a1 a2 b1 a3 b2]; rfl, hB4.trans S.toBelow⟩
  | none =>
  rw [b2] at hR2
  obtain ⟨rfl, rfl⟩ := hR2
  repeat (first | (refine M0 ?_; first | refine SL ?_ | refine SB fun _ _ => ?_ | refine Y4 (Ev.makeI targM_con rfl) ?_) | (refine M1 ?_; refine SC ?_) | (refine M2 ?_; refine SE ?_))
  refine Y4 (Ev.call (f := 55) (ck rfl) rfl (fun w S => asNil_any _ w)) ?_
  repeat (first | (refine M0 ?_; first | refine SL ?_ | refine SB fun _ _ => ?_ | refine Y4 (Ev.call (f := 23) (ck rfl) rfl (fun w S => aout_any _ _ _ w)) ?_) | (refine M1 ?_; refine SC ?_) | (refine M2 ?_; refine SE ?_))
  cases a4 : outB t.flo.length 1 8 with
  | true =>
    repeat (first | (refine M0 ?_; first | refine SL ?_ | refine SB fun _ _ => ?_) | (refine M1 ?_; refine SC ?_) | (refine M2 ?_; refine SE ?_))
    refine XE.retg tok Tryz.results62 rfl (by simp only [and_self, and_true]) (fun w' S => ?_)
    exact ⟨4, 0, by rw [ATk.alE_6 a1 a2 b1 a3 b2 a4]; rfl, hB4.trans S.toBelow⟩
  | false =>
  repeat (first | (refine M0 ?_; first | refine SL ?_ | refine SB fun _ _ => ?_) | (refine M1 ?_; refine SC ?_) | (refine M2 ?_; refine SE ?_))
  have hlo := outB_f.1 a4
  refine XC.loopk [1, 60, 61] rfl (fun k : Nat => [(62, .int .i64 (k : Nat))]) (fun _ => [(g5, cel 182 [.pointer none]), (g1, cel 56 [.int .i64 t.pol, .slice Ac t.cha.length cc, .slice Aw t.twn.length cw, .slice Af t.flo.length cf])]) (fun _ => w4)
    (fun k => k ≤ t.flo.length ∧ ∀ j, j < k → t.floE (t.flo[j]?.getD []) = 0) (fun k => t.flo.length - k) 0 ⟨Nat.zero_le _, fun j h => absurd h (by omega)⟩ ZZSUB (fun _ h => h) ?_
  rintro k ⟨hk, h0⟩
  dsimp only [List.cons_append, List.nil_append]
  repeat (first | (refine M0 ?_; first | refine SL ?_ | refine SB fun _ _ => ?_) | (refine M1 ?_; refine SC ?_) | (refine M2 ?_; refine SE ?_))
  refine XC.cond _ rfl (fun h2 => ?_) (fun h2 => ?_)
  rotate_left
  · have hkn : ¬ k < t.flo.length := by have := of_decide_eq_false h2; omega
    repeat (first | (refine M0 ?_; first | refine SL ?_ | refine SB fun _ _ => ?_) | (refine M1 ?_; refine SC ?_) | (refine M2 ?_; refine SE ?_))
    refine XE.retg tok Tryz.results62 rfl (by simp only [and_self, and_true]) (fun w' S => ?_)
    exact ⟨_, _, by rw [(ATk.alE_7 a1 a2 b1 a3 b2 a4).2 (firstN_none fun j hj => h0 j (by omega))]; rfl, hB4.trans S.toBelow⟩
  have hkn : k < t.flo.length := by have := of_decide_eq_true h2; omega
  clear h2
  obtain ⟨ad, q, e1, hlt, hcell, hq⟩ := (ht.below hB4).floAt hkn
  simp only at e1
  subst e1
  have hqn : q.n = (t.flo[k]?.getD []).length := hq.len
  repeat (first | (refine M0 ?_; first | refine SL ?_ | refine SB fun _ _ => ?_ | refine Y4 (Ev.load_old tok rfl rfl (add_lt hlt) hcell) ?_) | (refine M1 ?_; refine SC ?_) | (refine M2 ?_; refine SE ?_))
  refine XC.cond _ rfl (fun h2 => ?_) (fun h2 => ?_)
  · have hne : ((t.flo[k]?.getD []).length : Int) ≠ t.pol := by have := of_decide_eq_true h2; omega
    have hE : t.floE (t.flo[k]?.getD []) = 2 := by unfold ATk.floE; rw [if_pos hne]
    repeat (first | (refine M0 ?_; first | refine SL ?_ | refine SB fun _ _ => ?_) | (refine M1 ?_; refine SC ?_) | (refine M2 ?_; refine SE ?_))
    refine XE.retg tok Tryz.results62 rfl (by simp only [and_self, and_true]) (fun w' S => ?_)
    exact ⟨_, _, by rw [(ATk.alE_7 a1 a2 b1 a3 b2 a4).1 k (firstN_some hkn h0 (by rw [hE]; decide)), hE]; rfl, hB4.trans S.toBelow⟩
  have heq : ((t.flo[k]?.getD []).length : Int) = t.pol := by have := of_decide_eq_false h2; omega
  clear h2
  repeat (first | (refine M0 ?_; first | refine SL ?_ | refine SB fun _ _ => ?_) | (refine M1 ?_; refine SC ?_) | (refine M2 ?_; refine SE ?_))
  refine Y4 (Ev.call (f := 57) (ck rfl) rfl (fun w S => contA (f := 86) (cap := []) (r := q) (P := fun n => outB n (-1) 200000) (ck rfl) (hq.arg S) (by omega) (fun m _ w' _ => achk5_any m w'))) ?_
  repeat (first | (refine M0 ?_; first | refine SL ?_ | refine SB fun _ _ => ?_) | (refine M1 ?_; refine SC ?_) | (refine M2 ?_; refine SE ?_))
  refine XC.cond _ rfl (fun h2 => ?_) (fun h2 => ?_)
  · have hE : t.floE (t.flo[k]?.getD []) = 7 := by unfold ATk.floE; rw [if_neg (by omega), if_pos h2]
    repeat (first | (refine M0 ?_; first | refine SL ?_ | refine SB fun _ _ => ?_) | (refine M1 ?_; refine SC ?_) | (refine M2 ?_; refine SE ?_))
    refine XE.retg tok Tryz.results62 rfl (by simp only [and_self, and_true]) (fun w' S => ?_)
    exact ⟨_, _, by rw [(ATk.alE_7 a1 a2 b1 a3 b2 a4).1 k (firstN_some hkn h0 (by rw [hE]; decide)), hE]; rfl, hB4.trans S.toBelow⟩
  have hE : t.floE (t.flo[k]?.getD []) = 0 := by unfold ATk.floE; rw [if_neg (by omega), if_neg (by rw [h2]; decide)]
  repeat (first | (refine M0 ?_; first | refine SL ?_ | refine SB fun _ _ => ?_) | (refine M1 ?_; refine SC ?_) | (refine M2 ?_; refine SE ?_))
  refine XE.round (k + 1) ⟨hkn, fun j hj => ?_⟩ (by omega) ZZSUB (fun _ h => h)
  rcases Nat.lt_or_ge j k with h5 | h5
  · exact h0 j h5
  · have : j = k := by omega
    subst this
    exact hE
end X
namespace Bs
open X
namespace ATk
theorem loL_snoc (l : List Int) (x : Int) : loL (l ++ [x]) = if l.length = 0 then x else min (loL l) x := by
  cases l with
  | nil => rfl
  | cons a r => simp [loL, List.foldl_append]
theorem hiL_snoc (l : List Int) (x : Int) : hiL (l ++ [x]) = if l.length = 0 then x else max (hiL l) x := by
  cases l with
  | nil => rfl
  | cons a r => simp [hiL, List.foldl_append]
variable (t : ATk)
def hitN (i j : Nat) : List Int := ((t.flo.take j).filter fun l => decide (0 ≤ at0 l (t.tw i).pol.toNat)).map fun l => at0 l (t.tw i).pol.toNat + (t.tw i).travel
def hM (i j k : Nat) : List Int := if k < i then t.hits k else if k = i then t.hitN i j else []
def comesZ (i j : Nat) : List (Int × Int) := (List.range t.twn.length).map fun k => (loL (t.hM i j k), hiL (t.hM i j k))
def manyZ (i j : Nat) : List Int := (List.range t.twn.length).map fun k => ((t.hM i j k).length : Nat)
variable {t : ATk}
theorem hitN_all (i : Nat) : t.hitN i t.flo.length = t.hits i := by unfold hitN hits; rw [List.take_length]
theorem hM_next (i : Nat) : t.hM i t.flo.length = t.hM (i + 1) 0 := by
  funext k
  unfold hM
  by_cases h1 : k < i
  · rw [if_pos h1, if_pos (by omega)]
  · rw [if_neg h1]
    by_cases h2 : k = i
    · subst h2; rw [if_pos rfl, if_pos (by omega), hitN_all]
    · rw [if_neg h2, if_neg (by omega)]
      by_cases h3 : k = i + 1
      · rw [if_pos h3]; unfold hitN; simp
      · rw [if_neg h3]
theorem hM_zero : t.hM 0 0 = fun _ => [] := by
  funext k
  unfold hM
  rw [if_neg (by omega)]
  by_cases h : k = 0
  · rw [if_pos h]; unfold hitN; simp
  · rw [if_neg h]
theorem comesZ_zero : t.comesZ 0 0 = List.replicate t.twn.length (0, 0) := by
  unfold comesZ; rw [hM_zero]; simp only [loL, hiL]; exact List.ext_getElem (by simp) fun j h1 h2 => by simp
theorem manyZ_zero : t.manyZ 0 0 = List.replicate t.twn.length 0 := by
  unfold manyZ; rw [hM_zero]; exact List.ext_getElem (by simp) fun j h1 h2 => by simp
theorem comesZ_next (i : Nat) : t.comesZ i t.flo.length = t.comesZ (i + 1) 0 := by unfold comesZ; rw [hM_next]
theorem manyZ_next (i : Nat) : t.manyZ i t.flo.length = t.manyZ (i + 1) 0 := by unfold manyZ; rw [hM_next]
theorem comesZ_done : t.comesZ t.twn.length 0 = comesL t := by
  unfold comesZ comesL
  refine List.map_congr_left fun k hk => ?_
  unfold hM; rw [if_pos (List.mem_range.1 hk)]
theorem manyZ_done : t.manyZ t.twn.length 0 = manyL t := by
  unfold manyZ manyL
  refine List.map_congr_left fun k hk => ?_
  unfold hM; rw [if_pos (List.mem_range.1 hk)]
theorem comesZ_len (i j : Nat) : (t.comesZ i j).length = t.twn.length := by simp [comesZ]
theorem manyZ_len (i j : Nat) : (t.manyZ i j).length = t.twn.length := by simp [manyZ]
theorem comesZ_at {i j : Nat} (hi : i < t.twn.length) : (t.comesZ i j)[i]? = some (loL (t.hitN i j), hiL (t.hitN i j)) := by simp [comesZ, hi, hM]
theorem manyZ_at {i j : Nat} (hi : i < t.twn.length) : at0 (t.manyZ i j) i = ((t.hitN i j).length : Nat) := by simp [manyZ, at0, hi, hM]
theorem hitN_len (i j : Nat) : (t.hitN i j).length ≤ t.flo.length := by
  unfold hitN
  rw [List.length_map]
  exact Nat.le_trans (List.length_filter_le _ _) (by rw [List.length_take]; omega)
theorem hitN_no {i j : Nat} (hj : j < t.flo.length) (h : at0 (t.flo[j]?.getD []) (t.tw i).pol.toNat < 0) : t.hitN i (j + 1) = t.hitN i j := by
  unfold hitN
  rw [List.take_add_one, List.getElem?_eq_getElem hj, List.filter_append]
  rw [List.getElem?_eq_getElem hj] at h
  simp only [Option.getD_some] at h
  simp only [Option.toList_some]
  rw [List.filter_cons_of_neg (by simpa using h)]
  simp
theorem hitN_yes {i j : Nat} (hj : j < t.flo.length) (h : ¬ at0 (t.flo[j]?.getD []) (t.tw i).pol.toNat < 0) : t.hitN i (j + 1) = t.hitN i j ++ [at0 (t.flo[j]?.getD []) (t.tw i).pol.toNat + (t.tw i).travel] := by
  unfold hitN
  rw [List.take_add_one, List.getElem?_eq_getElem hj, List.filter_append]
  rw [List.getElem?_eq_getElem hj] at h
  simp only [Option.getD_some] at h ⊢
  simp only [Option.toList_some]
  rw [List.filter_cons_of_pos (by simpa using h)]
  simp
theorem comesZ_no {i j : Nat} (h : t.hitN i (j + 1) = t.hitN i j) : t.comesZ i (j + 1) = t.comesZ i j := by
  unfold comesZ; refine List.map_congr_left fun k hk => ?_; unfold hM; rw [h]
theorem manyZ_no {i j : Nat} (h : t.hitN i (j + 1) = t.hitN i j) : t.manyZ i (j + 1) = t.manyZ i j := by
  unfold manyZ; refine List.map_congr_left fun k hk => ?_; unfold hM; rw [h]
theorem comesZ_set {i j : Nat} : t.comesZ i (j + 1) = (t.comesZ i j).set i (loL (t.hitN i (j + 1)), hiL (t.hitN i (j + 1))) := by
  refine List.ext_getElem (by simp [comesZ]) fun k h1 h2 => ?_
  rw [List.getElem_set]
  by_cases e : i = k
  · subst e; simp [comesZ, hM]
  · rw [if_neg e]; simp [comesZ, hM, Ne.symm e]
theorem manyZ_set {i j : Nat} : t.manyZ i (j + 1) = (t.manyZ i j).set i ((t.hitN i (j + 1)).length : Nat) := by
  refine List.ext_getElem (by simp [manyZ]) fun k h1 h2 => ?_
  rw [List.getElem_set]
  by_cases e : i = k
  · subst e; simp [manyZ, hM]
  · rw [if_neg e]; simp [manyZ, hM, Ne.symm e]
end ATk
end Bs
namespace X
open Go Go.RowKit Bs
def spA (x : Int × Int) : List Value := [.int .i64 x.1, .int .i64 x.2]
theorem spA_len (x : Int × Int) : (spA x).length = 2 := rfl
section
variable {P : Program} {T : TT} {N B : Nat} {w0 : World} {ds : List Deferred} {Q : Exit → Act → World → Prop} {F : Fr} {L : Lo} {ops : Array Oper} {rest : List Oper} {ty : TypeId} {p : String} {af : Array Edge}
theorem XL.makeSpA {d : Nat} {t e : TypeId} {x y : Operand} {n : Nat} {z0 : Value} (he : elemOk P t e 2 16 = true) (hz : (P.info? e).bind (·.zero) = some z0) (hzc : z0.cells = #[.int .i64 0, .int .i64 0]) (hx : evo F x = some (.int .i64 (n : Nat))) (hy : evo F y = some (.int .i64 (n : Nat))) (hd : Nat.blt d N = true) (hn : n ≤ 1000000)
    (k : ∀ g, w0.heap.size ≤ g → XL P N B w0 ds Q ops rest ((1000000 + d, .slice none L.length 0) :: (d, .slice (some ⟨g, 0, none⟩) n n) :: F) ((g, cel e ((List.replicate n (0, 0)).flatMap spA)) :: L)) :
    XL P N B w0 ds Q ops ({ dst := some d, op := .makeSlice t x y, type := ty, pos := p, after := af, guard := none } :: rest) F L := by
  refine ⟨fun a w hf hw => ?_⟩
  refine wpList_plain rfl fun Kk hK => ?_
  unfold Oper.wp
  obtain ⟨hu, i, z, hi, hz', e1, e2, e3⟩ := elemOk_spec he
  rw [hi] at hz
  simp only [Option.bind_some] at hz
  have hz2 : z = z0 := by rw [hz'] at hz; exact Option.some.inj hz
  subst hz2
  have hrun := run_makeSlice (P := P) w t e i z hu hi hz' .i64 .i64 (n : Int) (n : Int) (by omega) (Int.le_refl _) (by rw [e1]; simp; omega) (by rw [e2]; omega) (by omega)
  have hmc : madeCells z.cells ((n : Int).toNat * i.size) = ⟨(List.replicate n (0, 0)).flatMap spA⟩ := by
    rw [e1, hzc]
    apply Array.ext
    · simp [madeCells, flat_len spA 2 spA_len]
    · intro j h1 h2
      have h3 : ∀ x, x ∈ (List.replicate n ((0 : Int), (0 : Int))).flatMap spA → x = .int .i64 0 := fun x hx => by
        obtain ⟨y, hy, hy2⟩ := List.mem_flatMap.1 hx
        obtain rfl := List.eq_of_mem_replicate hy
        simpa [spA] using hy2
      have h4 : (⟨(List.replicate n (0, 0)).flatMap spA⟩ : Array Value)[j] = .int .i64 0 := h3 _ (by exact List.getElem_mem _)
      rw [h4]
      simp [madeCells]
      rcases Nat.mod_two_eq_zero_or_one j with h5 | h5 <;> simp [h5]
  rw [hmc] at hrun
  simp only [Int.toNat_natCast] at hrun
  have : (execOp a.eval { dst := some d, op := .makeSlice t x y, type := ty, pos := p, after := af, guard := none }).run P w = .ok (.value (.slice (some ⟨w.heap.size, 0, none⟩) n n)) (w.alloc (cel e ((List.replicate n (0, 0)).flatMap spA))) := by
    simp [execOp, hf.eval hx, hf.eval hy, hrun]
  rw [this]
  exact hK _ _ ((k w.heap.size hw.size).run _ _ ((hf.put hd).hint d _) (hw.box _))
end
section
variable {P : Program} {T : TT} {N : Nat} {B : Nat} {w0 : World} {ds : List Deferred} {Q : Exit → Act → World → Prop} {F : Fr} {L L' : Lo} {ops : Array Oper} {rest : List Oper} {ty : TypeId} {p : String} {af : Array Edge}
theorem XL.store_row2A {α : Type} (K : Kind α) (hT : TOK P T) (i : Nat) {l : List α} {sp : List Value} {a : α} {t : TypeId} {x y : Operand} {g j : Nat} {tg : TypeId}
    (hx : evo F x = some (.pointer (some ((⟨g, 0, none⟩ : Addr).add (j * K.m))))) (hy : evo F y = some (.agg (K.c a).toArray)) (hL : L[i]? = some (g, cel tg (l.flatMap K.c ++ sp))) (ht : lkG T.agg t = some 2) (hm : K.m = 2) (h1 : ∀ a, (K.c a).all one1 = true)
    (hj : j < l.length) (hL' : setN L i (g, cel tg ((l.set j a).flatMap K.c ++ sp)) = some L') (k : XL P N B w0 ds Q ops rest F L') :
    XL P N B w0 ds Q ops ({ dst := none, op := .store t x y, type := ty, pos := p, after := af, guard := none } :: rest) F L := by
  rw [add_off, Nat.zero_add] at hx
  have hp : putN (l.flatMap K.c ++ sp) (j * K.m) (K.c a) = some ((l.set j a).flatMap K.c ++ sp) := by
    have hK := K.len
    have key : ∀ (l : List α) (j : Nat), j < l.length → putN (l.flatMap K.c ++ sp) (j * K.m) (K.c a) = some ((l.set j a).flatMap K.c ++ sp) := by
      intro l
      induction l with
      | nil => intro j h; simp at h
      | cons b l ih =>
        intro j h
        have hb := hK b
        have ha := hK a
        rw [hm] at hb ha ih ⊢
        obtain ⟨b1, b2, eb⟩ : ∃ x y, K.c b = [x, y] := by
          match hc : K.c b, hb with
          | [x, y], _ => exact ⟨x, y, rfl⟩
        obtain ⟨a1, a2, ea⟩ : ∃ x y, K.c a = [x, y] := by
          match hc : K.c a, ha with
          | [x, y], _ => exact ⟨x, y, rfl⟩
        cases j with
        | zero =>
          rw [List.flatMap_cons, eb, List.set_cons_zero, List.flatMap_cons, ea]
          rfl
        | succ j =>
          have hi := ih j (by simpa using h)
          rw [List.flatMap_cons, eb, List.set_cons_succ, List.flatMap_cons, eb, ea]
          rw [ea] at hi
          have e2 : (j + 1) * 2 = j * 2 + 1 + 1 := by omega
          rw [e2]
          simp only [putN, setN, List.cons_append, List.nil_append] at hi ⊢
          cases h3 : setN (List.flatMap K.c l ++ sp) (j * 2) a1 with
          | none => rw [h3] at hi; cases hi
          | some l3 =>
            rw [h3] at hi
            simp only at hi ⊢
            rw [show j * 2 + 1 + 1 + 1 = (j * 2 + 1) + 1 + 1 from rfl]
            simp only [setN]
            cases h4 : setN l3 (j * 2 + 1) a2 with
            | none => rw [h4] at hi; cases hi
            | some l4 => rw [h4] at hi; simp only [Option.some.injEq] at hi ⊢; rw [hi]
    exact key l j hj
  exact XL.store hT i hx hy hL rfl (.inr (by rw [K.len, hm]; exact ht)) (h1 a) hp hL' k
end
theorem aspan_el : elemOk Tryz.prog 138 161 2 16 = true := by kernel_rfl
theorem aspan_zero : (Tryz.prog.info? 161).bind (·.zero) = some (.agg #[.int .i64 0, .int .i64 0]) := by kernel_rfl
end X
namespace X
open Go Go.RowKit Bs
theorem aint_el : elemOk Tryz.prog 26 3 1 8 = true := by kernel_rfl
theorem aint_zero : (Tryz.prog.info? 3).bind (·.zero) = some (.int .i64 0) := by kernel_rfl
section
variable {P : Program} {T : TT} {N : Nat} {B : Nat} {w0 : World} {ds : List Deferred} {Q : Exit → Act → World → Prop} {F : Fr} {L : Lo} {pu : Prop} {ops : Array Oper} {rest : List Oper}
variable {dst : Option Tmp} {ty : TypeId} {p : String} {af : Array Edge} {gd : Option (Nat × Bool)}
theorem XC.cutE {x : Code} (ts : List Nat) {G0 : Fr} (hk : keepO F ts = some G0) (M : Lo) (h : XC P N B w0 ds (cutQ N B ds Q G0 (fun _ : Unit => []) (fun _ => M) (fun _ => w0) (fun _ => True)) x F L) (k : XE N B w0 ds Q .normal G0 M) : XC P N B w0 ds Q x F L :=
  h.mono fun e a w q => by
    cases e with
    | normal => obtain ⟨s, hp, hf, hs⟩ := q; exact k.run a w hf hs
    | exit id => exact q
    | goto l => exact q
    | ret => exact q
    | panic ch => exact q
    | outgrown => exact q
theorem Ev.load_fA (hT : TOK P T) (i : Nat) {t : TypeId} {x : Operand} {g j o : Nat} {tg : TypeId} {cs : List Value} {v : Value} (hx : evo F x = some (.pointer (some (((⟨g, 0, none⟩ : Addr).add (j * 2)).add o)))) (hL : L[i]? = some (g, cel tg cs))
    (h1 : lkG T.one t = some ()) (hv : cs[0 + j * 2 + o]? = some v) : Ev P N B w0 ds pu F L ⟨dst, .load t x, ty, p, af, gd⟩ v := by
  rw [add_off] at hx
  exact Ev.load_at hT i hx hL h1 hv
theorem XL.store_fA (hT : TOK P T) (i : Nat) {t : TypeId} {x y : Operand} {g j o : Nat} {tg : TypeId} {v : Value} {cs : List Value} {L' : Lo}
    (hx : evo F x = some (.pointer (some (((⟨g, 0, none⟩ : Addr).add (j * 2)).add o)))) (hy : evo F y = some v) (hL : L[i]? = some (g, cel tg cs)) (ht : lkG T.one t = some ()) (h1 : one1 v = true) (hj : 0 + j * 2 + o < cs.length)
    (hL' : setN L i (g, cel tg (cs.set (0 + j * 2 + o) v)) = some L') (k : XL P N B w0 ds Q ops rest F L') :
    XL P N B w0 ds Q ops ({ dst := none, op := .store t x y, type := ty, pos := p, after := af, guard := none } :: rest) F L := by
  rw [add_off] at hx
  exact XL.store_at hT i hx hy hL ht h1 hj hL' k
end
theorem ints_setA (l : List Int) (i : Nat) (v : Int) : (ints l).set (0 + ((i : Nat) : Int).toNat * 1) (.int .i64 v) = ints (l.set i v) := by
  rw [show 0 + ((i : Nat) : Int).toNat * 1 = i by omega]
  unfold ints
  rw [List.map_set]
theorem sp_setA {l : List (Int × Int)} {i : Nat} {y : Int × Int} {u v : Int} (h : l[i]? = some y) : (((l.flatMap spA).set (0 + i * 2 + 0) (.int .i64 u)).set (0 + i * 2 + 1) (.int .i64 v)) = (l.set i (u, v)).flatMap spA := by
  have h1 := fset (C := spA) (m := 2) spA_len (l := l) (k := i) (t := y) (t' := (u, y.2)) (j := 0) (v := .int .i64 u) [] h rfl (by decide)
  have hi := (List.getElem?_eq_some_iff.1 h).1
  have h2 := fset (C := spA) (m := 2) spA_len (l := l.set i (u, y.2)) (k := i) (t := (u, y.2)) (t' := (u, v)) (j := 1) (v := .int .i64 v) [] (by simp [hi]) rfl (by decide)
  simp only [List.append_nil] at h1 h2
  rw [Nat.zero_add, h1, h2, List.set_set]
theorem sp_getA {l : List (Int × Int)} {i : Nat} {y : Int × Int} (h : l[i]? = some y) : (l.flatMap spA)[0 + i * 2 + 0]? = some (.int .i64 y.1) ∧ (l.flatMap spA)[0 + i * 2 + 1]? = some (.int .i64 y.2) := by
  have h1 := fget (C := spA) (m := 2) spA_len (l := l) (k := i) (t := y) (j := 0) [] h (by decide)
  have h2 := fget (C := spA) (m := 2) spA_len (l := l) (k := i) (t := y) (j := 1) [] h (by decide)
  simp only [List.append_nil] at h1 h2
  rw [Nat.zero_add, h1, h2]
  exact ⟨rfl, rfl⟩
theorem readsBlk {w : World} {ok : Nat → Prop} {g n m : Nat} {tg : TypeId} {cs : List Value} (hg : w.heap[g]? = some (cel tg cs)) (ho : ok g) (hn : cs.length = n * m) : ReadsP w ok m (some ⟨g, 0, none⟩) n cs :=
  ⟨hn, fun _ => ⟨_, rfl, ho, fun j u hj => by
    rw [add_off, Nat.zero_add]
    simpa [World.cell?, hg] using hj⟩⟩
theorem flat_spA (l : List (Int × Int)) : l.flatMap spaK.c = l.flatMap spA := rfl
def BegV (v : ATV) (t : ATk) (x : Value) (new : List Held) : Prop := (t.alE ≠ 0 ∧ x = .tuple ⟨[.pointer none, .int .i64 t.alE]⟩ ∧ new = []) ∨ (t.alE = 0 ∧ ∃ (g : Nat) (q r : SV), x = .tuple ⟨[.pointer (some ⟨g, 0, none⟩), .int .i64 0]⟩ ∧ new = [hBrd g v t q r])
set_option maxRecDepth 8000 in
set_option maxHeartbeats 16000000 in
theorem begin_made {v : ATV} {t : ATk} {w : World} (hL : Laid w) (ht : AtAt w w.heap.size v t) (hl : ∀ x, x ∈ t.twn → x.chs.length ≤ 5000000) :
    Calls Tryz.prog 35 #[atkV v t] w (Made w (BegV v t)) := by
  have hnc := ht.nc
  have hnw := ht.nw
  have hnf := ht.nf
  have hchk := fun (w' : World) (hB : Below w.heap.size w w') => aCheck_any (v := v) (t := t) (w := w') (hL.below hB) (ht.sys (Sys.ofBelow hB)) hl
  obtain ⟨⟨Ac, nc, cc⟩, ⟨Aw, nw, cw⟩, ⟨Af, nf, cf⟩, es, fs⟩ := v
  simp only at hnc hnw hnf
  subst hnc hnw hnf
  simp only [atkV, atkC] at hchk ⊢
  refine enter Tryz.func35 rfl Tryz.ntmps35 rfl ?_; simp only [frame, Nat.zero_add, Nat.reduceAdd]
  repeat (first | (refine M0 ?_; first | refine SL ?_ | refine SB fun _ _ => ?_) | (refine M1 ?_; refine SC ?_) | (refine M2 ?_; refine SE ?_))
  rename_i g1 hg1
  refine XL.call (fst := []) (cap := []) (ck rfl) rfl rfl rfl (List.Sublist.refl _) (fun w1 u w2 => ∃ p a : Int, u = .tuple ⟨[.int .i64 p, .int .i64 a, .int .i64 t.alE]⟩) (fun w1 S1 => (hchk w1 S1.toBelow).mono fun e w' ⟨p, a, h1, h2⟩ => ⟨_, h1, ⟨p, a, rfl⟩, h2⟩) (fun w1 u w2 S1 hR hB S2 => ?_)
  obtain ⟨p0, a0, rfl⟩ := hR
  have hB2 := S2.toBelow
  repeat (first | (refine M0 ?_; first | refine SL ?_ | refine SB fun _ _ => ?_) | (refine M1 ?_; refine SC ?_) | (refine M2 ?_; refine SE ?_))
  refine XC.cond _ rfl (fun h1 => ?_) (fun h1 => ?_)
  · have hne : t.alE ≠ 0 := by simpa using h1
    repeat (first | (refine M0 ?_; first | refine SL ?_ | refine SB fun _ _ => ?_) | (refine M1 ?_; refine SC ?_) | (refine M2 ?_; refine SE ?_))
    refine XE.retg tok Tryz.results35 rfl (by simp only [and_self, and_true]) (fun w' S => ?_)
    exact ⟨_, [], rfl, .inl ⟨hne, rfl, rfl⟩, (fun _ h => nomatch h), hB2.trans S.toBelow⟩
  have h0 : t.alE = 0 := by simpa using h1
  clear h1
  have hO := alOk_of h0
  have hn8 := hO.n8
  have hf8 := hO.fl
  repeat (first | (refine M0 ?_; first | refine SL ?_ | refine SB fun _ _ => ?_) | (refine M1 ?_; refine SC ?_) | (refine M2 ?_; refine SE ?_))
  refine XC.cutln [1] rfl (fun g : Nat × Nat × Nat => [(7, .pointer (some ⟨g.1, 0, none⟩))]) (fun g => [(g.1, cel 140 (brdC ⟨⟨Ac, t.cha.length, cc⟩, ⟨Aw, t.twn.length, cw⟩, ⟨Af, t.flo.length, cf⟩, es, fs⟩ t ⟨some ⟨g.2.1, 0, none⟩, t.twn.length, t.twn.length⟩ ⟨some ⟨g.2.2, 0, none⟩, t.twn.length, t.twn.length⟩)), (g.2.1, cel 161 ((List.replicate t.twn.length (0, 0)).flatMap spA)), (g.2.2, cel 3 (ints (List.replicate t.twn.length 0)))]) (fun g => w2.heap.size ≤ g.1 ∧ w2.heap.size ≤ g.2.1 ∧ w2.heap.size ≤ g.2.2) ?_ ?_
  · refine XC.drawR _ [0, 1, 2, 3, 5, 6, 7] [4, 8, 9, 10, 11] mixed (fun _ h => h) rfl (by decide +kernel) ?_
    repeat (any_goals (first | (refine M0 ?_; first | refine SL ?_ | refine SB fun _ _ => ?_ | refine XL.makeSpA (n := t.twn.length) aspan_el aspan_zero rfl rfl rfl rfl (by omega) (fun _ _ => ?_) | refine XL.makeInts (n := t.twn.length) aint_el aint_zero rfl rfl rfl (by omega) (fun _ _ => ?_)) | (refine M1 ?_; refine SC ?_) | (refine M2 ?_; first | refine SE ?_ | ((with_reducible refine atHeld ?_); refine z7 ?_)) | (refine M3 ?_; first | refine SG ?_ | refine SF ?_) | (refine M4 ?_; refine SR ?_) | (refine M5 ?_; first | exact M7 | refine YM ?_ | refine YN ?_ ?_)))
    any_goals (repeat (first | exact AnyR.nil | refine AnyR.skip rfl ?_))
    all_goals
      refine XE.leaf (_, _, _) ZZSUB (fun _ S' => by first | exact S' | exact S'.perm (by repeat (first | exact List.Perm.refl _ | refine perm1 ?_ | refine List.Perm.cons _ ?_ | refine perm2 ?_)) | exact (S'.pop (by assumption)) | exact (S'.pop2 (by assumption))) ?_
      exact ⟨by assumption, by assumption, by assumption⟩
  rintro ⟨gb, gq, gr⟩ ⟨hgb, hgq, hgr⟩
  dsimp only at hgb hgq hgr
  dsimp only [List.cons_append, List.nil_append]
  refine XC.hint 7 3 ?_
  repeat (first | (refine M0 ?_; first | refine SL ?_ | refine SB fun _ _ => ?_) | (refine M1 ?_; refine SC ?_) | (refine M2 ?_; refine SE ?_))
  refine XC.loopk [1, 7, 35, 36] rfl (fun i : Nat => [(37, .int .i64 (i : Nat))]) (fun i => [(gb, cel 140 [.int .i64 t.pol, .slice Ac t.cha.length cc, .slice Aw t.twn.length cw, .slice Af t.flo.length cf, .slice (some ⟨gq, 0, none⟩) t.twn.length t.twn.length, .slice (some ⟨gr, 0, none⟩) t.twn.length t.twn.length]), (gq, cel 161 ((t.comesZ i 0).flatMap spA)), (gr, cel 3 (ints (t.manyZ i 0))), (g1, cel 56 [.int .i64 t.pol, .slice Ac t.cha.length cc, .slice Aw t.twn.length cw, .slice Af t.flo.length cf])]) (fun _ => w2) (fun i => i ≤ t.twn.length) (fun i => t.twn.length - i) 0 (Nat.zero_le _) ZZSUB (fun _ h => by rw [ATk.comesZ_zero, ATk.manyZ_zero]; exact h) ?_
  rintro i hi
  dsimp only [List.cons_append, List.nil_append]
  repeat (first | (refine M0 ?_; first | refine SL ?_ | refine SB fun _ _ => ?_) | (refine M1 ?_; refine SC ?_) | (refine M2 ?_; refine SE ?_))
  refine XC.cond _ rfl (fun h2 => ?_) (fun h2 => ?_)
  rotate_left
  · have hin : i = t.twn.length := by have := of_decide_eq_false h2; omega
    repeat (first | (refine M0 ?_; first | refine SL ?_ | refine SB fun _ _ => ?_) | (refine M1 ?_; refine SC ?_) | (refine M2 ?_; refine SE ?_))
    refine XE.retg tok Tryz.results35 rfl (by simp only [and_self, and_true]) (fun w' S => ?_)
    have hb := S.own (gb, _) (.head _)
    have hq := S.own (gq, _) (.tail _ (.head _))
    have hr := S.own (gr, _) (.tail _ (.tail _ (.head _)))
    have lb := S.keyLt gb (by simp)
    have lq := S.keyLt gq (by simp)
    have lr := S.keyLt gr (by simp)
    have hs2 := hB2.size
    have hn : t.manyZ i 0 = manyL t := by rw [hin, ATk.manyZ_done]
    have hm : t.comesZ i 0 = comesL t := by rw [hin, ATk.comesZ_done]
    refine ⟨_, _, rfl, .inr ⟨h0, gb, ⟨some ⟨gq, 0, none⟩, t.twn.length, t.twn.length⟩, ⟨some ⟨gr, 0, none⟩, t.twn.length, t.twn.length⟩, rfl, rfl⟩, fun x hx => ?_, hB2.trans S.toBelow⟩
    rw [List.mem_singleton.1 hx]
    refine ⟨⟨by omega, lb⟩, hb.2, ⟨?_, by simp only; omega, fun a _ h hh => nomatch hh⟩, ⟨?_, by simp only; omega⟩⟩
    · rw [← hm]
      exact readsBlk hq.2 ⟨by omega, lq⟩ (by rw [flat_spA, flat_len spA 2 spA_len, ATk.comesZ_len]; rfl)
    · rw [← hn]
      exact readsBlk hr.2 ⟨by omega, lr⟩ (by rw [ints_len, ATk.manyZ_len, Nat.mul_one])
  have hin : i < t.twn.length := by have := of_decide_eq_true h2; omega
  clear h2
  obtain ⟨ad, qx, e1, hlt, hcell, hqx⟩ := (ht.below hB2).twnAt hin
  simp only at e1
  subst e1
  have hpol := hO.tpol i hin
  have htr := (hO.ttr i hin).1
  obtain ⟨x, hx⟩ : ∃ x, x = t.tw i := ⟨_, rfl⟩
  rw [← hx] at hcell hqx hpol htr
  simp only [twnC] at hcell
  repeat (first | (refine M0 ?_; first | refine SL ?_ | refine SB fun _ _ => ?_ | refine Y4 (Ev.load_old_agg tok (twnC qx x) rfl rfl rfl (add_lt hlt) hcell) ?_) | (refine M1 ?_; refine SC ?_) | (refine M2 ?_; refine SE ?_))
  rename_i g9 hg9
  obtain ⟨pn, hpn⟩ := Int.eq_ofNat_of_zero_le hpol.1
  rw [hpn] at hpol ⊢
  refine XC.loopk [1, 7, 8, 9, 35, 36, 37, 43, 44] rfl (fun j : Nat => [(45, .int .i64 (j : Nat))]) (fun j => [(g9, cel 67 [.string x.name, .int .i64 (pn : Nat), .int .i64 x.travel, .int .i64 x.lead, .slice qx.A qx.n qx.c]), (gb, cel 140 [.int .i64 t.pol, .slice Ac t.cha.length cc, .slice (some ad) t.twn.length cw, .slice Af t.flo.length cf, .slice (some ⟨gq, 0, none⟩) t.twn.length t.twn.length, .slice (some ⟨gr, 0, none⟩) t.twn.length t.twn.length]), (gq, cel 161 ((t.comesZ i j).flatMap spA)), (gr, cel 3 (ints (t.manyZ i j))), (g1, cel 56 [.int .i64 t.pol, .slice Ac t.cha.length cc, .slice (some ad) t.twn.length cw, .slice Af t.flo.length cf])]) (fun _ => w2) (fun j => j ≤ t.flo.length) (fun j => t.flo.length - j) 0 (Nat.zero_le _) ZZSUB (fun _ h => h) ?_
  rintro j hj
  dsimp only [List.cons_append, List.nil_append]
  repeat (first | (refine M0 ?_; first | refine SL ?_ | refine SB fun _ _ => ?_) | (refine M1 ?_; refine SC ?_) | (refine M2 ?_; refine SE ?_))
  refine XC.cond _ rfl (fun h2 => ?_) (fun h2 => ?_)
  rotate_left
  · have hjn : j = t.flo.length := by have := of_decide_eq_false h2; omega
    rw [hjn, ATk.comesZ_next, ATk.manyZ_next]
    repeat (first | (refine M0 ?_; first | refine SL ?_ | refine SB fun _ _ => ?_) | (refine M1 ?_; refine SC ?_) | (refine M2 ?_; refine SE ?_))
    refine XE.round (i + 1) hin (by omega) ZZSUB (fun _ h => h.pop hg9)
  have hjn : j < t.flo.length := by have := of_decide_eq_true h2; omega
  clear h2
  obtain ⟨adf, qf, e2, hltf, hcellf, hqf⟩ := (ht.below hB2).floAt hjn
  simp only at e2
  subst e2
  obtain ⟨l, hlx⟩ : ∃ l, l = t.flo[j]?.getD [] := ⟨_, rfl⟩
  have hmem : l ∈ t.flo := by rw [hlx, List.getElem?_eq_getElem hjn]; exact List.getElem_mem hjn
  rw [← hlx] at hqf
  have hqn := hqf.len
  have hll := hO.flen l hmem
  have hpl : pn < l.length := by omega
  obtain ⟨adq, e3, hltq, hcellq⟩ := hqf.at_ (by omega)
  have hv := hO.fval l hmem (at0 l pn) (by simp only [at0, List.getElem?_eq_getElem hpl, Option.getD_some]; exact List.getElem_mem hpl)
  have hcp := hcellq pn hpl
  obtain ⟨Aq, nq, cq⟩ := qf
  simp only at e3 hqn hcellf
  subst e3 hqn
  repeat (first | (refine M0 ?_; first | refine SL ?_ | refine SB fun _ _ => ?_ | refine Y4 (Ev.load_old tok rfl rfl (add_lt hltf) hcellf) ?_) | (refine M1 ?_; refine SC ?_) | (refine M2 ?_; refine SE ?_))
  refine XC.drawR _ [0, 1, 2, 3, 4, 5, 6, 7] [8] mixed (fun _ h => h) rfl (by decide +kernel) ?_
  repeat (any_goals (first | (refine M0 ?_; first | refine SL ?_ | refine SB fun _ _ => ?_ | refine Y4 (Ev.load_old tok rfl rfl (add_lt hltq) hcp) ?_) | (refine M1 ?_; refine SC ?_) | (refine M2 ?_; first | refine SE ?_ | ((with_reducible refine atHeld ?_); refine z7 ?_)) | (refine M3 ?_; first | refine SG ?_ | refine SF ?_ | refine YF (Ev.load_old tok rfl rfl (add_lt hltq) hcp) ?_) | (refine M4 ?_; refine SR ?_) | (refine M5 ?_; first | exact M7 | refine YM ?_ | refine YN ?_ ?_)))
  have hxi : t.tw i = x := hx.symm
  have hpt : (t.tw i).pol.toNat = pn := by rw [hxi, hpn]; rfl
  have hmn : (ints (t.manyZ i j))[0 + (i : Int).toNat * 1]? = some (.int .i64 ((t.hitN i j).length : Nat)) := by
    have h5 := ints_atA (sp := []) (show i < (t.manyZ i j).length by rw [ATk.manyZ_len]; exact hin)
    rw [List.append_nil, ATk.manyZ_at hin] at h5
    rw [← h5]
    congr 1
    omega
  have hle := ATk.hitN_len (t := t) i j
  repeat (first | (refine M0 ?_; first | refine SL ?_ | refine SB fun _ _ => ?_) | (refine M1 ?_; refine SC ?_) | (refine M2 ?_; refine SE ?_))
  refine XC.cond _ rfl (fun h2 => ?_) (fun h2 => ?_)
  · have hlt0 : at0 l pn < 0 := by simpa using h2
    have hno := ATk.hitN_no (i := i) hjn (by rw [hpt, ← hlx]; exact hlt0)
    have e5 := ATk.comesZ_no hno
    have e6 := ATk.manyZ_no hno
    repeat (first | (refine M0 ?_; first | refine SL ?_ | refine SB fun _ _ => ?_) | (refine M1 ?_; refine SC ?_) | (refine M2 ?_; refine SE ?_))
    refine XE.round (j + 1) hjn (by omega) ZZSUB (fun _ h => by rw [e5, e6]; exact h)
  have hge : ¬ at0 l pn < 0 := by simpa using h2
  clear h2
  have hyes := ATk.hitN_yes (i := i) hjn (by rw [hpt, ← hlx]; exact hge)
  rw [hpt, ← hlx, hxi] at hyes
  repeat (first | (refine M0 ?_; first | refine SL ?_ | refine SB fun _ _ => ?_ | refine Y4 (Ev.load_at tok 3 rfl rfl rfl hmn) ?_) | (refine M1 ?_; refine SC ?_) | (refine M2 ?_; refine SE ?_))
  have hcz := ATk.comesZ_at (t := t) (j := j) hin
  have hczl : i < (t.comesZ i j).length := by rw [ATk.comesZ_len]; exact hin
  have hcl2 : (List.flatMap spA (t.comesZ i j)).length = t.twn.length * 2 := by rw [flat_len spA 2 spA_len, ATk.comesZ_len]
  have hml : (ints (t.manyZ i j)).length = t.twn.length := by rw [ints_len, ATk.manyZ_len]
  have e6 : ints (t.manyZ i (j + 1)) = (ints (t.manyZ i j)).set (0 + (i : Int).toNat * 1) (.int .i64 (((t.hitN i j).length : Nat) + 1)) := by
    rw [ints_setA, ATk.manyZ_set, hyes, List.length_append]
    rfl
  refine XC.cond _ rfl (fun h2 => ?_) (fun h2 => ?_)
  · have hz : (t.hitN i j).length = 0 := by have := of_decide_eq_true h2; omega
    have e5 : t.comesZ i (j + 1) = (t.comesZ i j).set i (at0 l pn + x.travel, at0 l pn + x.travel) := by rw [ATk.comesZ_set, hyes, ATk.loL_snoc, ATk.hiL_snoc, if_pos hz, if_pos hz]
    repeat (first | (refine M0 ?_; first | refine SL ?_ | refine SB fun _ _ => ?_) | (refine M1 ?_; refine SC ?_) | (refine M2 ?_; refine SE ?_))
    refine XL.store_row2A spaK tok 2 (l := t.comesZ i j) (sp := []) (j := i) (a := (at0 l pn + x.travel, at0 l pn + x.travel)) rfl rfl (by rw [List.append_nil]; rfl) rfl rfl (fun a => rfl) hczl (by rw [List.append_nil]; rfl) ?_
    repeat (first | (refine M0 ?_; first | refine SL ?_ | refine SB fun _ _ => ?_ | refine Y4 (Ev.load_at tok 3 rfl rfl rfl hmn) ?_) | (refine M1 ?_; refine SC ?_) | (refine M2 ?_; refine SE ?_))
    refine XL.store_at tok 3 rfl rfl rfl rfl rfl (by omega) rfl ?_
    repeat (first | (refine M0 ?_; first | refine SL ?_ | refine SB fun _ _ => ?_) | (refine M1 ?_; refine SC ?_) | (refine M2 ?_; refine SE ?_))
    refine XE.round (j + 1) hjn (by omega) ZZSUB (fun _ h => by rw [e5, e6]; exact h)
  have hz : ¬ (t.hitN i j).length = 0 := by have := of_decide_eq_false h2; omega
  have e5 : t.comesZ i (j + 1) = (t.comesZ i j).set i (min (ATk.loL (t.hitN i j)) (at0 l pn + x.travel), max (ATk.hiL (t.hitN i j)) (at0 l pn + x.travel)) := by rw [ATk.comesZ_set, hyes, ATk.loL_snoc, ATk.hiL_snoc, if_neg hz, if_neg hz]
  have hg := sp_getA hcz
  have hs7 := sp_setA hcz (u := min (ATk.loL (t.hitN i j)) (at0 l pn + x.travel)) (v := max (ATk.hiL (t.hitN i j)) (at0 l pn + x.travel))
  rw [← e5] at hs7
  have hs8 := hs7
  rw [List.set_comm _ _ (by omega)] at hs8
  repeat (first | (refine M0 ?_; first | refine SL ?_ | refine SB fun _ _ => ?_) | (refine M1 ?_; refine SC ?_) | (refine M2 ?_; refine SE ?_))
  refine XC.cutE [1, 7, 8, 9, 35, 36, 37, 43, 44, 45] rfl [(g9, cel 67 [.string x.name, .int .i64 (pn : Nat), .int .i64 x.travel, .int .i64 x.lead, .slice qx.A qx.n qx.c]), (gb, cel 140 [.int .i64 t.pol, .slice Ac t.cha.length cc, .slice (some ad) t.twn.length cw, .slice (some adf) t.flo.length cf, .slice (some ⟨gq, 0, none⟩) t.twn.length t.twn.length, .slice (some ⟨gr, 0, none⟩) t.twn.length t.twn.length]), (gq, cel 161 ((t.comesZ i (j + 1)).flatMap spA)), (gr, cel 3 (ints (t.manyZ i j))), (g1, cel 56 [.int .i64 t.pol, .slice Ac t.cha.length cc, .slice (some ad) t.twn.length cw, .slice (some adf) t.flo.length cf])] ?_ ?_
  · refine XC.drawRS _ [] [0, 2, 3, 4, 6, 8, 9, 10, 12] [1, 5, 7, 11, 13, 14, 15, 16, 17, 18, 19] mixed (fun _ h => Sys.anchor2 (by assumption) h ZZSM) rfl (by kernel_rfl) ?_
    repeat (any_goals (first | (refine M0 ?_; first | refine SL ?_ | refine SB fun _ _ => ?_ | refine Y4 (Ev.load_fA tok 2 rfl rfl rfl hg.1) ?_ | refine Y4 (Ev.load_fA tok 2 rfl rfl rfl hg.2) ?_ | refine XL.store_fA tok 2 rfl rfl rfl rfl rfl (by (try simp only [List.length_set]); omega) rfl ?_) | (refine M1 ?_; refine SC ?_) | (refine M2 ?_; refine SE ?_) | (refine M3 ?_; first | refine SG ?_ | refine SF ?_ | refine YF (Ev.load_fA tok 2 rfl rfl rfl hg.1) ?_ | refine YF (Ev.load_fA tok 2 rfl rfl rfl hg.2) ?_) | (refine M4 ?_; refine SR ?_) | (refine M5 ?_; first | exact M7 | refine YM ?_ | refine YN ?_ ?_)))
    any_goals (repeat (first | exact AnyR.nil | refine AnyR.skip rfl ?_))
    all_goals
      refine XE.leaf () ZZSUB (fun _ h => ?_) trivial
      first
      | rw [← hs7]; exact h
      | rw [← hs8]; exact h
  repeat (first | (refine M0 ?_; first | refine SL ?_ | refine SB fun _ _ => ?_ | refine Y4 (Ev.load_at tok 3 rfl rfl rfl hmn) ?_) | (refine M1 ?_; refine SC ?_) | (refine M2 ?_; refine SE ?_))
  refine XL.store_at tok 3 rfl rfl rfl rfl rfl (by omega) rfl ?_
  repeat (first | (refine M0 ?_; first | refine SL ?_ | refine SB fun _ _ => ?_) | (refine M1 ?_; refine SC ?_) | (refine M2 ?_; refine SE ?_))
  refine XE.round (j + 1) hjn (by omega) ZZSUB (fun _ h => by rw [e6]; exact h)
end X
namespace X
open Go Go.RowKit Bs
def AtV (now : Int) (v : ATV) (t : ATk) (x : Value) (new : List Held) : Prop := (t.atE now ≠ 0 ∧ x = .tuple ⟨[.pointer none, .int .i64 (t.atE now)]⟩ ∧ new = []) ∨ (t.atE now = 0 ∧ ∃ (g : Nat) (q r : SV), x = .tuple ⟨[.pointer (some ⟨g, 0, none⟩), .int .i64 0]⟩ ∧ new = [hBrd g v t q r])
set_option maxHeartbeats 16000000 in
theorem at_made {v : ATV} {t : ATk} {now : Int} {w : World} (hL : Laid w) (ht : AtAt w w.heap.size v t) (hl : ∀ x, x ∈ t.twn → x.chs.length ≤ 5000000) :
    Calls Tryz.prog 25 #[atkV v t, .int .i64 now] w (Made w (AtV now v t)) := by
  have hbeg := fun (w' : World) (hB : Below w.heap.size w w') => begin_made (v := v) (t := t) (w := w') (hL.below hB) (ht.sys (Sys.ofBelow hB)) hl
  simp only [atkV, atkC] at hbeg ⊢
  refine enter Tryz.func25 rfl Tryz.ntmps25 rfl ?_; simp only [frame, Nat.zero_add, Nat.reduceAdd]
  repeat (first | (refine M0 ?_; first | refine SL ?_ | refine SB fun _ _ => ?_) | (refine M1 ?_; refine SC ?_) | (refine M2 ?_; refine SE ?_))
  rename_i g2 hg2
  refine XL.callF (BegV v t) (ck rfl) rfl rfl (Fam.start (ks := []) (Nat.le_refl w.heap.size)) (fun _ h => by cases h) (Below.refl w.heap.size w) (fun w1 S1 _ _ => hbeg w1 S1.toBelow) (fun w2 u new hR hF2 hB2 hk2 => ?_)
  rcases hR with ⟨hne, rfl, rfl⟩ | ⟨h0, gb, q, r, rfl, rfl⟩
  · have hE : t.atE now = t.alE := by unfold ATk.atE; rw [if_pos hne]
    repeat (first | (refine M0 ?_; first | refine SL ?_ | refine SB fun _ _ => ?_) | (refine M1 ?_; refine SC ?_) | (refine M2 ?_; refine SE ?_))
    refine XC.cond _ rfl (fun h1 => ?_) (fun h1 => absurd hne (by simpa using h1))
    repeat (first | (refine M0 ?_; first | refine SL ?_ | refine SB fun _ _ => ?_) | (refine M1 ?_; refine SC ?_) | (refine M2 ?_; refine SE ?_))
    refine XE.retg tok Tryz.results25 rfl (by simp only [and_self, and_true]) (fun w' S => ?_)
    exact ⟨_, [], rfl, .inl ⟨by rw [hE]; exact hne, by rw [hE]; rfl, rfl⟩, (fun _ h => nomatch h), hB2.trans S.toBelow⟩
  · repeat (first | (refine M0 ?_; first | refine SL ?_ | refine SB fun _ _ => ?_ | refine Y4 (Ev.call (f := 23) (ck rfl) rfl (fun w S => aout_any _ _ _ w)) ?_) | (refine M1 ?_; refine SC ?_) | (refine M2 ?_; refine SE ?_))
    refine XC.cond _ rfl (fun h2 => ?_) (fun h2 => ?_)
    · have hE : t.atE now = 7 := by unfold ATk.atE; rw [if_neg (by simp [h0]), if_pos h2]
      repeat (first | (refine M0 ?_; first | refine SL ?_ | refine SB fun _ _ => ?_) | (refine M1 ?_; refine SC ?_) | (refine M2 ?_; refine SE ?_))
      refine XE.retg tok Tryz.results25 rfl (by simp only [and_self, and_true]) (fun w' S => ?_)
      exact ⟨_, [], rfl, .inl ⟨by rw [hE]; decide, by rw [hE]; rfl, rfl⟩, (fun _ h => nomatch h), hB2.trans S.toBelow⟩
    · have hE : t.atE now = 0 := by unfold ATk.atE; rw [if_neg (by simp [h0]), if_neg (by simp [h2])]
      repeat (first | (refine M0 ?_; first | refine SL ?_ | refine SB fun _ _ => ?_) | (refine M1 ?_; refine SC ?_) | (refine M2 ?_; refine SE ?_))
      refine XE.retg tok Tryz.results25 rfl (by simp only [and_self, and_true]) (fun w' S => ?_)
      have hF6 := hF2.sys S ZZHL
      exact ⟨_, [hBrd gb v t q r], rfl, .inr ⟨hE, gb, q, r, rfl, rfl⟩, (fun x hx => x.mono (hF6.held x (List.mem_append_left _ hx)) fun j hj => ⟨hj.1, hj.2.1⟩), hB2.trans S.toBelow⟩
end X
namespace X
open Go Go.RowKit Bs
def wetK (t : ATk) (k : Nat) : List Int := ((List.range k).filter fun i => decide (0 < (t.hits i).length)).map fun i => ((i : Nat) : Int)
theorem wetK_add (t : ATk) (k : Nat) : wetK t (k + 1) = wetK t k ++ if 0 < (t.hits k).length then [((k : Nat) : Int)] else [] := by
  unfold wetK
  rw [List.range_succ, List.filter_append, List.map_append]
  congr 1
  by_cases h : 0 < (t.hits k).length
  · rw [if_pos h, List.filter_cons_of_pos (by simpa using h)]; rfl
  · rw [if_neg h, List.filter_cons_of_neg (by simpa using h)]; rfl
theorem wetK_len (t : ATk) (k : Nat) : (wetK t k).length ≤ k := by
  unfold wetK
  rw [List.length_map]
  exact Nat.le_trans (List.length_filter_le _ _) (by simp)
def WetV (t : ATk) (x : Value) (new : List Held) : Prop := ∃ r : SV, x = svV r ∧ new = [hInts r (t.wet.map fun i => ((i : Nat) : Int))]
set_option maxHeartbeats 8000000 in
theorem wet_made {g : Nat} {v : ATV} {t : ATk} {q r : SV} {w : World} (hb : BrdAt w (Lt w.heap.size) g v t q r) (hn : t.twn.length ≤ 1000) :
    Calls Tryz.prog 26 #[.pointer (some ⟨g, 0, none⟩)] w (Made w (WetV t)) := by
  have hnr := hb.nr
  obtain ⟨A, n, c⟩ := r
  simp only at hnr
  subst hnr
  have hcm : w.cell? ((⟨g, 0, none⟩ : Addr).add 5) = some (.slice A t.twn.length c) := by rw [add_off]; exact hb.cell (j := 5) rfl
  have hok : g < w.heap.size := hb.ok_
  refine enter Tryz.func26 rfl Tryz.ntmps26 rfl ?_; simp only [frame, Nat.zero_add, Nat.reduceAdd]
  repeat (first | (refine M0 ?_; first | refine SL ?_ | refine SB fun _ _ => ?_ | refine Y4 (Ev.load_old tok rfl rfl (add_lt hok) hcm) ?_) | (refine M1 ?_; first | refine SC ?_ | refine SD ?_) | (refine M2 ?_; refine SE ?_) | (refine M3 ?_; first | refine SG ?_ | refine SF ?_ | refine YF (Ev.load_old tok rfl rfl (add_lt hok) hcm) ?_) | (refine M4 ?_; refine SR ?_) | (refine M5 ?_; first | exact M7 | refine YM ?_ | refine YN ?_ ?_))
  refine XC.loopk [8, 9] rfl (fun s' : Nat × World × Value => [(2, s'.2.2), (10, .int .i64 (s'.1 : Nat))]) (fun _ => []) (fun s' => s'.2.1)
    (fun s' => s'.1 ≤ t.twn.length ∧ Fam s'.2.1 w.heap.size [] [⟨Int, intK, s'.2.2, wetK t s'.1⟩] [] ∧ Below w.heap.size w s'.2.1)
    (fun s' => t.twn.length - s'.1) (0, w, .slice none 0 0) ⟨Nat.zero_le _, (Fam.start (ks := []) (Nat.le_refl w.heap.size)).nil intK, Below.refl _ _⟩ ZZSUB (fun _ h => h) ?_
  rintro ⟨k, W, x⟩ ⟨hk, hF, hBW⟩
  simp only at hk hF hBW
  dsimp only [List.cons_append, List.nil_append]
  repeat (first | (refine M0 ?_; first | refine SL ?_ | refine SB fun _ _ => ?_) | (refine M1 ?_; first | refine SC ?_ | refine SD ?_) | (refine M2 ?_; refine SE ?_) | (refine M3 ?_; first | refine SG ?_ | refine SF ?_) | (refine M4 ?_; refine SR ?_) | (refine M5 ?_; first | exact M7 | refine YM ?_ | refine YN ?_ ?_))
  refine XC.cond _ rfl (fun h1 => ?_) (fun h1 => ?_)
  · have hkn : k < t.twn.length := by simpa using h1
    have hks : ∀ k, k ∈ ([] : List Nat) → k < W.heap.size := fun k hk => by cases hk
    have hl1 : (wetK t k).length + 1 ≤ 10000000 := by have := wetK_len t k; omega
    have ha1 : ∀ x, x ∈ intK.sl ((k : Nat) : Int) → x ∈ ([] : List Held) := fun x hx => by cases hx
    obtain ⟨ad, e1, hlt, hcell⟩ := hb.manyAt hkn
    simp only at e1
    subst e1
    have hlt' : ad.block < w.heap.size := hlt
    have hcell' : W.cell? (ad.add (k * 1)) = some (.int .i64 ((t.hits k).length : Nat)) := (hBW.cell (p := ad.add (k * 1)) (add_lt hlt')).trans hcell
    repeat (first | (refine M0 ?_; first | refine SL ?_ | refine SB fun _ _ => ?_ | refine Y4 (Ev.load_old tok rfl rfl (add_lt hlt') hcell') ?_) | (refine M1 ?_; first | refine SC ?_ | refine SD ?_) | (refine M2 ?_; refine SE ?_) | (refine M3 ?_; first | refine SG ?_ | refine SF ?_ | refine YF (Ev.load_old tok rfl rfl (add_lt hlt') hcell') ?_) | (refine M4 ?_; refine SR ?_) | (refine M5 ?_; first | exact M7 | refine YM ?_ | refine YN ?_ ?_))
    refine XC.cond _ rfl (fun h2 => ?_) (fun h2 => ?_)
    · have hpos : 0 < (t.hits k).length := by have := of_decide_eq_true h2; omega
      repeat (first | (refine M0 ?_; first | refine SL ?_ | refine SB fun _ _ => ?_ | refine XL.buildSlice tok rfl rfl rfl rfl rfl rfl rfl rfl rfl (fun _ _ => ?_) | (refine XL.at_push 26 ?_; refine XL.push (K := intK) (a := ((k : Nat) : Int)) (wE := w) 0 intK_el (by decide) rfl rfl rfl (by assumption) rfl (by assumption) (by assumption) (Nat.le_refl _) rfl hl1 (by decide) ha1 (fun _ _ _ _ _ => ?_))) | (refine M1 ?_; first | refine SC ?_ | refine SD ?_) | (refine M2 ?_; refine SE ?_) | (refine M3 ?_; first | refine SG ?_ | refine SF ?_) | (refine M4 ?_; refine SR ?_) | (refine M5 ?_; first | exact M7 | refine YM ?_ | refine YN ?_ ?_))
      refine XE.roundW (s := (k, W, x)) (fun w6 S6 => ⟨(k + 1, w6, _), ⟨hkn, ?_, ?_⟩, by simp only; omega, ZZSUB, S6.rebase (List.nil_sublist _)⟩)
      · rw [wetK_add, if_pos hpos]
        exact Fam.add (Fam.sys (by assumption) S6 ZZHL) fun k hk => by cases hk
      · exact Below.trans (by assumption) S6.toBelow
    · have hpos : ¬ 0 < (t.hits k).length := by have := of_decide_eq_false h2; omega
      repeat (first | (refine M0 ?_; first | refine SL ?_ | refine SB fun _ _ => ?_) | (refine M1 ?_; first | refine SC ?_ | refine SD ?_) | (refine M2 ?_; refine SE ?_) | (refine M3 ?_; first | refine SG ?_ | refine SF ?_) | (refine M4 ?_; refine SR ?_) | (refine M5 ?_; first | exact M7 | refine YM ?_ | refine YN ?_ ?_))
      refine XE.roundW (s := (k, W, x)) (fun w6 S6 => ⟨(k + 1, w6, x), ⟨hkn, ?_, hBW.trans S6.toBelow⟩, by simp only; omega, ZZSUB, S6.rebase (List.nil_sublist _)⟩)
      rw [wetK_add, if_neg hpos, List.append_nil]
      exact Fam.add (Fam.sys (by assumption) S6 ZZHL) fun k hk => by cases hk
  · have hkn : k = t.twn.length := by have : ¬ (k < t.twn.length) := by simpa using h1
                                      omega
    subst hkn
    repeat (first | (refine M0 ?_; first | refine SL ?_ | refine SB fun _ _ => ?_) | (refine M1 ?_; first | refine SC ?_ | refine SD ?_) | (refine M2 ?_; refine SE ?_) | (refine M3 ?_; first | refine SG ?_ | refine SF ?_) | (refine M4 ?_; refine SR ?_) | (refine M5 ?_; first | exact M7 | refine YM ?_ | refine YN ?_ ?_))
    refine XE.retg tok Tryz.results26 rfl (by simp only [and_self, and_true]) (fun w' S => ?_)
    have hF6 := hF.sys S (fun e he => by cases he)
    obtain ⟨r1, rfl, h5⟩ := hF6.list (.head _)
    exact ⟨_, [hInts r1 (wetK t t.twn.length)], rfl, ⟨r1, rfl, rfl⟩, (fun x hx => by rw [List.mem_singleton.1 hx]; exact h5.ints), hBW.trans S.toBelow⟩
end X
namespace Bs
open X
namespace ATk
variable {t : ATk}
theorem hits_in (hO : AlOk t) {i : Nat} (hi : i < t.twn.length) {n : Int} (hn : n ∈ t.hits i) : 0 ≤ n ∧ n ≤ 200500 := by
  unfold hits at hn
  obtain ⟨l, hl, rfl⟩ := List.mem_map.1 hn
  obtain ⟨h1, h2⟩ := List.mem_filter.1 hl
  have h2 : 0 ≤ at0 l (t.tw i).pol.toNat := by simpa using h2
  have hp := hO.tpol i hi
  have hlen := hO.flen l h1
  have hlt : (t.tw i).pol.toNat < l.length := by omega
  have hv := hO.fval l h1 (at0 l (t.tw i).pol.toNat) (by simp only [at0, List.getElem?_eq_getElem hlt, Option.getD_some]; exact List.getElem_mem hlt)
  have ht := (hO.ttr i hi).1
  omega
theorem loL_in {l : List Int} {K : Int} (hK : 0 ≤ K) (h : ∀ n, n ∈ l → 0 ≤ n ∧ n ≤ K) : 0 ≤ loL l ∧ loL l ≤ K := by
  cases l with
  | nil => exact ⟨Int.le_refl _, hK⟩
  | cons a r =>
    have ha := h a (.head _)
    have hr := fun n hn => h n (.tail _ hn)
    clear h
    show 0 ≤ r.foldl min a ∧ r.foldl min a ≤ K
    induction r generalizing a with
    | nil => exact ha
    | cons b r ih =>
      rw [List.foldl_cons]
      have hb := hr b (.head _)
      exact ih (min a b) (by omega) fun n hn => hr n (.tail _ hn)
theorem lo_in (hO : AlOk t) {i : Nat} (hi : i < t.twn.length) : 0 ≤ loL (t.hits i) ∧ loL (t.hits i) ≤ 200500 := loL_in (by decide) fun n hn => hits_in hO hi hn
theorem act_in (hO : AlOk t) {i : Nat} (hi : i < t.twn.length) : -500 ≤ t.act i ∧ t.act i ≤ 200500 := by
  have := lo_in hO hi
  have h2 := (hO.ttr i hi).2
  unfold act
  omega
end ATk
end Bs
namespace X
open Go Go.RowKit Bs
theorem BrdAt.arg {g : Nat} {v : ATV} {t : ATk} {q r : SV} {w0 w : World} {B : Nat} {L : Lo} (h : BrdAt w0 (Lt B) g v t q r) (S : Sys B w0 L w) : BrdAt w (Lt w.heap.size) g v t q r :=
  (h.keep fun k hk => S.toBelow.block k hk).mono fun k hk => Nat.lt_of_lt_of_le hk (Nat.le_trans S.base S.size)
def stageV (t : ATk) (now : Int) (i : Nat) : Int := if (t.hits i).length = 0 then 0 else if (t.hits i).length = t.flo.length then 2 else if t.act i ≤ now then 2 else 1
section
variable {g : Nat} {v : ATV} {t : ATk} {q r : SV} {w : World}
set_option maxHeartbeats 8000000 in
theorem act_any {i : Nat} (hb : BrdAt w (Lt w.heap.size) g v t q r) (ht : AtAt w w.heap.size v t) (hO : AlOk t) (hi : i < t.twn.length) :
    Calls Tryz.prog 63 #[.pointer (some ⟨g, 0, none⟩), .int .i64 (i : Nat)] w fun e w' => e = .returned (.int .i64 (t.act i)) ∧ Below w.heap.size w w' := by
  have hok : g < w.heap.size := hb.ok_
  have hnq := hb.nq
  have hnw := ht.nw
  have hc1 : w.cell? ((⟨g, 0, none⟩ : Addr).add 4) = some (.slice q.A q.n q.c) := by rw [add_off]; exact hb.cell (j := 4) rfl
  have hc2 : w.cell? (((⟨g, 0, none⟩ : Addr).add 0).add 2) = some (.slice v.w.A v.w.n v.w.c) := by rw [add_off, add_off]; exact hb.cell (j := 2) rfl
  obtain ⟨ad, e1, hlt1, hc3⟩ := hb.comesAt hi
  obtain ⟨adw, qw, e2, hlt2, hc4, _⟩ := ht.twnAt hi
  have hlt1' : ad.block < w.heap.size := hlt1
  have hc5 := hc4 3 (.int .i64 (t.tw i).lead) rfl
  rw [e1, hnq] at hc1
  rw [e2, hnw] at hc2
  have hlo := ATk.lo_in hO hi
  have hle := (hO.ttr i hi).2
  refine enter Tryz.func63 rfl Tryz.ntmps63 rfl ?_; simp only [frame, Nat.zero_add, Nat.reduceAdd]
  repeat (first | (refine M0 ?_; first | refine SL ?_ | refine SB fun _ _ => ?_) | (refine M1 ?_; refine SC ?_) | (refine M2 ?_; refine SE ?_))
  refine XC.drawR _ [0, 1, 2, 3, 4, 5, 6, 7, 8, 9, 10, 11, 12, 13, 14, 15, 16, 17] [18] mixed (fun _ h => h) rfl (by kernel_rfl) ?_
  repeat (any_goals (first | (refine M0 ?_; first | refine SL ?_ | refine SB fun _ _ => ?_ | refine Y4 (Ev.load_old tok rfl rfl (add_lt hok) hc1) ?_ | refine Y4 (Ev.load_old tok rfl rfl (add_lt2 hok) hc2) ?_ | refine Y4 (Ev.load_old tok rfl rfl (add_lt2 hlt1') hc3) ?_ | refine Y4 (Ev.load_old tok rfl rfl (add_lt2 hlt2) hc5) ?_) | (refine M1 ?_; refine SC ?_) | (refine M2 ?_; first | refine SE ?_ | ((with_reducible refine atHeld ?_); refine z7 ?_)) | (refine M3 ?_; first | refine SG ?_ | refine SF ?_ | refine YF (Ev.load_old tok rfl rfl (add_lt hok) hc1) ?_ | refine YF (Ev.load_old tok rfl rfl (add_lt2 hok) hc2) ?_ | refine YF (Ev.load_old tok rfl rfl (add_lt2 hlt1') hc3) ?_ | refine YF (Ev.load_old tok rfl rfl (add_lt2 hlt2) hc5) ?_) | (refine M4 ?_; refine SR ?_) | (refine M5 ?_; first | exact M7 | refine YM ?_ | refine YN ?_ ?_)))
  refine XE.retg tok Tryz.results63 rfl (by simp only [and_self, and_true]) (fun w' S => ?_)
  exact ⟨rfl, S.toBelow⟩
set_option maxHeartbeats 8000000 in
theorem first_any {i : Nat} (hb : BrdAt w (Lt w.heap.size) g v t q r) (hi : i < t.twn.length) :
    Calls Tryz.prog 39 #[.pointer (some ⟨g, 0, none⟩), .int .i64 (i : Nat)] w fun e w' => e = .returned (.int .i64 (ATk.loL (t.hits i))) ∧ Below w.heap.size w w' := by
  have hok : g < w.heap.size := hb.ok_
  have hnq := hb.nq
  have hc1 : w.cell? ((⟨g, 0, none⟩ : Addr).add 4) = some (.slice q.A q.n q.c) := by rw [add_off]; exact hb.cell (j := 4) rfl
  obtain ⟨ad, e1, hlt1, hc3⟩ := hb.comesAt hi
  have hlt1' : ad.block < w.heap.size := hlt1
  rw [e1, hnq] at hc1
  refine enter Tryz.func39 rfl Tryz.ntmps39 rfl ?_; simp only [frame, Nat.zero_add, Nat.reduceAdd]
  repeat (first | (refine M0 ?_; first | refine SL ?_ | refine SB fun _ _ => ?_ | refine Y4 (Ev.load_old tok rfl rfl (add_lt hok) hc1) ?_ | refine Y4 (Ev.load_old tok rfl rfl (add_lt2 hlt1') hc3) ?_) | (refine M1 ?_; refine SC ?_) | (refine M2 ?_; refine SE ?_))
  refine XE.retg tok Tryz.results39 rfl (by simp only [and_self, and_true]) (fun w' S => ?_)
  exact ⟨rfl, S.toBelow⟩
set_option maxHeartbeats 8000000 in
theorem latest_any {i c : Nat} (hb : BrdAt w (Lt w.heap.size) g v t q r) (ht : AtAt w w.heap.size v t) (hO : AlOk t) (hi : i < t.twn.length) (hc : c < t.cha.length) :
    Calls Tryz.prog 50 #[.pointer (some ⟨g, 0, none⟩), .int .i64 (i : Nat), .int .i64 (c : Nat)] w fun e w' => e = .returned (.int .i64 (t.latest i (c : Nat))) ∧ Below w.heap.size w w' := by
  have hok : g < w.heap.size := hb.ok_
  have hnc := ht.nc
  have hc2 : w.cell? (((⟨g, 0, none⟩ : Addr).add 0).add 1) = some (.slice v.c.A v.c.n v.c.c) := by rw [add_off, add_off]; exact hb.cell (j := 1) rfl
  obtain ⟨adc, e2, hlt2, hc4⟩ := ht.chaAt hc
  have hc5 := hc4 1 (.int .i64 (t.ch (c : Nat)).delay) rfl
  rw [e2, hnc] at hc2
  have hac := ATk.act_in hO hi
  have hdl := (hO.cha c hc).1
  refine enter Tryz.func50 rfl Tryz.ntmps50 rfl ?_; simp only [frame, Nat.zero_add, Nat.reduceAdd]
  repeat (first | (refine M0 ?_; first | refine SL ?_ | refine SB fun _ _ => ?_) | (refine M1 ?_; refine SC ?_) | (refine M2 ?_; refine SE ?_))
  refine XC.drawR _ [0, 1, 3, 4, 5, 6, 7, 8, 9, 10, 11] [2, 12, 13, 14] mixed (fun _ h => h) rfl (by kernel_rfl) ?_
  repeat (any_goals (first | (refine M0 ?_; first | refine SL ?_ | refine SB fun _ _ => ?_ | refine Y4 (Ev.load_old tok rfl rfl (add_lt2 hok) hc2) ?_ | refine Y4 (Ev.load_old tok rfl rfl (add_lt2 hlt2) hc5) ?_ | refine Y4 (Ev.call (f := 63) (ck rfl) rfl (fun w S => (act_any (hb.arg S) (ht.sys S) hO hi :))) ?_) | (refine M1 ?_; refine SC ?_) | (refine M2 ?_; first | refine SE ?_ | ((with_reducible refine atHeld ?_); refine z7 ?_)) | (refine M3 ?_; first | refine SG ?_ | refine SF ?_ | refine YF (Ev.load_old tok rfl rfl (add_lt2 hok) hc2) ?_ | refine YF (Ev.load_old tok rfl rfl (add_lt2 hlt2) hc5) ?_ | refine YF (Ev.call (f := 63) (ck rfl) rfl (fun w S => (act_any (hb.arg S) (ht.sys S) hO hi :))) ?_) | (refine M4 ?_; refine SR ?_) | (refine M5 ?_; first | exact M7 | refine YM ?_ | refine YN ?_ ?_)))
  any_goals (repeat (first | exact AnyR.nil | refine AnyR.skip rfl ?_))
  all_goals
    refine XE.retg tok Tryz.results50 rfl (by simp only [and_self, and_true]) (fun w' S => ?_)
    exact ⟨rfl, S.toBelow⟩
set_option maxHeartbeats 8000000 in
theorem stage_any {i : Nat} {now : Int} (hb : BrdAt w (Lt w.heap.size) g v t q r) (ht : AtAt w w.heap.size v t) (hO : AlOk t) (hi : i < t.twn.length) :
    Calls Tryz.prog 37 #[.pointer (some ⟨g, 0, none⟩), .int .i64 (i : Nat), .int .i64 now] w fun e w' => e = .returned (.int .i64 (stageV t now i)) ∧ Below w.heap.size w w' := by
  have hok : g < w.heap.size := hb.ok_
  have hnr := hb.nr
  have hnf := ht.nf
  have hc1 : w.cell? ((⟨g, 0, none⟩ : Addr).add 5) = some (.slice r.A r.n r.c) := by rw [add_off]; exact hb.cell (j := 5) rfl
  have hc2 : w.cell? (((⟨g, 0, none⟩ : Addr).add 0).add 3) = some (.slice v.f.A v.f.n v.f.c) := by rw [add_off, add_off]; exact hb.cell (j := 3) rfl
  obtain ⟨ad, e1, hlt1, hc3⟩ := hb.manyAt hi
  have hlt1' : ad.block < w.heap.size := hlt1
  rw [e1, hnr] at hc1
  rw [hnf] at hc2
  refine enter Tryz.func37 rfl Tryz.ntmps37 rfl ?_; simp only [frame, Nat.zero_add, Nat.reduceAdd]
  repeat (first | (refine M0 ?_; first | refine SL ?_ | refine SB fun _ _ => ?_ | refine Y4 (Ev.load_old tok rfl rfl (add_lt hok) hc1) ?_ | refine Y4 (Ev.load_old tok rfl rfl (add_lt hlt1') hc3) ?_) | (refine M1 ?_; refine SC ?_) | (refine M2 ?_; refine SE ?_))
  refine XC.cond _ rfl (fun h1 => ?_) (fun h1 => ?_)
  · have h2 : (t.hits i).length = 0 := by have := of_decide_eq_true h1; omega
    repeat (first | (refine M0 ?_; first | refine SL ?_ | refine SB fun _ _ => ?_) | (refine M1 ?_; refine SC ?_) | (refine M2 ?_; refine SE ?_))
    refine XE.retg tok Tryz.results37 rfl (by simp only [and_self, and_true]) (fun w' S => ?_)
    exact ⟨by unfold stageV; rw [if_pos h2]; rfl, S.toBelow⟩
  have h2 : ¬ (t.hits i).length = 0 := by have := of_decide_eq_false h1; omega
  clear h1
  repeat (first | (refine M0 ?_; first | refine SL ?_ | refine SB fun _ _ => ?_ | refine Y4 (Ev.load_old tok rfl rfl (add_lt2 hok) hc2) ?_) | (refine M1 ?_; refine SC ?_) | (refine M2 ?_; refine SE ?_))
  refine XC.cond _ rfl (fun h1 => ?_) (fun h1 => ?_)
  · have h3 : (t.hits i).length = t.flo.length := by have := of_decide_eq_true h1; omega
    repeat (first | (refine M0 ?_; first | refine SL ?_ | refine SB fun _ _ => ?_) | (refine M1 ?_; refine SC ?_) | (refine M2 ?_; refine SE ?_))
    refine XE.retg tok Tryz.results37 rfl (by simp only [and_self, and_true]) (fun w' S => ?_)
    exact ⟨by unfold stageV; rw [if_neg h2, if_pos h3]; rfl, S.toBelow⟩
  have h3 : ¬ (t.hits i).length = t.flo.length := by have := of_decide_eq_false h1; omega
  clear h1
  repeat (first | (refine M0 ?_; first | refine SL ?_ | refine SB fun _ _ => ?_) | (refine M1 ?_; refine SC ?_) | (refine M2 ?_; refine SE ?_))
  refine Y4 (Ev.call (f := 63) (ck rfl) rfl (fun w S => (act_any (hb.arg S) (ht.sys S) hO hi :))) ?_
  repeat (first | (refine M0 ?_; first | refine SL ?_ | refine SB fun _ _ => ?_) | (refine M1 ?_; refine SC ?_) | (refine M2 ?_; refine SE ?_))
  refine XC.cond _ rfl (fun h1 => ?_) (fun h1 => ?_)
  · have h4 : t.act i ≤ now := of_decide_eq_true h1
    repeat (first | (refine M0 ?_; first | refine SL ?_ | refine SB fun _ _ => ?_) | (refine M1 ?_; refine SC ?_) | (refine M2 ?_; refine SE ?_))
    refine XE.retg tok Tryz.results37 rfl (by simp only [and_self, and_true]) (fun w' S => ?_)
    exact ⟨by unfold stageV; rw [if_neg h2, if_neg h3, if_pos h4]; rfl, S.toBelow⟩
  have h4 : ¬ t.act i ≤ now := of_decide_eq_false h1
  repeat (first | (refine M0 ?_; first | refine SL ?_ | refine SB fun _ _ => ?_) | (refine M1 ?_; refine SC ?_) | (refine M2 ?_; refine SE ?_))
  refine XE.retg tok Tryz.results37 rfl (by simp only [and_self, and_true]) (fun w' S => ?_)
  exact ⟨by unfold stageV; rw [if_neg h2, if_neg h3, if_neg h4]; rfl, S.toBelow⟩
end
end X
end Go.Proofs.YtgddcbpbadookaaGreatDoor
