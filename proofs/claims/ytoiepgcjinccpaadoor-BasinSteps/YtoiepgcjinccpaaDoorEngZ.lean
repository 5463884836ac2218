/-
  Short names of the walk's rules, each with what closes its conditions: the walks' texts are generated lists of these.
-/
import Derived.Test.YtoiepgcjinccpaaDoorEngB
namespace Go.Proofs.YtoiepgcjinccpaaDoor.X
open Go Go.RowKit
set_option linter.unusedVariables false
section
variable {P : Program} {T : TT} {N : Nat} {B : Nat} {wS w0 : World} {ds : List Deferred} {Q : Exit → Act → World → Prop} {F G : Fr} {L L' Ls : Lo} {pu : Prop} {KK : Fr → Prop} {all ops : Array Oper} {l r rest : List Oper} {C : Prop}
variable {d j : Nat} {wb : Bool} {op : Op} {ty : TypeId} {p : String} {af : Array Edge} {rem rem' : List (Nat × Oper)}
theorem z1 (hT : TOK P T) (h : run1 T N L l F = some (r, G, C)) (k : XL P N B w0 ds Q all r G L) (hc : C := by (repeat (first | exact trivial | exact rfl | refine ⟨trivial, ?_⟩ | refine ⟨rfl, ?_⟩ | refine ⟨by first | assumption | omega | (unfold i64in; omega) | (simp only [decide_eq_true_eq, decide_eq_false_iff_not] at *; omega) | (unfold i64in; simp only [decide_eq_true_eq, decide_eq_false_iff_not] at *; omega), ?_⟩)) <;> fail) : XL P N B w0 ds Q all l F L := XL.run1 hT h hc k
theorem z2 (hT : TOK P T) (h : run1 T N L l F = some (r, G, C)) (k : Fw P N B w0 ds pu KK all L r G) (hc : C := by (repeat (first | exact trivial | exact rfl | refine ⟨trivial, ?_⟩ | refine ⟨rfl, ?_⟩ | refine ⟨by first | assumption | omega | (unfold i64in; omega) | (simp only [decide_eq_true_eq, decide_eq_false_iff_not] at *; omega) | (unfold i64in; simp only [decide_eq_true_eq, decide_eq_false_iff_not] at *; omega), ?_⟩)) <;> fail) : Fw P N B w0 ds pu KK all L l F := Fw.run1 hT h hc k
theorem z3 (hT : TOK P T) {t : TypeId} {x y : Operand} (h : evalStore T F L t x y = some (L', C)) (k : XL P N B w0 ds Q ops rest F L') (hc : C := by (repeat (first | exact trivial | exact rfl | refine ⟨trivial, ?_⟩ | refine ⟨rfl, ?_⟩ | refine ⟨by first | assumption | omega | (unfold i64in; omega) | (simp only [decide_eq_true_eq, decide_eq_false_iff_not] at *; omega) | (unfold i64in; simp only [decide_eq_true_eq, decide_eq_false_iff_not] at *; omega), ?_⟩)) <;> fail) :
    XL P N B w0 ds Q ops ({ dst := none, op := .store t x y, type := ty, pos := p, after := af, guard := none } :: rest) F L := XL.store1 hT h hc k
theorem z4 (h : XR P N B wS w0 ds Q Ls ops rem F L) (hS : ∀ w, Sys B w0 L w → Sys B wS Ls w := by intro w h; first | exact h | exact Sys.pop h (by assumption) | exact Sys.pop (Sys.pop h (by assumption)) (by assumption) | exact Sys.pop (Sys.pop (Sys.pop h (by assumption)) (by assumption)) (by assumption) | exact Sys.pop (Sys.pop (Sys.pop (Sys.pop h (by assumption)) (by assumption)) (by assumption)) (by assumption) | exact Sys.anchor (by assumption) h (by simp) (by simp)) : XE N B w0 ds (heldR P B wS Q Ls ops rem) .normal F L := XE.heldR hS h
end
theorem O0 : type_of% @XL.done := @XL.done
theorem O1 : type_of% @XL.guard_n := @XL.guard_n
theorem O2 : type_of% @XL.guard_y := @XL.guard_y
theorem O3 : type_of% @XL.guard_u := @XL.guard_u
theorem O4 : type_of% @XL.box := @XL.box
theorem O5 : type_of% @XL.alloc := @XL.alloc
theorem O6 : type_of% @Fw.done := @Fw.done
theorem O7 : type_of% @Fw.guard_n := @Fw.guard_n
theorem O8 : type_of% @Fw.guard_y := @Fw.guard_y
theorem O9 : type_of% @Fw.guard_u := @Fw.guard_u
theorem J0 : type_of% @XC.seq := @XC.seq
theorem J1 : type_of% @XC.region := @XC.region
theorem J2 : type_of% @XC.draw := @XC.draw
theorem J3 : type_of% @XC.drawT := @XC.drawT
theorem J4 : type_of% @XC.block := @XC.block
theorem J5 : type_of% @XC.skip := @XC.skip
theorem J6 : type_of% @XC.ret := @XC.ret
theorem J7 : type_of% @XC.exit := @XC.exit
theorem J8 : type_of% @XC.cond_t := @XC.cond_t
theorem J9 : type_of% @XC.cond_f := @XC.cond_f
theorem I0 : type_of% @XE.next := @XE.next
theorem I1 : type_of% @XE.then_ret := @XE.then_ret
theorem I2 : type_of% @XE.then_exit := @XE.then_exit
theorem I3 : type_of% @XE.block_normal := @XE.block_normal
theorem I4 : type_of% @XE.block_ret := @XE.block_ret
theorem I5 : type_of% @XE.block_here := @XE.block_here
theorem I6 : type_of% @XE.block_on := @XE.block_on
theorem I7 : type_of% @XE.cut_ret := @XE.cut_ret
theorem I8 : type_of% @XE.cut_exit := @XE.cut_exit
theorem I9 : type_of% @XE.heldR := @XE.heldR
theorem M0 : type_of% @XL.id := @XL.id
theorem M1 : type_of% @XC.id := @XC.id
theorem M2 : type_of% @XE.id := @XE.id
theorem M3 : type_of% @Fw.id := @Fw.id
theorem M4 : type_of% @XR.id := @XR.id
theorem M5 : type_of% @AnyR.id := @AnyR.id
theorem M6 : type_of% @XR.done := @XR.done
theorem M7 : type_of% @AnyR.nil := @AnyR.nil
theorem U0 : type_of% @XL.step := @XL.step
theorem U1 : type_of% @Fw.step := @Fw.step
theorem U2 : type_of% @Ev.nilCheck := @Ev.nilCheck
theorem U3 : type_of% @Ev.build := @Ev.build
theorem U4 : type_of% @Ev.pick_t := @Ev.pick_t
theorem U5 : type_of% @Ev.pick_f := @Ev.pick_f
theorem U6 : type_of% @XR.take := @XR.take
theorem U7 : type_of% @XR.any := @XR.any
theorem U8 : type_of% @AnyR.skip := @AnyR.skip
theorem U9 : type_of% @AnyR.go := @AnyR.go
end Go.Proofs.YtoiepgcjinccpaaDoor.X
