/-
  A walk by lemmas (16): interfaces against nil.
-/
import Derived.Test.YtoiepgcjinccpaaDoorEngF
import Derived.LaidEql
namespace Go.Proofs.YtoiepgcjinccpaaDoor.X
open Go Go.RowKit
set_option linter.unusedVariables false
def isIf (d : Option TypeDesc) : Bool := match d with
  | some (.interface _) => true
  | _ => false
def isNilI : Value → Option Bool
  | .nilIface => some true
  | .iface _ _ => some false
  | _ => none
section
variable {P : Program} {T : TT} {N : Nat} {B : Nat} {w0 : World} {ds : List Deferred} {F : Fr} {L : Lo} {pu : Prop}
variable {dst : Option Tmp} {ty : TypeId} {p : String} {af : Array Edge} {gd : Option (Nat × Bool)}
theorem run_ifNil (w : World) {t : TypeId} {v : Value} {b : Bool} (hu : isIf (P.underlying t) = true) (hv : isNilI v = some b) : (Op.equal t v .nilIface).run P w = .ok b w := by
  have hi : ∃ ms, P.underlying t = some (.interface ms) := by
    unfold isIf at hu
    split at hu
    · rename_i ms h; exact ⟨ms, h⟩
    · cases hu
  obtain ⟨ms, hi⟩ := hi
  have h1 : ∀ d : Nat, (Op.equalIn (d + 1) t .nilIface .nilIface).run P w = .ok true w := fun d => by simp [Op.equalIn, run_underlying hi]
  have h2 : ∀ (d : Nat) tp v, (Op.equalIn (d + 1) t (.iface tp v) .nilIface).run P w = .ok false w := fun d tp v => by simp [Op.equalIn, run_underlying hi]
  cases v <;> simp [isNilI] at hv <;> subst hv <;> first
    | (simp [Op.equal, Op.maxDepth, h1 9999]; done)
    | (simp [Op.equal, Op.maxDepth, h2 9999]; done)
theorem Ev.ifEql {x : Operand} {t u : TypeId} {v : Value} {b : Bool} (hx : evo F x = some v) (hv : isNilI v = some b) (hu : isIf (P.underlying t) = true) :
    Ev P N B w0 ds pu F L ⟨dst, .binOp .eql t x (.const .nilIface) u, ty, p, af, gd⟩ (.bool b) := .of_run fun a w hf hw => by
  have h1 := run_ifNil w hu hv
  have e := hf.eval hx
  have e2 : a.eval (.const .nilIface) = .nilIface := rfl
  cases v <;> simp [isNilI] at hv <;> subst hv <;> simp only [execOp, e, e2] <;> simp [eqGuard, binOp, h1]
theorem Ev.ifNeq {x : Operand} {t u : TypeId} {v : Value} {b : Bool} (hx : evo F x = some v) (hv : isNilI v = some b) (hu : isIf (P.underlying t) = true) :
    Ev P N B w0 ds pu F L ⟨dst, .binOp .neq t x (.const .nilIface) u, ty, p, af, gd⟩ (.bool (!b)) := .of_run fun a w hf hw => by
  have h1 := run_ifNil w hu hv
  have e := hf.eval hx
  have e2 : a.eval (.const .nilIface) = .nilIface := rfl
  cases v <;> simp [isNilI] at hv <;> subst hv <;> simp only [execOp, e, e2] <;> simp [eqGuard, binOp, h1]
end
theorem XI.rebase {P : Program} {N B : Nat} {w0 : World} {ds : List Deferred} {Q : Exit → Act → World → Prop} {F : Fr} {L L' : Lo} {ops : Array Oper} {rest : List Oper} {r : Option Nat} {n : Nat} (hs : List.Sublist L' L) (k : ∀ w1, Sys B w0 L w1 → XI P N B w1 ds Q r n ops rest F L') : XI P N B w0 ds Q r n ops rest F L :=
  ⟨fun a w hf h => (k w h).run a w hf (h.rebase hs)⟩
/-- no call of a value that is held in a slot. -/
def plainO (o : Oper) : Bool := match o.op with
  | .defer _ => false
  | .call c => match c.callee with
    | .value (.tmp _) => false
    | _ => true
  | _ => true
theorem XI.one1 {P : Program} {N B : Nat} {w0 : World} {ds : List Deferred} {Q : Exit → Act → World → Prop} {F : Fr} {L : Lo} {ops : Array Oper} {rest : List Oper} {r : Option Nat} {n : Nat} {o : Oper} (hd : plainO o = true) (h : XL P N B w0 ds (only (wpListIn (fen r) n P ops Q rest)) ops [o] F L) : XI P N B w0 ds Q r n ops (o :: rest) F L :=
  XI.one (by
    unfold plainO at hd
    unfold notDefer
    split at hd <;> simp_all) h
end Go.Proofs.YtoiepgcjinccpaaDoor.X
