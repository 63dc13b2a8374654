/-
  More operations: tests of bools.
-/
import Derived.Test.YtidogcbcknpdiaaSl8
set_option linter.unusedVariables false
set_option linter.unusedSimpArgs false
namespace SL
open Go

/-- the loops of a function's text with the blocks that they are left by, outer ones first -/
def loops : Code → List Code
  | .seq a b => loops a ++ loops b
  | .cond _ a b => loops a ++ loops b
  | .block i (.loop b) => .block i (.loop b) :: loops b
  | .block _ b => loops b
  | .loop b => .loop b :: loops b
  | .scope b => loops b
  | .rangeFunc f p a b => .rangeFunc f p a b :: loops b
  | _ => []
def loopAt (f : Func) (i : Nat) : Code := match f.body with
  | some c => match nth (loops c) i with
    | some b => b
    | none => .skip
  | none => .skip

class TBo (P : Program) (t : Nat) : Prop where
  und : P.underlying t = some .bool

theorem run_eqBool {P : Program} {t : Nat} (he : P.underlying t = some .bool) (a b : Bool) (w : World) : (Op.equal t (.bool a) (.bool b)).run P w = .ok (a == b) w := by
  show (Op.equalIn (9999 + 1) t (.bool a) (.bool b)).run P w = _
  generalize 9999 = m
  simp [Op.equalIn, run_und he]

section
variable {P : Program} {fid n : Nat} {post : Post} {L L' : List HProp} {k : List Item} {ρ ρ' : Env} {ops rest : List Oper} {g : Option (Nat × Bool)} {ty : TypeId} {pos : String} {af : Array Edge} {d : Nat} {sf : Option (List Bool × List HProp)}
theorem TK.weakD (s : Sub ρ ρ') (e : EntD L L') (h : TK P fid n post k ρ' L') : TK P fid n post k ρ L := TK.env s (TK.entD e h)
theorem PV.eqB {dst : Option Nat} {x y : Operand} {a b : Bool} {t u : TypeId} [ht : TBo P t] (hx : ev ρ x = some (.bool a)) (hy : ev ρ y = some (.bool b)) : PV P n ρ ⟨dst, .binOp .eql t x y u, ty, pos, af, g⟩ (.bool (decide (a = b))) := fun a' w gr => by
  simp [execOp, eqGuard, binOp, gr.eval hx, gr.eval hy, run_eqBool ht.und]
  cases a <;> cases b <;> rfl
theorem PV.neB {dst : Option Nat} {x y : Operand} {a b : Bool} {t u : TypeId} [ht : TBo P t] (hx : ev ρ x = some (.bool a)) (hy : ev ρ y = some (.bool b)) : PV P n ρ ⟨dst, .binOp .neq t x y u, ty, pos, af, g⟩ (.bool (decide (¬ a = b))) := fun a' w gr => by
  simp [execOp, eqGuard, binOp, gr.eval hx, gr.eval hy, run_eqBool ht.und]
  cases a <;> cases b <;> rfl
end
end SL
