/-
  More operations: tests of bools.
-/
import Derived.Test.YtpnlenpglmffdaaSl8
import Derived.Laws.StructEq
set_option linter.unusedVariables false
set_option linter.unusedSimpArgs false
namespace SL
open Go

/-- the loops of a function's text with the blocks that they are left by, outer ones first -/
def loops : Code → List Code
  | .seq a b => loops a ++ loops b
  | .cond _ a b => loops a ++ loops b
  | .block i (.loop b) => .block i (.loop b) :: loops b
  | .block _ b => loops b
  | .loop b => .loop b :: loops b
  | .scope b => loops b
  | .rangeFunc f p a b => .rangeFunc f p a b :: loops b
  | _ => []
def loopAt (f : Func) (i : Nat) : Code := match f.body with
  | some c => match nth (loops c) i with
    | some b => b
    | none => .skip
  | none => .skip

class TIn (P : Program) (t : Nat) (kd : outParam IntKind) : Prop where
  und : P.underlying t = some (.int kd)
class TBo (P : Program) (t : Nat) : Prop where
  und : P.underlying t = some .bool

/-! equality of structs whose fields are numbers, bools and strings, a cell each -/
def cellEq : Value → Value → Bool
  | .int _ a, .int _ b => a == b
  | .bool a, .bool b => a == b
  | .string a, .string b => a.toList == b.toList
  | _, _ => false
def eqCells : List Value → List Value → Bool
  | [], [] => true
  | a :: x, b :: y => cellEq a b && eqCells x y
  | _, _ => false
/-- 0: a number, 1: a bool, 2: a string -/
def okPair : Nat → Value → Value → Bool
  | 0, .int k _, .int k' _ => k == k'
  | 1, .bool _, .bool _ => true
  | 2, .string _, .string _ => true
  | _, _, _ => false
def okPairs : List Nat → List Value → List Value → Bool
  | [], [], [] => true
  | d :: ds, a :: x, b :: y => okPair d a b && okPairs ds x y
  | _, _, _ => false
def isKd (P : Program) (t : Nat) : Nat → Bool
  | 0 => match P.underlying t with
    | some (.int _) => true
    | _ => false
  | 1 => match P.underlying t with
    | some .bool => true
    | _ => false
  | 2 => match P.underlying t with
    | some .string => true
    | _ => false
  | _ => false
def flatAt (P : Program) : List Field → List Nat → Nat → Bool
  | [], [], _ => true
  | f :: fs, d :: ds, i => (f.name != "_") && (f.offset == i) && isKd P f.type d && flatAt P fs ds (i + 1)
  | _, _, _ => false
theorem run_part1 {P : Program} {t kd : Nat} (h : isKd P t kd = true) {xs : List Value} {i : Nat} {v : Value} (hv : xs[i]? = some v) (w : World) : (part t xs.toArray i).run P w = .ok v w := by
  have : (isAgg t).run P w = .ok false w := by
    unfold isKd at h
    split at h
    · split at h
      · rename_i k hu; simp [isAgg, run_und hu]
      · cases h
    · split at h
      · rename_i hu; simp [isAgg, run_und hu]
      · cases h
    · split at h
      · rename_i hu; simp [isAgg, run_und hu]
      · cases h
    · cases h
  simp [part, this, hv]
theorem run_cellEq {P : Program} {t kd m : Nat} (h : isKd P t kd = true) {a b : Value} (hp : okPair kd a b = true) (w : World) : (Op.equalIn (m + 1) t a b).run P w = .ok (cellEq a b) w := by
  unfold isKd at h
  split at h
  · split at h
    · rename_i k hu
      cases a <;> cases b <;> simp [okPair] at hp
      subst hp
      exact run_equalIn_int w m t _ k _ _ hu
    · cases h
  · split at h
    · rename_i hu
      cases a <;> cases b <;> simp [okPair] at hp
      exact run_equalIn_bool' w m t _ _ hu
    · cases h
  · split at h
    · rename_i hu
      cases a <;> cases b <;> simp [okPair] at hp
      exact run_equalIn_string w m t _ _ hu
    · cases h
  · cases h
theorem run_eqFlat {P : Program} {m : Nat} (w : World) (xs ys : List Value) : ∀ (fs : List Field) (ds : List Nat) (i : Nat), flatAt P fs ds i = true → okPairs ds (xs.drop i) (ys.drop i) = true →
    (Op.eqFields (m + 1) xs.toArray ys.toArray fs).run P w = .ok (eqCells (xs.drop i) (ys.drop i)) w
  | [], ds, i, h, hp => by
    cases ds with
    | nil =>
      cases hx : xs.drop i <;> cases hy : ys.drop i <;> simp [hx, hy, okPairs] at hp
      simp [Op.eqFields, eqCells]
    | cons d ds => simp [flatAt] at h
  | f :: fs, [], i, h, hp => by simp [flatAt] at h
  | f :: fs, d :: ds, i, h, hp => by
    simp only [flatAt, Bool.and_eq_true, bne_iff_ne, ne_eq, beq_iff_eq] at h
    obtain ⟨⟨⟨h1, h2⟩, h3⟩, h4⟩ := h
    cases hx : xs.drop i with
    | nil => simp [hx, okPairs] at hp
    | cons a x =>
      cases hy : ys.drop i with
      | nil => simp [hx, hy, okPairs] at hp
      | cons b y =>
        simp only [hx, hy, okPairs, Bool.and_eq_true] at hp
        have ex : xs[i]? = some a := by rw [← List.head?_drop, hx]; rfl
        have ey : ys[i]? = some b := by rw [← List.head?_drop, hy]; rfl
        have dx : xs.drop (i + 1) = x := by rw [← List.tail_drop, hx]; rfl
        have dy : ys.drop (i + 1) = y := by rw [← List.tail_drop, hy]; rfl
        have ih := run_eqFlat (P := P) (m := m) w xs ys fs ds (i + 1) h4 (by rw [dx, dy]; exact hp.2)
        rw [dx, dy] at ih
        subst h2
        simp only [Op.eqFields, ne_eq, h1, not_false_eq_true, if_true, Sem.run_bind, run_part1 h3 ex w, run_part1 h3 ey w, run_cellEq h3 hp.1 w, Result.andThen_ok, eqCells]
        cases cellEq a b
        · simp
        · simpa using ih
class TFl (P : Program) (t : Nat) (ds : outParam (List Nat)) : Prop where
  und : P.underlying t = some (.struct (P.fieldsOf t))
  held : P.stoodInHeld t = false
  guard : P.eqGuardType P.depth t = false
  flat : flatAt P (P.fieldsOf t).toList ds 0 = true

theorem run_eqBool {P : Program} {t : Nat} (he : P.underlying t = some .bool) (a b : Bool) (w : World) : (Op.equal t (.bool a) (.bool b)).run P w = .ok (a == b) w := by
  show (Op.equalIn (9999 + 1) t (.bool a) (.bool b)).run P w = _
  generalize 9999 = m
  simp [Op.equalIn, run_und he]

section
variable {P : Program} {fid : Fm} {n : Nat} {post : Post} {L L' : List HProp} {k : List Item} {ρ ρ' : Env} {ops rest : List Oper} {g : Option (Nat × Bool)} {ty : TypeId} {pos : String} {af : Array Edge} {d : Nat} {sf : Option (List Bool × List HProp)}
/-- two chunks are forgotten -/
theorem EntD.drop2 {p q : HProp} {r r' : List HProp} (h1 : Pick L p r) (h2 : Pick r q r') : EntD L r' := fun w0 F w s => (s.drop h1).drop h2
theorem EntD.drop1 {p : HProp} {r : List HProp} (h1 : Pick L p r) : EntD L r := fun w0 F w s => s.drop h1
theorem TK.lp {i : Nat} {c : Code} (h : TK P fid n post (.code (.block i (.loop c)) :: k) ρ L) : TK P fid n post (.code (.block i (.loop c)) :: k) ρ L := h
theorem TK.weakD (s : Sub ρ ρ') (e : EntD L L') (h : TK P fid n post k ρ' L') : TK P fid n post k ρ L := TK.env s (TK.entD e h)
theorem PV.toIntC {dst : Option Nat} {x : Operand} {kd kd' kd0 : IntKind} {i r : Int} {s t : TypeId} [hs : TIn P s kd0] [ht : TIn P t kd'] (hx : ev ρ x = some (.int kd i)) (hr : kd'.wrap i = r) : PV P n ρ ⟨dst, .convert s t x, ty, pos, af, g⟩ (.int kd' r) := PV.toInt hx ⟨_, hs.und⟩ ht.und hr
theorem PV.eqFl {dst : Option Nat} {x y : Operand} {vs us : List Value} {t u : TypeId} {ds : List Nat} [ht : TFl P t ds] (hx : ev ρ x = some (.agg vs.toArray)) (hy : ev ρ y = some (.agg us.toArray)) (hk : okPairs ds vs us = true) :
    PV P n ρ ⟨dst, .binOp .eql t x y u, ty, pos, af, g⟩ (.bool (eqCells vs us)) := fun a w gr => by
  have e := run_eqFlat (P := P) (m := 9998) w vs us (P.fieldsOf t).toList ds 0 ht.flat (by simpa using hk)
  have e2 := run_equalIn_struct w 9999 t vs.toArray us.toArray ht.und ht.held
  simp only [List.drop_zero] at e
  rw [e] at e2
  simp only [execOp, Sem.run_bind, gr.eval hx, gr.eval hy, run_eqGuard_agg w _ t x y _ _ ht.guard, Result.andThen_ok, run_eql_struct, e2, Sem.run_pure]
theorem PV.neFl {dst : Option Nat} {x y : Operand} {vs us : List Value} {t u : TypeId} {ds : List Nat} [ht : TFl P t ds] (hx : ev ρ x = some (.agg vs.toArray)) (hy : ev ρ y = some (.agg us.toArray)) (hk : okPairs ds vs us = true) :
    PV P n ρ ⟨dst, .binOp .neq t x y u, ty, pos, af, g⟩ (.bool (!eqCells vs us)) := fun a w gr => by
  have e := run_eqFlat (P := P) (m := 9998) w vs us (P.fieldsOf t).toList ds 0 ht.flat (by simpa using hk)
  have e2 := run_equalIn_struct w 9999 t vs.toArray us.toArray ht.und ht.held
  simp only [List.drop_zero] at e
  rw [e] at e2
  simp only [execOp, Sem.run_bind, gr.eval hx, gr.eval hy, run_eqGuard_agg w _ t x y _ _ ht.guard, Result.andThen_ok, run_neq_struct, e2, Sem.run_pure]
theorem PV.eqB {dst : Option Nat} {x y : Operand} {a b : Bool} {t u : TypeId} [ht : TBo P t] (hx : ev ρ x = some (.bool a)) (hy : ev ρ y = some (.bool b)) : PV P n ρ ⟨dst, .binOp .eql t x y u, ty, pos, af, g⟩ (.bool (decide (a = b))) := fun a' w gr => by
  simp [execOp, eqGuard, binOp, gr.eval hx, gr.eval hy, run_eqBool ht.und]
  cases a <;> cases b <;> rfl
theorem PV.neB {dst : Option Nat} {x y : Operand} {a b : Bool} {t u : TypeId} [ht : TBo P t] (hx : ev ρ x = some (.bool a)) (hy : ev ρ y = some (.bool b)) : PV P n ρ ⟨dst, .binOp .neq t x y u, ty, pos, af, g⟩ (.bool (decide (¬ a = b))) := fun a' w gr => by
  simp [execOp, eqGuard, binOp, gr.eval hx, gr.eval hy, run_eqBool ht.und]
  cases a <;> cases b <;> rfl
end
end SL
