/-
  Rules for the single operations: moves, tests, integers, cells of memory, slices of memory.
-/
import Derived.Test.YtpnlenpglmffdaaSl4
set_option linter.unusedVariables false
set_option linter.unusedSimpArgs false
namespace SL
open Go

/-! ### Facts on types, as instances -/
class TSc (P : Program) (t : Nat) : Prop where
  run : ∀ w : World, (isAgg t).run P w = Go.Result.ok false w ∧ (Go.sizeOf t).run P w = Go.Result.ok 1 w
class TAg (P : Program) (t : Nat) (n : outParam Nat) : Prop where
  run : ∀ w : World, (isAgg t).run P w = Go.Result.ok true w ∧ (Go.sizeOf t).run P w = Go.Result.ok n w
class TZe (P : Program) (t : Nat) (z : outParam Value) : Prop where
  run : ∀ w : World, (zeroValue t).run P w = Go.Result.ok z w
/-- field f of the struct type s lies off cells behind its head -/
class TFa (P : Program) (s f : Nat) (off : outParam Nat) : Prop where
  run : ∀ (b o : Nat) (w : World), (Instr.fieldAt s (.pointer (some ⟨b, o, Option.none⟩)) f).run P w = Go.Result.ok (.pointer (some ⟨b, o + off, Option.none⟩)) w
/-- the slice type t, its element type, that one's cells and bytes -/
class TSl (P : Program) (t : Nat) (e sz by_ : outParam Nat) : Prop where
  und : P.underlying t = some (.slice e)
  size : ∀ w : World, (Go.sizeOf e).run P w = Go.Result.ok sz w
  info : ∀ w : World, (typeInfo e).run P w = Go.Result.ok ((P.info? e).getD default) w
  bytes : ((P.info? e).getD default).bytes = by_
class TPt (P : Program) (t : Nat) : Prop where
  und : ∃ e, P.underlying t = some (.pointer e)
class TMp (P : Program) (t : Nat) (k e : outParam Nat) : Prop where
  und : P.underlying t = some (.map k e)

theorem run_und {P : Program} {t : Nat} {d : TypeDesc} (h : P.underlying t = some d) (w : World) : (underlying t).run P w = Go.Result.ok d w := by
  simp [underlying, h]

/-! ### Lists of cells -/
/-- n cells of cs from off on are vs -/
def Cut (cs : List Value) (off n : Nat) (vs : List Value) : Prop := vs.length = n ∧ ∀ j v, vs[j]? = some v → cs[off + j]? = some v
theorem Cut.intro {cs vs : List Value} {off n : Nat} (h1 : vs.length = n) (h2 : ∀ j v, vs[j]? = some v → cs[off + j]? = some v) : Cut cs off n vs := ⟨h1, h2⟩
theorem Cut.at_ {cs vs : List Value} {off n j : Nat} {v : Value} (h : Cut cs off n vs) (hv : vs[j]? = some v) : cs[off + j]? = some v := h.2 j v hv
theorem Cut.zero (cs : List Value) : Cut cs 0 0 [] := ⟨rfl, by simp⟩
theorem Cut.take {c : Value} {cs vs : List Value} {n : Nat} (h : Cut cs 0 n vs) : Cut (c :: cs) 0 (n + 1) (c :: vs) := by
  refine ⟨by simp [h.1], fun j v hj => ?_⟩
  cases j with
  | zero => simpa using hj
  | succ j => have := h.2 j v (by simpa using hj); simpa using this
theorem Cut.drop {c : Value} {cs vs : List Value} {m n : Nat} (h : Cut cs m n vs) : Cut (c :: cs) (m + 1) n vs := by
  refine ⟨h.1, fun j v hj => ?_⟩
  have := h.2 j v hj
  rw [show m + 1 + j = (m + j) + 1 from by omega]
  simpa using this
/-- vs is laid into cs at off: cs' -/
def PutAt (cs : List Value) (off : Nat) (vs cs' : List Value) : Prop := off + vs.length ≤ cs.length ∧ cs' = cs.take off ++ vs ++ cs.drop (off + vs.length)
theorem PutAt.intro {cs vs cs' : List Value} {off : Nat} (h1 : off + vs.length ≤ cs.length) (h2 : cs' = cs.take off ++ vs ++ cs.drop (off + vs.length)) : PutAt cs off vs cs' := ⟨h1, h2⟩
theorem PutAt.nil (cs : List Value) : PutAt cs 0 [] cs := ⟨by simp, by simp⟩
theorem PutAt.here {c v : Value} {cs vs cs' : List Value} (h : PutAt cs 0 vs cs') : PutAt (c :: cs) 0 (v :: vs) (v :: cs') := by
  obtain ⟨h1, h2⟩ := h
  refine ⟨by simp at h1 ⊢; omega, ?_⟩
  subst h2
  simp
theorem PutAt.there {c : Value} {cs vs cs' : List Value} {m : Nat} (h : PutAt cs m vs cs') : PutAt (c :: cs) (m + 1) vs (c :: cs') := by
  obtain ⟨h1, h2⟩ := h
  refine ⟨by simp; omega, ?_⟩
  subst h2
  simp [show m + 1 + vs.length = (m + vs.length) + 1 from by omega]

/-- a block of cells, not frozen -/
def blk (b T : Nat) (cs : List Value) : HProp := pt b (.cells cs.toArray T (0, 0))

/-- there is an x -/
def ex {α : Type} (p : α → HProp) : HProp := fun h => ∃ x, p x h

variable {w0 w : World} {L L' r : List HProp} {F : HProp}

theorem Sat.cell {b T : Nat} {cs : List Value} (s : Sat w0 L F w) (k : Pick L (blk b T cs) r) {o : Nat} {v : Value} (hv : cs[o]? = some v) :
    w.cell? ⟨b, o, Option.none⟩ = some v := by
  have := s.read k
  simp [World.cell?, this, hv]

theorem Sat.unfrozen {b T : Nat} {cs : List Value} (s : Sat w0 L F w) (k : Pick L (blk b T cs) r) (o : Nat) (sp : Option Nat) : w.frozen? ⟨b, o, sp⟩ = false := by
  have := s.read k
  simp [World.frozen?, this]

/-- every cell of a run of stores is written, whatever stood there -/
theorem Sat.stores {P : Program} {b T : Nat} : ∀ (vs : List Value) (cs : List Value) (off i : Nat) (L r : List HProp) (w : World), Sat w0 L F w → Pick L (blk b T cs) r →
    (∀ v ∈ vs, v.oneCell' = true) → off + i + vs.length ≤ cs.length →
    ∃ w', (storeCells ⟨b, off, Option.none⟩ vs i).run P w = .ok () w' ∧ Sat w0 (blk b T (cs.take (off + i) ++ vs ++ cs.drop (off + i + vs.length)) :: r) F w'
  | [], cs, off, i, L, r, w, s, k, _, _ => by
    refine ⟨w, by simp [storeCells], s.map fun h a => ?_⟩
    have := (k h).1 a
    simpa [seps] using this
  | v :: vs, cs, off, i, L, r, w, s, k, h1, hl => by
    have hlt : off + i < cs.length := by simp at hl; omega
    have ha : (⟨b, off, Option.none⟩ : Addr).add i = ⟨b, off + i, Option.none⟩ := by
      unfold Addr.add; split <;> simp_all
    have hc : w.cell? ⟨b, off + i, Option.none⟩ = some (cs[off + i]) := s.cell k (by simp [hlt])
    have hf : w.frozen? ⟨b, off + i, Option.none⟩ = false := s.unfrozen k _ _
    have hw' : (w.setCell ⟨b, off + i, Option.none⟩ v) = { w with heap := w.heap.setIfInBounds b (.cells (cs.set (off + i) v).toArray T (0, 0)) } := by
      have hr := s.read k
      have hlt' : b < w.heap.size := (Array.getElem?_eq_some_iff.1 hr).1
      have hval : w.heap[b] = .cells cs.toArray T (0, 0) := by
        have := Array.getElem?_eq_getElem hlt'
        rw [hr] at this; simpa using this.symm
      unfold World.setCell
      congr 1
      apply Array.ext
      · simp
      · intro j hj hj'
        rw [Array.getElem_modify, Array.getElem_setIfInBounds]
        · by_cases e : b = j
          · subst e; simp [hval]
          · simp [e]
        · simpa using hj
    have s' := s.write k (o' := .cells (cs.set (off + i) v).toArray T (0, 0))
    obtain ⟨w', hr', st'⟩ := Sat.stores (P := P) vs (cs.set (off + i) v) off (i + 1) _ _ _ s' Pick.head (fun x hx => h1 x (by simp [hx])) (by simp at hl ⊢; omega)
    refine ⟨w', ?_, ?_⟩
    · have h1v := h1 v (by simp)
      simp only [storeCells, Sem.run_bind, ha, run_store P w _ v .plain h1v, hc, hf, Bool.false_eq_true, if_false, Result.andThen_ok, hw', hr']
    · refine st'.map fun h a => ?_
      have e : (cs.set (off + i) v).take (off + (i + 1)) ++ vs ++ (cs.set (off + i) v).drop (off + (i + 1) + vs.length) = cs.take (off + i) ++ (v :: vs) ++ cs.drop (off + i + (v :: vs).length) := by
        rw [List.drop_set_of_lt (by omega), show off + (i + 1) = (off + i) + 1 from by omega, List.take_add_one, List.take_set_of_le (by omega)]
        simp [hlt, show off + i + 1 + vs.length = off + i + (vs.length + 1) from by omega]
      rw [e] at a
      exact a

theorem Sat.loads {P : Program} {b T : Nat} {cs vs : List Value} {off n : Nat} (s : Sat w0 L F w) (k : Pick L (blk b T cs) r) (h : Cut cs off n vs) :
    (loadCells ⟨b, off, Option.none⟩ n).run P w = .ok vs.toArray w := by
  obtain ⟨h1, h2⟩ := h
  subst h1
  refine run_loadCells_list w _ vs fun j v hj => ?_
  have ha : (⟨b, off, Option.none⟩ : Addr).add j = ⟨b, off + j, Option.none⟩ := by
    unfold Addr.add; split <;> simp_all
  rw [ha]
  exact s.cell k (h2 j v hj)

theorem run_eqPtr {P : Program} {t e : Nat} (he : P.underlying t = some (.pointer e)) {p q : Option Addr} (hn : p = none ∨ q = none) (w : World) :
    (Op.equal t (.pointer p) (.pointer q)).run P w = .ok (p.isNone && q.isNone) w := by
  show (Op.equalIn (9999 + 1) t (.pointer p) (.pointer q)).run P w = _
  generalize 9999 = m
  rcases hn with rfl | rfl
  · simp [Op.equalIn, run_und he]
  · cases p <;> simp [Op.equalIn, run_und he]
theorem run_eqSlice {P : Program} {t e : Nat} (he : P.underlying t = some (.slice e)) {p q : Option Addr} {i j i' j' : Nat} (hn : p = none ∨ q = none) (w : World) :
    (Op.equal t (.slice p i j) (.slice q i' j')).run P w = .ok (p.isNone && q.isNone) w := by
  show (Op.equalIn (9999 + 1) t (.slice p i j) (.slice q i' j')).run P w = _
  generalize 9999 = m
  cases p with
  | none => simp [Op.equalIn, run_und he]
  | some p =>
    rcases hn with h | rfl
    · cases h
    · simp [Op.equalIn, run_und he]
theorem run_eqMap {P : Program} {t e f : Nat} (he : P.underlying t = some (.map e f)) {p q : Option Nat} (hn : p = none ∨ q = none) (w : World) :
    (Op.equal t (.map p) (.map q)).run P w = .ok (p.isNone && q.isNone) w := by
  show (Op.equalIn (9999 + 1) t (.map p) (.map q)).run P w = _
  generalize 9999 = m
  cases p with
  | none => simp [Op.equalIn, run_und he]
  | some p =>
    rcases hn with h | rfl
    · cases h
    · simp [Op.equalIn, run_und he]

/-! pointers and slices against nil -/
section
variable {P : Program} {fid : Fm} {n : Nat} {post : Post} {k : List Item} {ρ ρ' : Env} {ops rest : List Oper} {g : Option (Nat × Bool)} {ty : TypeId} {pos : String} {af : Array Edge} {d : Nat} {sf : Option (List Bool × List HProp)}

theorem PV.move {dst : Option Nat} {x : Operand} {v : Value} (hx : ev ρ x = some v) : PV P n ρ ⟨dst, .move x, ty, pos, af, g⟩ v := fun a w gr => by simp [execOp, gr.eval hx]
theorem PV.assign {dst : Option Nat} {x : Operand} {v : Value} (hx : ev ρ x = some v) : PV P n ρ ⟨dst, .assign x, ty, pos, af, g⟩ v := fun a w gr => by simp [execOp, gr.eval hx]
theorem PV.pickT {dst : Option Nat} {c x y : Operand} {v : Value} (hc : ev ρ c = some (.bool true)) (hx : ev ρ x = some v) : PV P n ρ ⟨dst, .pick c x y, ty, pos, af, g⟩ (v) := fun a w gr => by simp [execOp, gr.eval hc, gr.eval hx, asBool]
theorem PV.pickF {dst : Option Nat} {c x y : Operand} {v : Value} (hc : ev ρ c = some (.bool false)) (hx : ev ρ y = some v) : PV P n ρ ⟨dst, .pick c x y, ty, pos, af, g⟩ (v) := fun a w gr => by simp [execOp, gr.eval hc, gr.eval hx, asBool]
theorem PV.notP {dst : Option Nat} {x : Operand} {p : Prop} [Decidable p] {t : TypeId} (hx : ev ρ x = some (.bool (decide p))) : PV P n ρ ⟨dst, .unOp .not t x, ty, pos, af, g⟩ (.bool (decide (¬ p))) := fun a w gr => by simp [execOp, gr.eval hx, Op.unary]
theorem PV.notB {dst : Option Nat} {x : Operand} {p : Bool} {t : TypeId} (hx : ev ρ x = some (.bool p)) : PV P n ρ ⟨dst, .unOp .not t x, ty, pos, af, g⟩ (.bool !p) := fun a w gr => by simp [execOp, gr.eval hx, Op.unary]
theorem PV.neg {dst : Option Nat} {x : Operand} {kd : IntKind} {i r : Int} {t : TypeId} (hx : ev ρ x = some (.int kd i)) (hr : kd.wrap (0 - i) = r) : PV P n ρ ⟨dst, .unOp .neg t x, ty, pos, af, g⟩ (.int kd r) := fun a w gr => by simp [execOp, gr.eval hx, Op.unary, Op.intArith, ← hr]
theorem PV.nilPtr {dst : Option Nat} {x : Operand} {a : Addr} (hx : ev ρ x = some (.pointer (some a))) : PV P n ρ ⟨dst, .nilCheck x, ty, pos, af, g⟩ (.pointer (some a)) := fun a w gr => by simp [execOp, gr.eval hx]
theorem PV.nilFun {dst : Option Nat} {x : Operand} {f : Nat} {fi cap : Array Value} (hx : ev ρ x = some (.func (.func f) fi cap)) : PV P n ρ ⟨dst, .nilCheck x, ty, pos, af, g⟩ (.func (.func f) fi cap) := fun a w gr => by simp [execOp, gr.eval hx]
/-! integers -/
theorem PV.add {dst : Option Nat} {x y : Operand} {kd : IntKind} {i j r : Int} {t u : TypeId} (hx : ev ρ x = some (.int kd i)) (hy : ev ρ y = some (.int kd j)) (hr : kd.wrap (i + j) = r) : PV P n ρ ⟨dst, .binOp .add t x y u, ty, pos, af, g⟩ (.int kd r) := fun a w gr => by simp [execOp, eqGuard, binOp, gr.eval hx, gr.eval hy, Op.intArith, hr]
theorem PV.sub {dst : Option Nat} {x y : Operand} {kd : IntKind} {i j r : Int} {t u : TypeId} (hx : ev ρ x = some (.int kd i)) (hy : ev ρ y = some (.int kd j)) (hr : kd.wrap (i - j) = r) : PV P n ρ ⟨dst, .binOp .sub t x y u, ty, pos, af, g⟩ (.int kd r) := fun a w gr => by simp [execOp, eqGuard, binOp, gr.eval hx, gr.eval hy, Op.intArith, hr]
theorem PV.mul {dst : Option Nat} {x y : Operand} {kd : IntKind} {i j r : Int} {t u : TypeId} (hx : ev ρ x = some (.int kd i)) (hy : ev ρ y = some (.int kd j)) (hr : kd.wrap (i * j) = r) : PV P n ρ ⟨dst, .binOp .mul t x y u, ty, pos, af, g⟩ (.int kd r) := fun a w gr => by simp [execOp, eqGuard, binOp, gr.eval hx, gr.eval hy, Op.intArith, hr]
theorem PV.quo {dst : Option Nat} {x y : Operand} {kd : IntKind} {i j r : Int} {t u : TypeId} (hx : ev ρ x = some (.int kd i)) (hy : ev ρ y = some (.int kd j)) (h0 : j ≠ 0) (hr : kd.wrap (i.tdiv j) = r) : PV P n ρ ⟨dst, .binOp .quo t x y u, ty, pos, af, g⟩ (.int kd r) := fun a w gr => by simp [execOp, eqGuard, binOp, gr.eval hx, gr.eval hy, Op.intDiv, hr, h0]
theorem PV.rem {dst : Option Nat} {x y : Operand} {kd : IntKind} {i j r : Int} {t u : TypeId} (hx : ev ρ x = some (.int kd i)) (hy : ev ρ y = some (.int kd j)) (h0 : j ≠ 0) (hr : i.tmod j = r) : PV P n ρ ⟨dst, .binOp .rem t x y u, ty, pos, af, g⟩ (.int kd r) := fun a w gr => by simp [execOp, eqGuard, binOp, gr.eval hx, gr.eval hy, Op.intDiv, hr, h0]
def andI (k : IntKind) (x y : Int) : Int := k.wrap (BitVec.ofInt k.bits x &&& BitVec.ofInt k.bits y).toNat
def orI (k : IntKind) (x y : Int) : Int := k.wrap (BitVec.ofInt k.bits x ||| BitVec.ofInt k.bits y).toNat
def xorI (k : IntKind) (x y : Int) : Int := k.wrap (BitVec.ofInt k.bits x ^^^ BitVec.ofInt k.bits y).toNat
def andNotI (k : IntKind) (x y : Int) : Int := k.wrap (BitVec.ofInt k.bits x &&& ~~~BitVec.ofInt k.bits y).toNat
def shlI (k : IntKind) (x y : Int) : Int := k.wrap (x * 2 ^ (min y.toNat k.bits))
def shrI (k : IntKind) (x y : Int) : Int := x.fdiv (2 ^ (min y.toNat k.bits))
theorem PV.and {dst : Option Nat} {x y : Operand} {kd : IntKind} {i j r : Int} {t u : TypeId} (hx : ev ρ x = some (.int kd i)) (hy : ev ρ y = some (.int kd j)) (hr : andI kd i j = r) : PV P n ρ ⟨dst, .binOp .and t x y u, ty, pos, af, g⟩ (.int kd r) := fun a w gr => by unfold andI at hr; simp [execOp, eqGuard, binOp, gr.eval hx, gr.eval hy, Op.intBits, ← hr]
theorem PV.or {dst : Option Nat} {x y : Operand} {kd : IntKind} {i j r : Int} {t u : TypeId} (hx : ev ρ x = some (.int kd i)) (hy : ev ρ y = some (.int kd j)) (hr : orI kd i j = r) : PV P n ρ ⟨dst, .binOp .or t x y u, ty, pos, af, g⟩ (.int kd r) := fun a w gr => by unfold orI at hr; simp [execOp, eqGuard, binOp, gr.eval hx, gr.eval hy, Op.intBits, ← hr]
theorem PV.xor {dst : Option Nat} {x y : Operand} {kd : IntKind} {i j r : Int} {t u : TypeId} (hx : ev ρ x = some (.int kd i)) (hy : ev ρ y = some (.int kd j)) (hr : xorI kd i j = r) : PV P n ρ ⟨dst, .binOp .xor t x y u, ty, pos, af, g⟩ (.int kd r) := fun a w gr => by unfold xorI at hr; simp [execOp, eqGuard, binOp, gr.eval hx, gr.eval hy, Op.intBits, ← hr]
theorem PV.shl {dst : Option Nat} {x y : Operand} {kd kd' : IntKind} {i j r : Int} {t u : TypeId} (hx : ev ρ x = some (.int kd i)) (hy : ev ρ y = some (.int kd' j)) (h0 : 0 ≤ j) (hr : shlI kd i j = r) : PV P n ρ ⟨dst, .binOp .shl t x y u, ty, pos, af, g⟩ (.int kd r) := fun a w gr => by unfold shlI at hr; simp [execOp, eqGuard, binOp, gr.eval hx, gr.eval hy, Op.shift, ← hr, show ¬ j < 0 from by omega]
theorem PV.shr {dst : Option Nat} {x y : Operand} {kd kd' : IntKind} {i j r : Int} {t u : TypeId} (hx : ev ρ x = some (.int kd i)) (hy : ev ρ y = some (.int kd' j)) (h0 : 0 ≤ j) (hr : shrI kd i j = r) : PV P n ρ ⟨dst, .binOp .shr t x y u, ty, pos, af, g⟩ (.int kd r) := fun a w gr => by unfold shrI at hr; simp [execOp, eqGuard, binOp, gr.eval hx, gr.eval hy, Op.shift, ← hr, show ¬ j < 0 from by omega]
theorem PV.eqI {dst : Option Nat} {x y : Operand} {kd : IntKind} {i j : Int} {t u : TypeId} (hx : ev ρ x = some (.int kd i)) (hy : ev ρ y = some (.int kd j)) : PV P n ρ ⟨dst, .binOp .eql t x y u, ty, pos, af, g⟩ (.bool (decide (i = j))) := fun a w gr => by simp [execOp, eqGuard, binOp, gr.eval hx, gr.eval hy, Op.intCmp]; rfl
theorem PV.neI {dst : Option Nat} {x y : Operand} {kd : IntKind} {i j : Int} {t u : TypeId} (hx : ev ρ x = some (.int kd i)) (hy : ev ρ y = some (.int kd j)) : PV P n ρ ⟨dst, .binOp .neq t x y u, ty, pos, af, g⟩ (.bool (decide (¬ i = j))) := fun a w gr => by simp [execOp, eqGuard, binOp, gr.eval hx, gr.eval hy, Op.intCmp, bne]; rfl
theorem PV.ltI {dst : Option Nat} {x y : Operand} {kd : IntKind} {i j : Int} {t u : TypeId} (hx : ev ρ x = some (.int kd i)) (hy : ev ρ y = some (.int kd j)) : PV P n ρ ⟨dst, .binOp .lss t x y u, ty, pos, af, g⟩ (.bool (decide (i < j))) := fun a w gr => by simp [execOp, eqGuard, binOp, gr.eval hx, gr.eval hy, Op.intCmp]
theorem PV.leI {dst : Option Nat} {x y : Operand} {kd : IntKind} {i j : Int} {t u : TypeId} (hx : ev ρ x = some (.int kd i)) (hy : ev ρ y = some (.int kd j)) : PV P n ρ ⟨dst, .binOp .leq t x y u, ty, pos, af, g⟩ (.bool (decide (i ≤ j))) := fun a w gr => by simp [execOp, eqGuard, binOp, gr.eval hx, gr.eval hy, Op.intCmp]
theorem PV.gtI {dst : Option Nat} {x y : Operand} {kd : IntKind} {i j : Int} {t u : TypeId} (hx : ev ρ x = some (.int kd i)) (hy : ev ρ y = some (.int kd j)) : PV P n ρ ⟨dst, .binOp .gtr t x y u, ty, pos, af, g⟩ (.bool (decide (j < i))) := fun a w gr => by simp [execOp, eqGuard, binOp, gr.eval hx, gr.eval hy, Op.intCmp]
theorem PV.geI {dst : Option Nat} {x y : Operand} {kd : IntKind} {i j : Int} {t u : TypeId} (hx : ev ρ x = some (.int kd i)) (hy : ev ρ y = some (.int kd j)) : PV P n ρ ⟨dst, .binOp .geq t x y u, ty, pos, af, g⟩ (.bool (decide (j ≤ i))) := fun a w gr => by simp [execOp, eqGuard, binOp, gr.eval hx, gr.eval hy, Op.intCmp]
theorem PV.toInt {dst : Option Nat} {x : Operand} {kd kd' : IntKind} {i r : Int} {s t : TypeId} (hx : ev ρ x = some (.int kd i)) (hs : ∃ e, P.underlying s = some e) (ht : P.underlying t = some (.int kd')) (hr : kd'.wrap i = r) : PV P n ρ ⟨dst, .convert s t x, ty, pos, af, g⟩ (.int kd' r) := fun a w gr => by
    obtain ⟨e, hs⟩ := hs
    simp [execOp, convert, gr.eval hx, run_und hs, run_und ht, Conv.intToInt, hr]
theorem PV.eqPN {dst : Option Nat} {x y : Operand} {p q : Option Addr} {t u : TypeId} [ht : TPt P t] (hx : ev ρ x = some (.pointer p)) (hy : ev ρ y = some (.pointer q)) (hn : p = none ∨ q = none) : PV P n ρ ⟨dst, .binOp .eql t x y u, ty, pos, af, g⟩ (.bool (p.isNone && q.isNone)) := fun a w gr => by
    obtain ⟨e, he⟩ := ht.und
    simp [execOp, eqGuard, binOp, gr.eval hx, gr.eval hy, run_eqPtr he hn]
theorem PV.nePN {dst : Option Nat} {x y : Operand} {p q : Option Addr} {t u : TypeId} [ht : TPt P t] (hx : ev ρ x = some (.pointer p)) (hy : ev ρ y = some (.pointer q)) (hn : p = none ∨ q = none) : PV P n ρ ⟨dst, .binOp .neq t x y u, ty, pos, af, g⟩ (.bool !(p.isNone && q.isNone)) := fun a w gr => by
    obtain ⟨e, he⟩ := ht.und
    simp [execOp, eqGuard, binOp, gr.eval hx, gr.eval hy, run_eqPtr he hn]
theorem PV.eqSN {dst : Option Nat} {x y : Operand} {p q : Option Addr} {i j i' j' : Nat} {t u e sz by_ : Nat} [ht : TSl P t e sz by_] (hx : ev ρ x = some (.slice p i j)) (hy : ev ρ y = some (.slice q i' j')) (hn : p = none ∨ q = none) : PV P n ρ ⟨dst, .binOp .eql t x y u, ty, pos, af, g⟩ (.bool (p.isNone && q.isNone)) := fun a w gr => by
    simp [execOp, eqGuard, binOp, gr.eval hx, gr.eval hy, run_eqSlice ht.und hn]
theorem PV.eqMN {dst : Option Nat} {x y : Operand} {p q : Option Nat} {t u e sz : Nat} [ht : TMp P t e sz] (hx : ev ρ x = some (.map p)) (hy : ev ρ y = some (.map q)) (hn : p = none ∨ q = none) : PV P n ρ ⟨dst, .binOp .eql t x y u, ty, pos, af, g⟩ (.bool (p.isNone && q.isNone)) := fun a w gr => by
    simp [execOp, eqGuard, binOp, gr.eval hx, gr.eval hy, run_eqMap ht.und hn]
def aggO (P : Program) (t : TypeId) : Option Bool := (P.underlying t).map fun d => match d with
  | .struct _ => true
  | .array _ _ => true
  | _ => false
def fieldInfo (P : Program) (s f : Nat) : Option (Nat × Option Nat × Option Bool) := match P.underlying s with
  | some (.struct fs) => (fs[f]?).map fun fl => (fl.offset, (P.info? fl.type).map (·.size), aggO P fl.type)
  | _ => none
/-- a field of a struct's value -/
class TFv (P : Program) (s f : Nat) (off sz : outParam Nat) (agg : outParam Bool) : Prop where
  info : fieldInfo P s f = some (off, some sz, some agg)
theorem TFv.run {P : Program} {s f off sz : Nat} {agg : Bool} (h : TFv P s f off sz agg) (vs : Array Value) (w : World) :
    (Instr.field s (.agg vs) f).run P w = (if agg then Go.Result.ok (.agg (vs.extract off (off + sz))) w else match vs[off]? with
    | some v => Go.Result.ok v w
    | none => Go.Result.halt (.stuck "part: no such cell") w) := by
  have hi := h.info
  unfold fieldInfo at hi
  cases hu : P.underlying s with
  | none => simp [hu] at hi
  | some d =>
    cases d <;> simp [hu] at hi
    rename_i fs
    obtain ⟨fl, hf, h1, ⟨i, h2, h3⟩, h4⟩ := hi
    have hag : (isAgg fl.type).run P w = Go.Result.ok agg w := by
      unfold aggO at h4
      cases hx : P.underlying fl.type with
      | none => simp [hx] at h4
      | some d =>
        simp only [hx, Option.map_some, Option.some.injEq] at h4
        simp only [isAgg, Sem.run_bind, run_und hx, Go.Result.andThen_ok]
        subst h4
        cases d <;> rfl
    have hsz : (Go.sizeOf fl.type).run P w = Go.Result.ok sz w := by
      simp [Go.sizeOf, typeInfo, h2, h3]
    simp only [Instr.field, Sem.run_bind, run_und hu, Go.Result.andThen_ok, hf]
    simp only [asAgg, Sem.run_bind, Sem.run_pure, Go.Result.andThen_ok, part, hag]
    cases agg
    · subst h1
      simp only [Bool.false_eq_true, if_false]
      cases vs[fl.offset]? <;> simp
    · subst h1
      simp [hsz]
theorem PV.field {dst : Option Nat} {x : Operand} {s f off sz : Nat} {vs : List Value} {v : Value} [ht : TFv P s f off sz false] (hx : ev ρ x = some (.agg vs.toArray)) (hv : nth vs off = some v) :
    PV P n ρ ⟨dst, .field s x f, ty, pos, af, g⟩ v := fun a w gr => by
  rw [nth_eq] at hv
  simp [execOp, gr.eval hx, ht.run, hv]
theorem PV.fieldA {dst : Option Nat} {x : Operand} {s f off sz : Nat} {vs us : List Value} [ht : TFv P s f off sz true] (hx : ev ρ x = some (.agg vs.toArray)) (hv : Cut vs off sz us) :
    PV P n ρ ⟨dst, .field s x f, ty, pos, af, g⟩ (.agg us.toArray) := fun a w gr => by
  have e : vs.toArray.extract off (off + sz) = us.toArray := by
    obtain ⟨h1, h2⟩ := hv
    subst h1
    apply Array.ext'
    simp only [List.extract_toArray, List.extract_eq_take_drop]
    apply List.ext_getElem?
    intro j
    by_cases hj : j < us.length
    · have := h2 j _ (List.getElem?_eq_getElem hj)
      simp [List.getElem?_take, hj, this]
    · simp [List.getElem?_take, hj, List.getElem?_eq_none (Nat.le_of_not_lt hj)]
  simp [execOp, gr.eval hx, ht.run, e]
/-- x[lo:hi], x[:hi], x[lo:] of a slice: 'sl' -/
def sl (p : Option Addr) (lo hi cap sz : Nat) : Value := .slice (if cap = lo then p else p.map (·.add (lo * sz))) (hi - lo) (cap - lo)
theorem PV.slice {dst : Option Nat} {x y z : Operand} {t e sz by_ len cap lo hi : Nat} {p : Option Addr} {kd kd' : IntKind} {i j : Int} [ht : TSl P t e sz by_]
    (hx : ev ρ x = some (.slice p len cap)) (hy : ev ρ y = some (.int kd i)) (hz : ev ρ z = some (.int kd' j)) (h1 : i = lo) (h2 : j = hi) (h3 : lo ≤ hi) (h4 : hi ≤ cap) :
    PV P n ρ ⟨dst, .slice t x (some y) (some z) none, ty, pos, af, g⟩ (sl p lo hi cap sz) := fun a w gr => by
  subst h1 h2
  simp [execOp, gr.eval hx, gr.eval hy, gr.eval hz, Instr.sliceAt, Instr.slice, run_und ht.und, Instr.sliceBounds, Instr.sliceBound, asIntOf, ht.size, sl, h4, h3]
theorem PV.sliceHi {dst : Option Nat} {x z : Operand} {t e sz by_ len cap hi : Nat} {p : Option Addr} {kd' : IntKind} {j : Int} [ht : TSl P t e sz by_]
    (hx : ev ρ x = some (.slice p len cap)) (hz : ev ρ z = some (.int kd' j)) (h2 : j = hi) (h4 : hi ≤ cap) :
    PV P n ρ ⟨dst, .slice t x none (some z) none, ty, pos, af, g⟩ (.slice p hi cap) := fun a w gr => by
  subst h2
  have e : (if cap = 0 then p else p.map fun x => x.add (0 * sz)) = p := by
    split
    · rfl
    · cases p <;> simp [Addr.add]
  simp [execOp, gr.eval hx, gr.eval hz, Instr.sliceAt, Instr.slice, run_und ht.und, Instr.sliceBounds, Instr.sliceBound, asIntOf, ht.size, h4] at e ⊢
  cases p <;> simp [Addr.add]
theorem PV.sliceLo {dst : Option Nat} {x y : Operand} {t e sz by_ len cap lo : Nat} {p : Option Addr} {kd : IntKind} {i : Int} [ht : TSl P t e sz by_]
    (hx : ev ρ x = some (.slice p len cap)) (hy : ev ρ y = some (.int kd i)) (h1 : i = lo) (h3 : lo ≤ len) :
    PV P n ρ ⟨dst, .slice t x (some y) none none, ty, pos, af, g⟩ (sl p lo len cap sz) := fun a w gr => by
  subst h1
  simp [execOp, gr.eval hx, gr.eval hy, Instr.sliceAt, Instr.slice, run_und ht.und, Instr.sliceBounds, Instr.sliceBound, asIntOf, ht.size, sl, h3]
theorem PV.minI {dst : Option Nat} {x y : Operand} {kd : IntKind} {i j r : Int} {tys : Array TypeId} (hx : ev ρ x = some (.int kd i)) (hy : ev ρ y = some (.int kd j)) (hr : min i j = r) :
    PV P n ρ ⟨dst, .call ⟨.builtin .min, [x, y].toArray, tys⟩, ty, pos, af, g⟩ (.int kd r) := fun a w gr => by
  have : (if j < i then j else i) = r := by rw [← hr]; split <;> omega
  simp [execOp, resolve, invoke, builtin, gr.eval hx, gr.eval hy, Builtin.min_, Builtin.min2, this]
theorem PV.maxI {dst : Option Nat} {x y : Operand} {kd : IntKind} {i j r : Int} {tys : Array TypeId} (hx : ev ρ x = some (.int kd i)) (hy : ev ρ y = some (.int kd j)) (hr : max i j = r) :
    PV P n ρ ⟨dst, .call ⟨.builtin .max, [x, y].toArray, tys⟩, ty, pos, af, g⟩ (.int kd r) := fun a w gr => by
  have : (if j > i then j else i) = r := by rw [← hr]; split <;> omega
  simp [execOp, resolve, invoke, builtin, gr.eval hx, gr.eval hy, Builtin.max_, Builtin.max2, this]

/-! memory -/
theorem TO.box {x : Operand} {v : Value} {e : Nat} {cs : List Value} (hw : wants ops ρ g = some true) (hd : Nat.blt d n = true) (hx : ev ρ x = some v) (hc : v.cells = cs.toArray)
    (h : ∀ b, TO P fid n post ops rest sf k ((d, .pointer (some ⟨b, 0, none⟩)) :: ρ) (blk b e cs :: L)) : TO P fid n post ops (⟨some d, .box e x, ty, pos, af, g⟩ :: rest) sf k ρ L :=
  TO.val hw hd fun w0 F a w gr st => ⟨.pointer (some ⟨w.heap.size, 0, none⟩), _, { w with heap := w.heap.push (.cells cs.toArray e) }, by
    simp [execOp, gr.eval hx, Instr.box, newVar, newRow, hc], st.new, h w.heap.size⟩
theorem TO.alloc {z : Value} {e : Nat} {cs : List Value} [hz : TZe P e z] (hw : wants ops ρ g = some true) (hd : Nat.blt d n = true) (hc : z.cells = cs.toArray)
    (h : ∀ b, TO P fid n post ops rest sf k ((d, .pointer (some ⟨b, 0, none⟩)) :: ρ) (blk b e cs :: L)) : TO P fid n post ops (⟨some d, .alloc e, ty, pos, af, g⟩ :: rest) sf k ρ L :=
  TO.val hw hd fun w0 F a w gr st => ⟨.pointer (some ⟨w.heap.size, 0, none⟩), _, { w with heap := w.heap.push (.cells cs.toArray e) }, by
    simp [execOp, Instr.alloc, hz.run, newVar, newRow, hc], st.new, h w.heap.size⟩

theorem TO.load {x : Operand} {t b off T : Nat} {cs : List Value} {v : Value} [ht : TSc P t] (hw : wants ops ρ g = some true) (hd : Nat.blt d n = true) (hx : ev ρ x = some (.pointer (some ⟨b, off, none⟩)))
    (hp : Pick L (blk b T cs) r) (hv : nth cs off = some v) (h : TO P fid n post ops rest sf k ((d, v) :: ρ) L) : TO P fid n post ops (⟨some d, .load t x, ty, pos, af, g⟩ :: rest) sf k ρ L :=
  TO.val hw hd fun w0 F a w gr st => ⟨v, L, w, by
    have hc := st.cell hp (o := off) (v := v) (by rw [← nth_eq]; exact hv)
    simp [execOp, gr.eval hx, Instr.loadAt, Instr.sureAddr, loadVar, (ht.run w).1, hc], st, h⟩
theorem TO.loadA {x : Operand} {t b off T sz : Nat} {cs vs : List Value} [ht : TAg P t sz] (hw : wants ops ρ g = some true) (hd : Nat.blt d n = true) (hx : ev ρ x = some (.pointer (some ⟨b, off, none⟩)))
    (hp : Pick L (blk b T cs) r) (hv : Cut cs off sz vs) (h : TO P fid n post ops rest sf k ((d, .agg vs.toArray) :: ρ) L) : TO P fid n post ops (⟨some d, .load t x, ty, pos, af, g⟩ :: rest) sf k ρ L :=
  TO.val hw hd fun w0 F a w gr st => ⟨.agg vs.toArray, L, w, by
    simp [execOp, gr.eval hx, Instr.loadAt, Instr.sureAddr, loadVar, (ht.run w).1, (ht.run w).2, st.loads hp hv], st, h⟩

/-- a load in a region that draws its order: its chunk is only read from now on -/
theorem TD.frz {ls : List Bool} {R : List HProp} {i d' t b off T : Nat} {x : Operand} {cs : List Value} (hi : firstLoad ls ops 0 = some i) (ho : nth ops i = some ⟨some d', .load t x, ty, pos, af, g⟩)
    (hx : ev ρ x = some (.pointer (some ⟨b, off, none⟩))) (hp : Pick L (blk b T cs) r) (h : TD P fid n post ops ls (blk b T cs :: R) k ρ r) : TD P fid n post ops ls R k ρ L := TD.freeze hp h
theorem TD.loadC {ls ls' : List Bool} {R : List HProp} {i d' t b off T : Nat} {x : Operand} {cs : List Value} {v : Value} (hi : firstLoad ls ops 0 = some i) (ho : nth ops i = some ⟨some d', .load t x, ty, pos, af, g⟩) (ht : TSc P t)
    (hw : wants ops ρ g = some true) (hd : Nat.blt d' n = true) (hok : firstOk ops ls i d' ⟨some d', .load t x, ty, pos, af, g⟩ ops 0 = true) (hcl : closedB ls ops 0 = true)
    (hx : ev ρ x = some (.pointer (some ⟨b, off, none⟩))) (hp : Pick R (blk b T cs) r) (hv : nth cs off = some v) (hl : setB ls i = ls')
    (h : TD P fid n post ops ls' R k ((d', v) :: ρ) L) : TD P fid n post ops ls R k ρ L :=
  TD.load hi ho hw hd hok hcl hp (fun w0 F a w gr st => by
    have hc := st.cell Pick.head (o := off) (v := v) (by rw [← nth_eq]; exact hv)
    simp [execOp, gr.eval hx, Instr.loadAt, Instr.sureAddr, loadVar, (ht.run w).1, hc]) hl h
theorem TD.loadCA {ls ls' : List Bool} {R : List HProp} {i d' t b off T sz : Nat} {x : Operand} {cs vs : List Value} (hi : firstLoad ls ops 0 = some i) (ho : nth ops i = some ⟨some d', .load t x, ty, pos, af, g⟩) (ht : TAg P t sz)
    (hw : wants ops ρ g = some true) (hd : Nat.blt d' n = true) (hok : firstOk ops ls i d' ⟨some d', .load t x, ty, pos, af, g⟩ ops 0 = true) (hcl : closedB ls ops 0 = true)
    (hx : ev ρ x = some (.pointer (some ⟨b, off, none⟩))) (hp : Pick R (blk b T cs) r) (hv : Cut cs off sz vs) (hl : setB ls i = ls')
    (h : TD P fid n post ops ls' R k ((d', .agg vs.toArray) :: ρ) L) : TD P fid n post ops ls R k ρ L :=
  TD.load hi ho hw hd hok hcl hp (fun w0 F a w gr st => by
    have hl := st.loads (P := P) Pick.head hv
    simp [execOp, gr.eval hx, Instr.loadAt, Instr.sureAddr, loadVar, (ht.run w).1, (ht.run w).2, hl]) hl h
theorem TD.thaw1 {ls : List Bool} {R : List HProp} {c : HProp} {i : Nat} (he : enab ls ops 0 = [i]) (hl : isLate ops i = true) (hcl : closedB ls ops 0 = true) (h : TD P fid n post ops ls [] k ρ (L ++ c :: R)) : TD P fid n post ops ls (c :: R) k ρ L := TD.thaw he hl hcl h

theorem TO.store {x y : Operand} {t b off T : Nat} {cs cs' : List Value} {v : Value} [ht : TSc P t] (hw : wants ops ρ g = some true) (hx : ev ρ x = some (.pointer (some ⟨b, off, none⟩)))
    (hy : ev ρ y = some v) (h1 : v.oneCell' = true) (hp : Pick L (blk b T cs) r) (hv : PutAt cs off [v] cs') (h : TO P fid n post ops rest sf k ρ (blk b T cs' :: r)) :
    TO P fid n post ops (⟨none, .store t x y, ty, pos, af, g⟩ :: rest) sf k ρ L :=
  TO.unit hw rfl fun w0 F a w gr st => by
    have hcs : v.cells = #[v] := by cases v <;> simp_all [Value.cells, Value.oneCell']
    obtain ⟨w', hr, st'⟩ := Sat.stores (P := P) [v] cs off 0 L r w st hp (by simpa using h1) hv.1
    refine ⟨_, w', ?_, st', ?_⟩
    · simp [execOp, gr.eval hx, gr.eval hy, Instr.storeAt, Instr.sureAddr, storeVar, hcs, (ht.run w).2, hr]
    · have := hv.2
      simp only [Nat.add_zero]
      rw [← this]; exact h
theorem TO.storeA {x y : Operand} {t b off T sz : Nat} {cs cs' vs : List Value} [ht : TAg P t sz] (hw : wants ops ρ g = some true) (hx : ev ρ x = some (.pointer (some ⟨b, off, none⟩)))
    (hy : ev ρ y = some (.agg vs.toArray)) (hl : vs.length = sz) (h1 : vs.all (·.oneCell') = true) (hp : Pick L (blk b T cs) r) (hv : PutAt cs off vs cs') (h : TO P fid n post ops rest sf k ρ (blk b T cs' :: r)) :
    TO P fid n post ops (⟨none, .store t x y, ty, pos, af, g⟩ :: rest) sf k ρ L :=
  TO.unit hw rfl fun w0 F a w gr st => by
    obtain ⟨w', hr, st'⟩ := Sat.stores (P := P) vs cs off 0 L r w st hp (by simpa using h1) hv.1
    refine ⟨_, w', ?_, st', ?_⟩
    · simp [execOp, gr.eval hx, gr.eval hy, Instr.storeAt, Instr.sureAddr, storeVar, Value.cells, (ht.run w).2, hl, hr]
    · have := hv.2
      simp only [Nat.add_zero]
      rw [← this]; exact h
theorem PV.fieldAddr {dst : Option Nat} {x : Operand} {s f b o off o' : Nat} [ht : TFa P s f off] (hx : ev ρ x = some (.pointer (some ⟨b, o, none⟩))) (ho : o' = o + off) : PV P n ρ ⟨dst, .fieldAddr s x f, ty, pos, af, g⟩ (.pointer (some ⟨b, o', none⟩)) := fun a w gr => by subst ho; simp [execOp, gr.eval hx, ht.run]
theorem PV.indexAddr {dst : Option Nat} {x y : Operand} {t e sz by_ b o len cap i' o' : Nat} {i : Int} {kd : IntKind} [ht : TSl P t e sz by_]
    (hx : ev ρ x = some (.slice (some ⟨b, o, none⟩) len cap)) (hy : ev ρ y = some (.int kd i)) (hi : i = (i' : Int)) (hb : i' < len) (ho : o' = o + i' * sz) :
    PV P n ρ ⟨dst, .indexAddr t x y, ty, pos, af, g⟩ (.pointer (some ⟨b, o', none⟩)) := fun a w gr => by
  subst hi ho
  have ha : (⟨b, o, Option.none⟩ : Addr).add (i' * sz) = ⟨b, o + i' * sz, Option.none⟩ := by
    unfold Addr.add; split <;> simp_all
  simp [execOp, gr.eval hx, gr.eval hy, Instr.indexAt, asIntOf, run_und ht.und, hb, ht.size, ha]
theorem sl_in {b o lo hi cap sz : Nat} (h : lo < cap) : sl (some ⟨b, o, none⟩) lo hi cap sz = .slice (some ⟨b, o + lo * sz, none⟩) (hi - lo) (cap - lo) := by
  unfold sl
  rw [if_neg (by omega)]
  have ha : (⟨b, o, Option.none⟩ : Addr).add (lo * sz) = ⟨b, o + lo * sz, Option.none⟩ := by
    unfold Addr.add; split <;> simp_all
  simp [ha]
theorem PV.sliceIn {dst : Option Nat} {x y z : Operand} {t e sz by_ len cap lo hi b o o' m c : Nat} {kd kd' : IntKind} {i j : Int} [ht : TSl P t e sz by_]
    (hx : ev ρ x = some (.slice (some ⟨b, o, none⟩) len cap)) (hy : ev ρ y = some (.int kd i)) (hz : ev ρ z = some (.int kd' j)) (h1 : i = lo) (h2 : j = hi) (h3 : lo ≤ hi) (h4 : hi ≤ cap) (h5 : lo < cap) (ho : o' = o + lo * sz) (hm : m = hi - lo) (hc : c = cap - lo) :
    PV P n ρ ⟨dst, .slice t x (some y) (some z) none, ty, pos, af, g⟩ (.slice (some ⟨b, o', none⟩) m c) := by
  subst ho hm hc
  have := PV.slice (P := P) (n := n) (ty := ty) (pos := pos) (af := af) (g := g) (dst := dst) (ht := ht) hx hy hz h1 h2 h3 h4
  rwa [sl_in h5] at this
theorem PV.sliceLoIn {dst : Option Nat} {x y : Operand} {t e sz by_ len cap lo b o o' m c : Nat} {kd : IntKind} {i : Int} [ht : TSl P t e sz by_]
    (hx : ev ρ x = some (.slice (some ⟨b, o, none⟩) len cap)) (hy : ev ρ y = some (.int kd i)) (h1 : i = lo) (h3 : lo ≤ len) (h5 : lo < cap) (ho : o' = o + lo * sz) (hm : m = len - lo) (hc : c = cap - lo) :
    PV P n ρ ⟨dst, .slice t x (some y) none none, ty, pos, af, g⟩ (.slice (some ⟨b, o', none⟩) m c) := by
  subst ho hm hc
  have := PV.sliceLo (P := P) (n := n) (ty := ty) (pos := pos) (af := af) (g := g) (dst := dst) (ht := ht) hx hy h1 h3
  rwa [sl_in h5] at this
theorem PV.slice3 {dst : Option Nat} {x y z u : Operand} {t e sz by_ len cap lo hi mx : Nat} {p : Option Addr} {kd kd' kd'' : IntKind} {i j q : Int} [ht : TSl P t e sz by_]
    (hx : ev ρ x = some (.slice p len cap)) (hy : ev ρ y = some (.int kd i)) (hz : ev ρ z = some (.int kd' j)) (hu : ev ρ u = some (.int kd'' q)) (h1 : i = lo) (h2 : j = hi) (h3 : q = mx) (h4 : lo ≤ hi) (h5 : hi ≤ mx) (h6 : mx ≤ cap) :
    PV P n ρ ⟨dst, .slice t x (some y) (some z) (some u), ty, pos, af, g⟩ (sl p lo hi mx sz) := fun a w gr => by
  subst h1 h2 h3
  simp [execOp, gr.eval hx, gr.eval hy, gr.eval hz, gr.eval hu, Instr.sliceAt, Instr.slice, run_und ht.und, Instr.sliceBounds, Instr.sliceBound, asIntOf, ht.size, sl, h4, h5, h6]
theorem PV.len {dst : Option Nat} {x : Operand} {t e sz by_ len cap : Nat} {p : Option Addr} [ht : TSl P t e sz by_] (hx : ev ρ x = some (.slice p len cap)) : PV P n ρ ⟨dst, .call ⟨.builtin .len, [x].toArray, [t].toArray⟩, ty, pos, af, g⟩ (.int .i64 len) := fun a w gr => by simp [execOp, resolve, invoke, builtin, gr.eval hx, Builtin.len_, run_und ht.und, goInt]
theorem TO.lenMap {x : Operand} {t kt e m clock : Nat} {es : Array MapEntry} [ht : TMp P t kt e] (hw : wants ops ρ g = some true) (hd : Nat.blt d n = true)
    (hx : ev ρ x = some (.map (some m))) (hp : Pick L (pt m (.map es clock)) r) (h : TO P fid n post ops rest sf k ((d, .int .i64 es.size) :: ρ) L) : TO P fid n post ops (⟨some d, .call ⟨.builtin .len, [x].toArray, [t].toArray⟩, ty, pos, af, g⟩ :: rest) sf k ρ L :=
  TO.val hw hd fun w0 F a w gr st => ⟨.int .i64 es.size, L, w, by
    have := st.read hp
    simp [execOp, resolve, invoke, builtin, gr.eval hx, Builtin.len_, run_und ht.und, goInt, getObj, Sem.run, this], st, h⟩
theorem PV.extract {dst : Option Nat} {x : Operand} {i : Nat} {vs : List Value} {v : Value} (hx : ev ρ x = some (.tuple vs.toArray)) (hv : nth vs i = some v) : PV P n ρ ⟨dst, .extract x i, ty, pos, af, g⟩ (v) := fun a w gr => by rw [nth_eq] at hv; simp [execOp, gr.eval hx, Instr.extract, hv]
theorem PV.makeFunc {dst : Option Nat} {f : Nat} {fi cap : List Operand} {vf vc : List Value} (hf : EvAll ρ fi vf) (hc : EvAll ρ cap vc) : PV P n ρ ⟨dst, .makeFunc (.func f) fi.toArray cap.toArray, ty, pos, af, g⟩ (.func (.func f) vf.toArray vc.toArray) := fun a w gr => by simp [execOp, Instr.makeFunc, EvAll.map gr hf, EvAll.map gr hc]
end

theorem nc1 (k : Nat) : (k : Int) + 1 = ((k + 1 : Nat) : Int) := by omega
theorem nc2 (a b : Nat) : (a : Int) + (b : Int) = ((a + b : Nat) : Int) := by omega
theorem nc3 (a b : Nat) : (a : Int) * (b : Int) = ((a * b : Nat) : Int) := by simp
theorem nc4 (a b : Nat) : (a : Int) / (b : Int) = ((a / b : Nat) : Int) := by simp
theorem nc8 (a : Nat) : (a : Int) / 8 = ((a / 8 : Nat) : Int) := by omega
theorem nc5 (a b : Nat) : (a : Int) + (b : Int) + 1 = ((a + (b + 1) : Nat) : Int) := by omega
theorem nc6 (a b : Nat) : (a : Int) + ((b : Int) + 1) = ((a + (b + 1) : Nat) : Int) := by omega
theorem int_eq {k : IntKind} {a b : Int} (h : a = b) : Value.int k a = Value.int k b := by rw [h]
theorem wrap_i64 {n : Int} (h : -9223372036854775808 ≤ n ∧ n ≤ 9223372036854775807) : IntKind.i64.wrap n = n := IntWalk.i64_in n h
theorem wrap_u64 {n : Int} (h : 0 ≤ n ∧ n ≤ 18446744073709551615) : IntKind.u64.wrap n = n := IntWalk.u64_in n h
theorem wrap_u32 {n : Int} (h : 0 ≤ n ∧ n ≤ 4294967295) : IntKind.u32.wrap n = n := IntWalk.u32_in n h
theorem wrap_u8 {n : Int} (h : 0 ≤ n ∧ n ≤ 255) : IntKind.u8.wrap n = n := IntWalk.u8_in n h
theorem quo_i64 {x y : Int} (h : 0 ≤ x ∧ x ≤ 9223372036854775807 ∧ 1 ≤ y) : IntKind.i64.wrap (x.tdiv y) = x / y := IntWalk.i64_quo x y h
theorem rem_nn {x y : Int} (h : 0 ≤ x) : x.tmod y = x % y := Int.tmod_eq_emod_of_nonneg h
theorem wrap_i32 {n : Int} (h : -2147483648 ≤ n ∧ n ≤ 2147483647) : IntKind.i32.wrap n = n := IntWalk.i32_in n h
end SL
