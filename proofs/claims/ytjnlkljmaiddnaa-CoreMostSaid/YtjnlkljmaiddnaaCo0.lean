/-
  Rules that decide a comparison.
-/
import Derived.Test.YtjnlkljmaiddnaaSl17
set_option linter.unusedVariables false
set_option linter.unusedSimpArgs false
namespace SL
open Go
section
variable {P : Program} {n : Nat} {ρ : Env} {ty : TypeId} {pos : String} {af : Array Edge} {g : Option (Nat × Bool)}
theorem PV.gtIT {dst : Option Nat} {x y : Operand} {kd : IntKind} {i j : Int} {t u : TypeId} (hx : ev ρ x = some (.int kd i)) (hy : ev ρ y = some (.int kd j)) (h : j < i) : PV P n ρ ⟨dst, .binOp .gtr t x y u, ty, pos, af, g⟩ (.bool true) := by
  have := PV.gtI (P := P) (n := n) (dst := dst) (t := t) (u := u) (ty := ty) (pos := pos) (af := af) (g := g) hx hy
  simpa [h] using this
theorem PV.gtIF {dst : Option Nat} {x y : Operand} {kd : IntKind} {i j : Int} {t u : TypeId} (hx : ev ρ x = some (.int kd i)) (hy : ev ρ y = some (.int kd j)) (h : ¬ j < i) : PV P n ρ ⟨dst, .binOp .gtr t x y u, ty, pos, af, g⟩ (.bool false) := by
  have := PV.gtI (P := P) (n := n) (dst := dst) (t := t) (u := u) (ty := ty) (pos := pos) (af := af) (g := g) hx hy
  simpa [h] using this
theorem PV.eqIT {dst : Option Nat} {x y : Operand} {kd : IntKind} {i j : Int} {t u : TypeId} (hx : ev ρ x = some (.int kd i)) (hy : ev ρ y = some (.int kd j)) (h : i = j) : PV P n ρ ⟨dst, .binOp .eql t x y u, ty, pos, af, g⟩ (.bool true) := by
  have := PV.eqI (P := P) (n := n) (dst := dst) (t := t) (u := u) (ty := ty) (pos := pos) (af := af) (g := g) hx hy
  simpa [h] using this
theorem PV.eqIF {dst : Option Nat} {x y : Operand} {kd : IntKind} {i j : Int} {t u : TypeId} (hx : ev ρ x = some (.int kd i)) (hy : ev ρ y = some (.int kd j)) (h : ¬ i = j) : PV P n ρ ⟨dst, .binOp .eql t x y u, ty, pos, af, g⟩ (.bool false) := by
  have := PV.eqI (P := P) (n := n) (dst := dst) (t := t) (u := u) (ty := ty) (pos := pos) (af := af) (g := g) hx hy
  simpa [h] using this
theorem PV.neIT {dst : Option Nat} {x y : Operand} {kd : IntKind} {i j : Int} {t u : TypeId} (hx : ev ρ x = some (.int kd i)) (hy : ev ρ y = some (.int kd j)) (h : ¬ i = j) : PV P n ρ ⟨dst, .binOp .neq t x y u, ty, pos, af, g⟩ (.bool true) := by
  have := PV.neI (P := P) (n := n) (dst := dst) (t := t) (u := u) (ty := ty) (pos := pos) (af := af) (g := g) hx hy
  simpa [h] using this
theorem PV.neIF {dst : Option Nat} {x y : Operand} {kd : IntKind} {i j : Int} {t u : TypeId} (hx : ev ρ x = some (.int kd i)) (hy : ev ρ y = some (.int kd j)) (h : i = j) : PV P n ρ ⟨dst, .binOp .neq t x y u, ty, pos, af, g⟩ (.bool false) := by
  have := PV.neI (P := P) (n := n) (dst := dst) (t := t) (u := u) (ty := ty) (pos := pos) (af := af) (g := g) hx hy
  simpa [h] using this
theorem PV.geIT {dst : Option Nat} {x y : Operand} {kd : IntKind} {i j : Int} {t u : TypeId} (hx : ev ρ x = some (.int kd i)) (hy : ev ρ y = some (.int kd j)) (h : j ≤ i) : PV P n ρ ⟨dst, .binOp .geq t x y u, ty, pos, af, g⟩ (.bool true) := by
  have := PV.geI (P := P) (n := n) (dst := dst) (t := t) (u := u) (ty := ty) (pos := pos) (af := af) (g := g) hx hy
  simpa [h] using this
theorem PV.geIF {dst : Option Nat} {x y : Operand} {kd : IntKind} {i j : Int} {t u : TypeId} (hx : ev ρ x = some (.int kd i)) (hy : ev ρ y = some (.int kd j)) (h : ¬ j ≤ i) : PV P n ρ ⟨dst, .binOp .geq t x y u, ty, pos, af, g⟩ (.bool false) := by
  have := PV.geI (P := P) (n := n) (dst := dst) (t := t) (u := u) (ty := ty) (pos := pos) (af := af) (g := g) hx hy
  simpa [h] using this
theorem PV.ltIT {dst : Option Nat} {x y : Operand} {kd : IntKind} {i j : Int} {t u : TypeId} (hx : ev ρ x = some (.int kd i)) (hy : ev ρ y = some (.int kd j)) (h : i < j) : PV P n ρ ⟨dst, .binOp .lss t x y u, ty, pos, af, g⟩ (.bool true) := by
  have := PV.ltI (P := P) (n := n) (dst := dst) (t := t) (u := u) (ty := ty) (pos := pos) (af := af) (g := g) hx hy
  simpa [h] using this
theorem PV.ltIF {dst : Option Nat} {x y : Operand} {kd : IntKind} {i j : Int} {t u : TypeId} (hx : ev ρ x = some (.int kd i)) (hy : ev ρ y = some (.int kd j)) (h : ¬ i < j) : PV P n ρ ⟨dst, .binOp .lss t x y u, ty, pos, af, g⟩ (.bool false) := by
  have := PV.ltI (P := P) (n := n) (dst := dst) (t := t) (u := u) (ty := ty) (pos := pos) (af := af) (g := g) hx hy
  simpa [h] using this
theorem PV.neBX {dst : Option Nat} {x y : Operand} {a b : Bool} {t u : TypeId} [ht : TBo P t] (hx : ev ρ x = some (.bool a)) (hy : ev ρ y = some (.bool b)) : PV P n ρ ⟨dst, .binOp .neq t x y u, ty, pos, af, g⟩ (.bool (Bool.xor a b)) := by
  have := PV.neB (P := P) (n := n) (dst := dst) (t := t) (u := u) (ty := ty) (pos := pos) (af := af) (g := g) hx hy
  have e : decide (¬ a = b) = Bool.xor a b := by cases a <;> cases b <;> rfl
  rwa [e] at this
theorem PV.leIT {dst : Option Nat} {x y : Operand} {kd : IntKind} {i j : Int} {t u : TypeId} (hx : ev ρ x = some (.int kd i)) (hy : ev ρ y = some (.int kd j)) (h : i ≤ j) : PV P n ρ ⟨dst, .binOp .leq t x y u, ty, pos, af, g⟩ (.bool true) := by
  have := PV.leI (P := P) (n := n) (dst := dst) (t := t) (u := u) (ty := ty) (pos := pos) (af := af) (g := g) hx hy
  simpa [h] using this
theorem PV.leIF {dst : Option Nat} {x y : Operand} {kd : IntKind} {i j : Int} {t u : TypeId} (hx : ev ρ x = some (.int kd i)) (hy : ev ρ y = some (.int kd j)) (h : ¬ i ≤ j) : PV P n ρ ⟨dst, .binOp .leq t x y u, ty, pos, af, g⟩ (.bool false) := by
  have := PV.leI (P := P) (n := n) (dst := dst) (t := t) (u := u) (ty := ty) (pos := pos) (af := af) (g := g) hx hy
  simpa [h] using this
end
section
variable {P : Program} {fid : Fm} {n : Nat} {post : Post} {k : List Item} {ρ : Env} {L R : List HProp} {ops : List Oper} {ls : List Bool}
theorem TK.atG {id : Nat} {o : Array Oper} {dr : Bool} {kk : List Item} (h : TK P fid n post (.code (.region id o dr) :: kk) ρ L) : TK P fid n post (.code (.region id o dr) :: kk) ρ L := h
theorem TD.slot {d : Nat} {v v' : Value} (h : look d ρ = some v) (e : v = v') (ht : TD P fid n post ops ls R k ((d, v') :: ρ) L) : TD P fid n post ops ls R k ρ L := by
  subst e
  have hs : Sub ρ ((d, v) :: ρ) := Sub.cons h rfl (Sub.refl ρ)
  intro w0 F a w s gr st hsf
  exact ht w0 F a w s (gr.sub hs) st hsf
end
end SL
