/-
  Calls that leave all as it was, also where chunks are frozen.
-/
import Derived.Test.YtjnlkljmaiddnaaSl15
set_option linter.unusedVariables false
set_option linter.unusedSimpArgs false
namespace SL
open Go

/-- l is pre and rest, and pre and rest are l -/
def FrmB (l pre rest : List HProp) : Prop := ∀ h, seps l h ↔ sep (seps pre) (seps rest) h
theorem FrmB.nil {l : List HProp} : FrmB l [] l := fun _ => ⟨fun a => sep_emp.2 a, fun a => sep_emp.1 a⟩
theorem FrmB.cons {l l' rest pre : List HProp} {p : HProp} (k : Pick l p l') (f : FrmB l' pre rest) : FrmB l (p :: pre) rest := fun h =>
  ⟨fun a => sep_assoc.2 (sep_mono (fun _ x => x) (fun _ x => (f _).1 x) ((k h).1 a)), fun a => (k h).2 (sep_mono (fun _ x => x) (fun _ x => (f _).2 x) (sep_assoc.1 a))⟩

section
variable {P : Program} {fid : Fm} {n : Nat} {post : Post} {k : List Item} {ρ : Env} {L r R : List HProp} {ls : List Bool} {ops rest : List Oper} {ty : TypeId} {pos : String} {af : Array Edge} {g : Option (Nat × Bool)}
/-- a call, in a region whose order is drawn, of a function that only reads: what is frozen may be read -/
theorem TO.callQ {f d : Nat} {ce : Callee} {xs : List Operand} {tys : Array TypeId} {args vs first cap : List Value} {fv : Operand} {pre rst : List HProp} {v0 : Value} (hs : Spec P f args pre (fun r L => r = v0 ∧ L = pre))
    (hce : ce = .value fv) (hfv : ev ρ fv = some (.func (.func f) first.toArray cap.toArray)) (hw : wants ops ρ g = some true) (hd : Nat.blt d n = true) (he : EvAll ρ xs vs) (ha : args = first ++ vs ++ cap)
    (hfr : FrmB (L ++ R) pre rst) (h : TO P fid n post ops rest (some (ls, R)) k ((d, v0) :: ρ) L) :
    TO P fid n post ops (⟨some d, .call ⟨ce, xs.toArray, tys⟩, ty, pos, af, g⟩ :: rest) (some (ls, R)) k ρ L := by
  intro w0 F a w is s gr st hi hsf
  obtain ⟨i, is', rfl, ho, hi'⟩ := idx_cons hi
  have hrun : (execOp a.eval (⟨some d, .call ⟨ce, xs.toArray, tys⟩, ty, pos, af, g⟩ : Oper)).run P w = .ok (.enter f args.toArray) w := by
    have e1 := gr.eval hfv
    have e2 := EvAll.map gr he
    subst hce
    subst ha
    simp only [execOp, resolve, Sem.run_bind, List.map_toArray, e1, e2, Deferred.ofValue, Sem.run_pure, Result.andThen_ok, invoke]
    rw [hs.callable]
    simp
  have hwt := wanted_eq (o := (⟨some d, .call ⟨ce, xs.toArray, tys⟩, ty, pos, af, g⟩ : Oper)) gr hw
  simp only [List.cons_append, wpI, ho, hwt, if_true]
  simp only [upS, hrun]
  have s1 : Sat w0 (L ++ R) F w := Sat.unframe st
  have s2 : Sat w0 pre (sep (seps rst) F) w := s1.frame (fun h a => (hfr h).1 a)
  refine (hs.runs w0 (sep (seps rst) F) w s2).mono ?_
  rintro e w1 ⟨v, L1, rfl, ⟨rfl, rfl⟩, st1⟩
  have s3 : Sat w0 (L ++ R) F w1 := (st1.unframe).map fun h a => (hfr h).2 (seps_append.1 a)
  have s4 : Sat w0 L (frF (some (ls, R)) F) w1 := s3.frame (fun h a => seps_append.1 a)
  exact ⟨_, rfl, fun _ => ⟨_, s4⟩, h w0 F _ w1 is' s (gr.putE (d := some d) hd _) s4 hi' hsf⟩
theorem W.callVQ {f d : Nat} {xs : List Operand} {tys : Array TypeId} {vs cap : List Value} {fv : Operand} {pre rst : List HProp} {v0 : Value} (hs : Spec P f (vs ++ cap) pre (fun r L => r = v0 ∧ L = pre)) (h : TO P fid n post ops rest (some (ls, R)) k ((d, v0) :: ρ) L)
    (hfv : ev ρ fv = some (.func (.func f) #[] cap.toArray) := by rfl) (hw : wants ops ρ g = some true := by rfl) (hd : Nat.blt d n = true := by rfl) (he : EvAll ρ xs vs := by first | ((repeat (first | exact SL.EvAll.nil | (apply SL.EvAll.cons; rfl))); done) | fail) (hfr : FrmB (L ++ R) pre rst := by first | ((repeat (first | exact SL.FrmB.nil | (apply SL.FrmB.cons; repeat (first | exact SL.Pick.head | apply SL.Pick.tail)))); done) | fail) :
    TO P fid n post ops (⟨some d, .call ⟨.value fv, xs.toArray, tys⟩, ty, pos, af, g⟩ :: rest) (some (ls, R)) k ρ L := TO.callQ (first := []) hs rfl hfv hw hd he (by simp) hfr h
theorem W.callQ {f d : Nat} {xs : List Operand} {tys : Array TypeId} {vs : List Value} {pre rst : List HProp} {v0 : Value} (hs : Spec P f vs pre (fun r L => r = v0 ∧ L = pre)) (h : TO P fid n post ops rest (some (ls, R)) k ((d, v0) :: ρ) L)
    (hw : wants ops ρ g = some true := by rfl) (hd : Nat.blt d n = true := by rfl) (he : EvAll ρ xs vs := by first | ((repeat (first | exact SL.EvAll.nil | (apply SL.EvAll.cons; rfl))); done) | fail) (hfr : FrmB (L ++ R) pre rst := by first | ((repeat (first | exact SL.FrmB.nil | (apply SL.FrmB.cons; repeat (first | exact SL.Pick.head | apply SL.Pick.tail)))); done) | fail) :
    TO P fid n post ops (⟨some d, .call ⟨.value (.func f), xs.toArray, tys⟩, ty, pos, af, g⟩ :: rest) (some (ls, R)) k ρ L := TO.callQ (first := []) (cap := []) hs rfl rfl hw hd he (by simp) hfr h
/-- what came in is frozen while a load is left -/
theorem W.dfrzO {W : World} {i : Nat} (h : TD P fid n post ops ls (SL.orig W :: R) k ρ r) (hi : firstLoad ls ops 0 = some i := by rfl) (hp : Pick L (SL.orig W) r := by first | ((repeat (first | exact SL.Pick.head | apply SL.Pick.tail)); done) | fail) : TD P fid n post ops ls R k ρ L := TD.frzO hp h
end
end SL
