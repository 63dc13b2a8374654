/-
  Contracts and rules for what the last text proves.
-/
import Derived.Test.YtnehccnhabcdoaaGreatDoorPk7
section
set_option linter.unusedVariables false
set_option linter.unusedSimpArgs false
namespace SL
open Go
def FrmB (l pre rest : List HProp) : Prop := ∀ h, seps l h ↔ sep (seps pre) (seps rest) h
theorem FrmB.nil {l : List HProp} : FrmB l [] l := fun _ => ⟨fun a => sep_emp.2 a, fun a => sep_emp.1 a⟩
theorem FrmB.cons {l l' rest pre : List HProp} {p : HProp} (k : Pick l p l') (f : FrmB l' pre rest) : FrmB l (p :: pre) rest := fun h =>
  ⟨fun a => sep_assoc.2 (sep_mono (fun _ x => x) (fun _ x => (f _).1 x) ((k h).1 a)), fun a => (k h).2 (sep_mono (fun _ x => x) (fun _ x => (f _).2 x) (sep_assoc.1 a))⟩
section
variable {P : Program} {fid : Fm} {n : Nat} {post : Post} {k : List Item} {ρ : Env} {L r R : List HProp} {ls : List Bool} {ops rest : List Oper} {ty : TypeId} {pos : String} {af : Array Edge} {g : Option (Nat × Bool)}
theorem TO.callQ {f d : Nat} {ce : Callee} {xs : List Operand} {tys : Array TypeId} {args vs first cap : List Value} {fv : Operand} {pre rst : List HProp} {v0 : Value} (hs : Spec P f args pre (fun r L => r = v0 ∧ L = pre))
    (hce : ce = .value fv) (hfv : ev ρ fv = some (.func (.func f) first.toArray cap.toArray)) (hw : wants ops ρ g = some true) (hd : Nat.blt d n = true) (he : EvAll ρ xs vs) (ha : args = first ++ vs ++ cap)
    (hfr : FrmB (L ++ R) pre rst) (h : TO P fid n post ops rest (some (ls, R)) k ((d, v0) :: ρ) L) :
    TO P fid n post ops (⟨some d, .call ⟨ce, xs.toArray, tys⟩, ty, pos, af, g⟩ :: rest) (some (ls, R)) k ρ L := by
  intro w0 F a w is s gr st hi hsf
  obtain ⟨i, is', rfl, ho, hi'⟩ := idx_cons hi
  have hrun : (execOp a.eval (⟨some d, .call ⟨ce, xs.toArray, tys⟩, ty, pos, af, g⟩ : Oper)).run P w = .ok (.enter f args.toArray) w := by
    have e1 := gr.eval hfv
    have e2 := EvAll.map gr he
    subst hce
    subst ha
    simp only [execOp, resolve, Sem.run_bind, List.map_toArray, e1, e2, Deferred.ofValue, Sem.run_pure, Result.andThen_ok, invoke]
    rw [hs.callable]
    simp
  have hwt := wanted_eq (o := (⟨some d, .call ⟨ce, xs.toArray, tys⟩, ty, pos, af, g⟩ : Oper)) gr hw
  simp only [List.cons_append, wpI, ho, hwt, if_true]
  simp only [upS, hrun]
  have s1 : Sat w0 (L ++ R) F w := Sat.unframe st
  have s2 : Sat w0 pre (sep (seps rst) F) w := s1.frame (fun h a => (hfr h).1 a)
  refine (hs.runs w0 (sep (seps rst) F) w s2).mono ?_
  rintro e w1 ⟨v, L1, rfl, ⟨rfl, rfl⟩, st1⟩
  have s3 : Sat w0 (L ++ R) F w1 := (st1.unframe).map fun h a => (hfr h).2 (seps_append.1 a)
  have s4 : Sat w0 L (frF (some (ls, R)) F) w1 := s3.frame (fun h a => seps_append.1 a)
  exact ⟨_, rfl, fun _ => .inl ⟨_, s4⟩, h w0 F _ w1 is' s (gr.putE (d := some d) hd _) s4 hi' hsf⟩
theorem W.callQ {f d : Nat} {xs : List Operand} {tys : Array TypeId} {vs : List Value} {pre rst : List HProp} {v0 : Value} (hs : Spec P f vs pre (fun r L => r = v0 ∧ L = pre)) (h : TO P fid n post ops rest (some (ls, R)) k ((d, v0) :: ρ) L)
    (hw : wants ops ρ g = some true := by rfl) (hd : Nat.blt d n = true := by rfl) (he : EvAll ρ xs vs := by first | ((repeat (first | exact SL.EvAll.nil | (apply SL.EvAll.cons; rfl))); done) | fail) (hfr : FrmB (L ++ R) pre rst := by first | ((repeat (first | exact SL.FrmB.nil | (apply SL.FrmB.cons; repeat (first | exact SL.Pick.head | apply SL.Pick.tail)))); done) | fail) :
    TO P fid n post ops (⟨some d, .call ⟨.value (.func f), xs.toArray, tys⟩, ty, pos, af, g⟩ :: rest) (some (ls, R)) k ρ L := TO.callQ (first := []) (cap := []) hs rfl rfl hw hd he (by simp) hfr h
theorem TO.callG {f d : Nat} {xs : List Operand} {tys : Array TypeId} {vs : List Value} {pre rst : List HProp} {post' : Post} (hs : Spec P f vs pre post') (hw : wants ops ρ g = some true) (hd : Nat.blt d n = true) (he : EvAll ρ xs vs)
    (hfr : FrmB (L ++ R) pre rst) (h : ∀ v L', post' v L' → ∃ ex, L' = pre ++ ex ∧ TO P fid n post ops rest (some (ls, R)) k ((d, v) :: ρ) (ex ++ L)) :
    TO P fid n post ops (⟨some d, .call ⟨.value (.func f), xs.toArray, tys⟩, ty, pos, af, g⟩ :: rest) (some (ls, R)) k ρ L := by
  intro w0 F a w is s gr st hi hsf
  obtain ⟨i, is', rfl, ho, hi'⟩ := idx_cons hi
  have hrun : (execOp a.eval (⟨some d, .call ⟨.value (.func f), xs.toArray, tys⟩, ty, pos, af, g⟩ : Oper)).run P w = .ok (.enter f vs.toArray) w := by
    have e1 : a.eval (.func f) = .func (.func f) #[] #[] := gr.eval (x := .func f) rfl
    have e2 := EvAll.map gr he
    simp only [execOp, resolve, Sem.run_bind, List.map_toArray, e1, e2, Deferred.ofValue, Sem.run_pure, Result.andThen_ok, invoke]
    rw [hs.callable]
    simp
  have hwt := wanted_eq (o := (⟨some d, .call ⟨.value (.func f), xs.toArray, tys⟩, ty, pos, af, g⟩ : Oper)) gr hw
  simp only [List.cons_append, wpI, ho, hwt, if_true]
  simp only [upS, hrun]
  have s1 : Sat w0 (L ++ R) F w := Sat.unframe st
  have s2 : Sat w0 pre (sep (seps rst) F) w := s1.frame (fun h a => (hfr h).1 a)
  refine (hs.runs w0 (sep (seps rst) F) w s2).mono ?_
  rintro e w1 ⟨v, L1, rfl, hp1, st1⟩
  obtain ⟨ex, rfl, hto⟩ := h v L1 hp1
  have s3 : Sat w0 ((ex ++ L) ++ R) F w1 := (st1.unframe).map fun h a => by
    have a1 := seps_append.1 a
    have a2 : sep (sep (seps pre) (seps ex)) (seps rst) h := sep_mono (fun _ x => seps_append.1 x) (fun _ x => x) a1
    have a3 : sep (sep (seps ex) (seps pre)) (seps rst) h := sep_mono (fun _ x => sep_comm x) (fun _ x => x) a2
    have a4 : sep (seps ex) (sep (seps pre) (seps rst)) h := sep_assoc.1 a3
    have a5 : sep (seps ex) (seps (L ++ R)) h := sep_mono (fun _ x => x) (fun _ x => (hfr _).2 x) a4
    rw [List.append_assoc]
    exact seps_append.2 a5
  have s4 : Sat w0 (ex ++ L) (frF (some (ls, R)) F) w1 := s3.frame (fun h a => seps_append.1 a)
  exact ⟨_, rfl, fun _ => .inl ⟨_, s4⟩, hto w0 F _ w1 is' s (gr.putE (d := some d) hd _) s4 hi' hsf⟩
theorem W.callG {f d : Nat} {xs : List Operand} {tys : Array TypeId} {vs : List Value} {pre rst : List HProp} {post' : Post} (hs : Spec P f vs pre post') (h : ∀ v L', post' v L' → ∃ ex, L' = pre ++ ex ∧ TO P fid n post ops rest (some (ls, R)) k ((d, v) :: ρ) (ex ++ L))
    (hw : wants ops ρ g = some true := by rfl) (hd : Nat.blt d n = true := by rfl) (he : EvAll ρ xs vs := by first | ((repeat (first | exact SL.EvAll.nil | (apply SL.EvAll.cons; rfl))); done) | fail) (hfr : FrmB (L ++ R) pre rst := by first | ((repeat (first | exact SL.FrmB.nil | (apply SL.FrmB.cons; repeat (first | exact SL.Pick.head | apply SL.Pick.tail)))); done) | fail) :
    TO P fid n post ops (⟨some d, .call ⟨.value (.func f), xs.toArray, tys⟩, ty, pos, af, g⟩ :: rest) (some (ls, R)) k ρ L := TO.callG hs hw hd he hfr h
end
section
variable {P : Program} {n : Nat} {ρ : Env} {ty : TypeId} {pos : String} {af : Array Edge} {g : Option (Nat × Bool)}
theorem extract_cut {vs us : List Value} {off sz : Nat} (hv : Cut vs off sz us) : vs.toArray.extract off (off + sz) = us.toArray := by
  obtain ⟨h1, h2⟩ := hv
  subst h1
  apply Array.ext'
  simp only [List.extract_toArray, List.extract_eq_take_drop]
  apply List.ext_getElem?
  intro j
  by_cases hj : j < us.length
  · have := h2 j _ (List.getElem?_eq_getElem hj)
    simp [List.getElem?_take, hj, this]
  · simp [List.getElem?_take, hj, List.getElem?_eq_none (Nat.le_of_not_lt hj)]
theorem PV.indexAg {dst : Option Nat} {x y : Operand} {t e len sz i' : Nat} {i : Int} {kd : IntKind} {vs us : List Value} (ht : P.underlying t = some (.array len e)) [hg : TAg P e sz]
    (hx : ev ρ x = some (.agg vs.toArray)) (hy : ev ρ y = some (.int kd i)) (hi : i = (i' : Int)) (hb : i' < len) (hv : Cut vs (i' * sz) sz us) :
    PV P n ρ ⟨dst, .index t x y, ty, pos, af, g⟩ (.agg us.toArray) := fun a w gr => by
  subst hi
  have e := extract_cut hv
  simp only [List.extract_toArray, List.extract_eq_take_drop] at e
  have e2 : List.take sz (List.drop (i' * sz) vs) = us := by simpa using e
  simp [execOp, gr.eval hx, gr.eval hy, Instr.index, asIntOf, run_und ht, hb, part, Sem.run_bind, (hg.run w).1, (hg.run w).2, e2]
end
class TFq (P : Program) (s f : Nat) (off : outParam Nat) : Prop where
  run : ∀ (a : Addr) (w : World), (Instr.fieldAt s (.pointer (some a)) f).run P w = Go.Result.ok (.pointer (some (a.add off))) w
section
variable {P : Program} {n : Nat} {ρ : Env} {ty : TypeId} {pos : String} {af : Array Edge} {g : Option (Nat × Bool)}
end
end SL
end
