/-
  Contracts and rules for what the last text proves.
-/
import Derived.Test.YtkkibkdjkmghiaaGreatDoorPk5
import Derived.Laws.Externs
import GoSem.Extern.MapsClone
section
set_option linter.unusedVariables false
set_option linter.unusedSimpArgs false
namespace SL
open Go
def Ext (P : Program) (f : Nat) (vs : List Value) (pre : List HProp) (post : Post) : Prop :=
  ∀ (w0 : World) (F : HProp) (w : World), Sat w0 pre F w → ∃ v w' L', (callFunc f vs.toArray).run P w = .ok (.value v) w' ∧ post v L' ∧ Sat w0 L' F w'
section
variable {P : Program} {fid : Fm} {n : Nat} {post : Post} {k : List Item} {ρ : Env} {L L' r : List HProp} {ops rest : List Oper} {ty : TypeId} {pos : String} {af : Array Edge} {g : Option (Nat × Bool)} {sf : Option (List Bool × List HProp)}
theorem TO.callExt {dst : Option Nat} {f : Nat} {xs : List Operand} {tys : Array TypeId} {vs : List Value} {pre rst : List HProp} {post' : Post} (hs : Ext P f vs pre post')
    (hw : wants ops ρ g = some true) (hd : dstOk n dst = true) (he : EvAll ρ xs vs) (hfr : Frm L pre rst) (h : ∀ v L', post' v L' → TO P fid n post ops rest sf k (putE dst v ρ) (L' ++ rst)) :
    TO P fid n post ops (⟨dst, .call ⟨.value (.func f), xs.toArray, tys⟩, ty, pos, af, g⟩ :: rest) sf k ρ L := by
  intro w0 F a w is s gr st hi hsf
  obtain ⟨i, is', rfl, ho, hi'⟩ := idx_cons hi
  obtain ⟨v, w1, L1, hc, hp1, st1⟩ := hs w0 (sep (seps rst) (frF sf F)) w (st.frame hfr)
  have hrun : (execOp a.eval (⟨dst, .call ⟨.value (.func f), xs.toArray, tys⟩, ty, pos, af, g⟩ : Oper)).run P w = .ok (.value v) w1 := by
    have e1 : a.eval (.func f) = .func (.func f) #[] #[] := gr.eval (x := .func f) rfl
    have e2 := EvAll.map gr he
    simp only [execOp, resolve, Sem.run_bind, List.map_toArray, e1, e2, Deferred.ofValue, Sem.run_pure, Result.andThen_ok, invoke]
    simpa using hc
  exact wpI_value ho (wanted_eq gr hw) hrun (.inl ⟨_, st1.unframe⟩) (h v L1 hp1 w0 F _ w1 is' s (gr.putE hd v) st1.unframe hi' hsf)
theorem W.callExt {d f : Nat} {xs : List Operand} {tys : Array TypeId} {vs : List Value} {pre rst : List HProp} {post' : Post} (hs : Ext P f vs pre post')
    (h : ∀ v L', post' v L' → TO P fid n post ops rest sf k ((d, v) :: ρ) (L' ++ rst)) (hw : wants ops ρ g = some true := by rfl) (hd : Nat.blt d n = true := by rfl)
    (he : EvAll ρ xs vs := by first | ((repeat (first | exact SL.EvAll.nil | (apply SL.EvAll.cons; rfl))); done) | fail) (hfr : Frm L pre rst := by first | ((repeat (first | exact SL.Frm.nil | exact SL.Frm.refl | (apply SL.Frm.cons; repeat (first | exact SL.Pick.head | apply SL.Pick.tail)))); done) | fail) : TO P fid n post ops (⟨some d, .call ⟨.value (.func f), xs.toArray, tys⟩, ty, pos, af, g⟩ :: rest) sf k ρ L := TO.callExt (dst := some d) hs hw hd he hfr h
theorem PV.ifaceM {dst : Option Nat} {x : Operand} {v : Value} {t kt e : TypeId} [ht : TMp P t kt e] (hx : ev ρ x = some v) : PV P n ρ ⟨dst, .makeInterface t x, ty, pos, af, g⟩ (.iface t v) := fun a w gr => by
  simp [execOp, gr.eval hx, Instr.makeInterface, run_und ht.und]
theorem PV.assertM {dst : Option Nat} {x : Operand} {v : Value} {t xt kt e : TypeId} [ht : TMp P t kt e] (hx : ev ρ x = some (.iface t v)) : PV P n ρ ⟨dst, .typeAssert x xt t false, ty, pos, af, g⟩ v := fun a w gr => by
  simp [execOp, gr.eval hx, Instr.typeAssert, run_und ht.und]
end
section
variable {P : Program} {κ : Type} {kv : κ → Value} {m : Nat} {l : List (κ × Value)}
theorem Ext.clone {f : Nat} {fn : Func} {t : TypeId} (hf : P.funcs[f]? = some fn) (hname : (fn.name == "runtime.NumGoroutine") = false) (hb : fn.body.isNone = true) (hn : Extern.findNext fn = none) (he : Extern.find fn = some Extern.MapsClone.clone) :
    Ext P f [.iface t (.map (some m))] [mpI kv m l none] (fun r L => ∃ b, r = .iface t (.map (some b)) ∧ L = [mpI kv b l none, mpI kv m l none]) := by
  intro w0 F w s
  obtain ⟨bs, clock, gd, s1⟩ := s.openMp Pick.head
  have hr := s1.read Pick.head
  have s2 := Sat.shutMp (kv := kv) gd s1
  have s3 := s2.new (o := .map (ents kv l bs).toArray clock)
  have s4 := Sat.shutMp (kv := kv) gd s3
  refine ⟨.iface t (.map (some w.heap.size)), _, _, ?_, ⟨w.heap.size, rfl, rfl⟩, s4⟩
  rw [run_callFunc_extern hf hname hb hn he]
  have e : Extern.MapsClone.clone [Value.iface t (.map (some m))].toArray = (getObj m >>= fun o => match o with
      | .map entries clock => (newObj (.map entries clock) >>= fun n => pure (.iface t (.map (some n))))
      | _ => stuck "maps.clone: a map expected") := rfl
  rw [e, Sem.run_bind, run_getObj (P := P) hr (by intro c t f h; cases h)]
  rfl
end
section
variable {κ : Type} {kv : κ → Value} {m : Nat} {l : List (κ × Value)}
theorem erase_pair {α β : Type} : ∀ {l : List α} {bs : List β} {i j : Nat} {x : α} {b : β}, bs.length = l.length → (l.eraseIdx i)[j]? = some x → (bs.eraseIdx i)[j]? = some b → ∃ j' : Nat, l[j']? = some x ∧ bs[j']? = some b := by
  intro l bs i j x b hl h1 h2
  rw [List.getElem?_eraseIdx] at h1 h2
  by_cases hc : j < i
  · rw [if_pos hc] at h1 h2; exact ⟨j, h1, h2⟩
  · rw [if_neg hc] at h1 h2; exact ⟨j + 1, h1, h2⟩
theorem ItOk.erase {bs : List Nat} {seen : Array Nat} {done : List κ} {i : Nat} (h : ItOk l bs seen done) (hl : bs.length = l.length) : ItOk (l.eraseIdx i) (bs.eraseIdx i) seen done := by
  refine ⟨fun j k v b h1 h2 => ?_, fun q ds j v b hd h1 h2 => ?_⟩
  · obtain ⟨j', a, c⟩ := erase_pair hl h1 h2
    exact h.1 j' k v b a c
  · obtain ⟨j', a, c⟩ := erase_pair hl h1 h2
    exact h.2 q ds j' v b hd a c
end
section
variable {P : Program} {fid : Fm} {n : Nat} {post : Post} {k : List Item} {ρ : Env} {L L' r : List HProp} {ops rest : List Oper} {ty : TypeId} {pos : String} {af : Array Edge} {g : Option (Nat × Bool)} {sf : Option (List Bool × List HProp)}
variable {κ : Type} {kv : κ → Value} {m : Nat} {l : List (κ × Value)}
theorem TO.deleteI [DecidableEq κ] {x kk : Operand} {t kt e it : Nat} {done : List κ} {q : κ} [htm : TMp P t kt e] [hky : TKy P kt κ kv] {tk : TypeId} (hw : wants ops ρ g = some true)
    (hx : ev ρ x = some (.map (some m))) (hk : ev ρ kk = some (kv q)) (hp : Pick L (mpI kv m l (some (it, done))) r)
    (h : TO P fid n post ops rest sf k ρ (mpI kv m (del q l) (some (it, done)) :: r)) : TO P fid n post ops (⟨none, .call ⟨.builtin .delete, [x, kk].toArray, [t, tk].toArray⟩, ty, pos, af, g⟩ :: rest) sf k ρ L :=
  TO.val (o := ⟨none, .call ⟨.builtin .delete, [x, kk].toArray, [t, tk].toArray⟩, ty, pos, af, g⟩) hw rfl fun w0 F a w gr st => by
    obtain ⟨bs, c, seen, gd, hit, s1⟩ := st.openMpI hp
    have hr := s1.read Pick.head
    have hg := run_getObj (P := P) hr (by intro c t f h; cases h)
    have hs : ∀ o', (setObj m o').run P w = .ok () { w with heap := w.heap.setIfInBounds m o' } := fun o' => run_setObj hr (by intro c t f h; cases h)
    have hc : ∀ e, (Instr.checkKey e 10000 kt (kv q)).run P w = .ok () w := fun e => hky.check e q w
    have hf := hky.find inferInstance w q l bs gd.len
    cases hfd : fnd q l 0 with
    | none =>
      refine ⟨.tuple #[], mpI kv m (del q l) (some (it, done)) :: r, { w with heap := w.heap.setIfInBounds m (.map (ents kv (del q l) bs).toArray c) }, ?_, Sat.shutMpI (by rw [del_none hfd]; exact gd) (by rw [del_none hfd]; exact hit) (s1.write Pick.head), h⟩
      rw [del_none hfd]
      simp [execOp, resolve, invoke, builtin, gr.eval hx, gr.eval hk, Builtin.delete_, run_und htm.und, hg, hc, hf, hfd, hs]
    | some p =>
      obtain ⟨i, v⟩ := p
      have hi := (fnd_some hfd).2
      simp only [Nat.sub_zero] at hi
      have hlt : i < l.length := (List.getElem?_eq_some_iff.1 hi).1
      have hdel : del q l = l.eraseIdx i := by have := del_some hfd; rwa [Nat.sub_zero] at this
      refine ⟨.tuple #[], mpI kv m (del q l) (some (it, done)) :: r, { w with heap := w.heap.setIfInBounds m (.map (ents kv (del q l) (bs.eraseIdx i)).toArray c) }, ?_, Sat.shutMpI (by rw [hdel]; exact gd.erase) (by rw [hdel]; exact hit.erase gd.len) (s1.write Pick.head), h⟩
      rw [hdel, ents_erase kv l bs i gd.len]
      have hel : i < (ents kv l bs).length := by rw [ents_length kv l bs gd.len]; exact hlt
      have he : (ents kv l bs).toArray.eraseIdxIfInBounds i = ((ents kv l bs).eraseIdx i).toArray := by simp [Array.eraseIdxIfInBounds, hel]
      simp [execOp, resolve, invoke, builtin, gr.eval hx, gr.eval hk, Builtin.delete_, run_und htm.und, hg, hc, hf, hfd, hs, he]
theorem W.deleteI [DecidableEq κ] {x kk : Operand} {t kt e it : Nat} {done : List κ} {q : κ} [htm : TMp P t kt e] [hky : TKy P kt κ kv] {tk : TypeId} (h : TO P fid n post ops rest sf k ρ (mpI kv m (del q l) (some (it, done)) :: r)) (hw : wants ops ρ g = some true := by rfl)
    (hx : ev ρ x = some (.map (some m)) := by rfl) (hk : ev ρ kk = some (kv q) := by rfl) (hp : Pick L (mpI kv m l (some (it, done))) r := by first | ((repeat (first | exact SL.Pick.head | apply SL.Pick.tail)); done) | fail) : TO P fid n post ops (⟨none, .call ⟨.builtin .delete, [x, kk].toArray, [t, tk].toArray⟩, ty, pos, af, g⟩ :: rest) sf k ρ L := TO.deleteI hw hx hk hp h
end
end SL
end
