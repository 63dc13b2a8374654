/-
  Contracts and rules for what the last text proves.
-/
import Derived.Test.YtkkibkdjkmghiaaGreatDoorPk2
import Derived.ProofKit
import Derived.OpenShut
import Derived.ChangeBook
import Derived.ChangeStays
import Derived.ChangeSame
import Derived.ChangeSlices
import Derived.WideKeyArgs
import Derived.Handed
import Derived.JoinedOf
section
set_option linter.unusedVariables false
set_option linter.unusedSimpArgs false
namespace SL
open Go Go.ChangeShapes Go.WideShapes Go.ChangeAt Go.WideElems Go.RowKit
section
variable {H : Type} {enc : TypeId × Value → H} {P : Program}
theorem trodAll_stays (hl : laidOutB P = true) {W W' : World} {sp' : Nat → Bool} : ∀ {ts : List TypeId} {vs : List Value} {ds : List (DataW H)} {ps : List MemPlace}, (ts.all fun t => P.readableRec t && decide (t < P.types.size)) = true →
    DataW.TrodAll enc P W 0 (fun _ => true) true ts vs ds ps → (∀ p ∈ ps, W.sameAt W' p) → (∀ p ∈ ps, sp' p.block = true) → DataW.TrodAll enc P W' 0 sp' true ts vs ds ps
  | [], vs, ds, ps, _, h, _, _ => by
    obtain ⟨rfl, rfl, rfl⟩ := trodAll_nil h
    exact trodAll_mk0
  | t :: ts, vs, ds, ps, hr, h, hsame, hs => by
    obtain ⟨v, vs1, d, ds1, a, b, rfl, rfl, rfl, h1, h2⟩ := trodAll_cons h
    simp only [List.all_cons, Bool.and_eq_true, decide_eq_true_eq] at hr
    exact trodAll_cons_mk (Trod_stays hl hr.1.1 hr.1.2 h1 (fun p hp => hsame p (by simp [hp])) (fun p hp => hs p (by simp [hp])))
      (trodAll_stays hl hr.2 h2 (fun p hp => hsame p (by simp [hp])) (fun p hp => hs p (by simp [hp])))
theorem Sat.old {W W' : World} {L r : List HProp} {F : HProp} {w0 : World} (s : Sat w0 L F W') (k : Pick L (orig W) r) {i : Nat} (h : i < W.heap.size) : W'.heap[i]? = W.heap[i]? := by
  obtain ⟨o, ho⟩ : ∃ o, W.heap[i]? = some o := ⟨W.heap[i], by simp [h]⟩
  rw [ho, s.readOrig k ho]
theorem kept_of_old {W W' : World} {may : MemPlace → Prop} (h1 : W'.os = W.os) (h2 : W'.output = W.output) (h : ∀ i, i < W.heap.size → W'.heap[i]? = W.heap[i]?) : W.keptBut W' may := by
  refine ⟨h1, h2, fun i hi => ?_⟩
  rw [h i hi]
  cases ho : W.heap[i]? with
  | none => simp
  | some o => cases o <;> simp
theorem law_post {f : Func} {s : ChangeSpec} {apart fresh handsOn again : Bool} {W W' : World} {args : Array Value} {ds gs : List (DataW H)} {before : List MemPlace} {tb : TypeId}
    (hl : laidOutB P = true) (hr : (f.params.toList.all fun t => P.readableRec t && decide (t < P.types.size)) = true) (hv : s.vars = []) (hs : s.fn H (ds ++ gs) = { results := [.lit (.bool true)], args := ds })
    (hrt : f.resultTypes = #[tb]) (htb : P.underlying tb = some .bool) (hW : DataW.Whole enc P f.params.toList s.vars apart W args.toList ds gs before)
    (h1 : W'.os = W.os) (h2 : W'.output = W.output) (h : ∀ i, i < W.heap.size → W'.heap[i]? = W.heap[i]?) :
    s.post enc P f apart fresh handsOn again W args (.bool true) W' := by
  have hW' := hW
  obtain ⟨p, q, hA, hV, rfl, hfz, hnd⟩ := hW
  rw [hv] at hV
  obtain ⟨rfl, rfl⟩ := trodVars_none hV
  have hlt : ∀ x ∈ p, x.block < W.heap.size := fun x hx => hW'.lt x (by simp [hx])
  have hsame : ∀ x ∈ p, W.sameAt W' x := by
    intro x hx
    have := h _ (hlt x hx)
    cases x with
    | cell b off => simp only [MemPlace.block] at this; simp only [World.sameAt, World.cell?, this]
    | map b => exact this
  have hold : ∀ x ∈ p ++ [], (fun b => decide (b < W.heap.size)) x.block = true := fun x hx => by simpa using hW'.lt x hx
  have hres : ∀ (b : Nat) (sp : Nat → Bool) (hd : Bool), DataW.TrodAll enc P W' b sp hd f.resultTypes.toList ((Value.bool true).resultList f.resultTypes.size) (s.fn H (ds ++ [])).results [] := by
    intro b sp hd
    rw [hs, hrt]
    exact trodAll_cons_mk (shut_bool htb _) trodAll_mk0
  have hargs : ∀ sp : Nat → Bool, (∀ x ∈ p ++ [], sp x.block = true) → DataW.TrodAll enc P W' 0 sp true f.params.toList args.toList (s.fn H (ds ++ [])).args p := by
    intro sp hsp
    rw [hs]
    exact trodAll_stays hl hr hA hsame (fun x hx => hsp x (by simp [hx]))
  have hvars : ∀ sp : Nat → Bool, DataW.TrodVars enc P W' sp s.vars (s.fn H (ds ++ [])).vars [] := by
    intro sp
    rw [hs, hv]
    rfl
  have hok : ∀ (j : Nat) (t : TypeId) (r : Value), f.resultTypes[j]? = some t → ((Value.bool true).resultList f.resultTypes.size)[j]? = some r → Value.okWide P W' .any 0 t r :=
    ok_one (by rw [hrt]) (by rfl) (okWide_bool_mk htb _)
  refine ⟨ds, [], p ++ [], [], p, [], hW', hres _ _ _, hargs _ hold, hvars _, World.keptBut_mono (fun x hx => hx.elim) (kept_of_old (may := fun _ => False) h1 h2 h), fun _ => ?_⟩
  refine ⟨hok, _, _, ([] ++ p) ++ [], ⟨[] ++ p, [], trodAll_append (hargs _ (fun _ _ => rfl)) (hres _ _ _), hvars _, rfl, ?_, ?_⟩, ?_⟩
  · intro b off hp
    have hp' : MemPlace.cell b off ∈ p := by simpa using hp
    have := h _ (hlt _ hp')
    have hz := hfz b off (by simpa using hp')
    unfold World.frozen? at hz ⊢
    simp only [MemPlace.block] at this
    simp only [this]
    exact hz
  · intro ha
    have := hnd ha
    simpa using this
  · intro x hx _
    simpa using hx
theorem law_calls {f : Nat} {fn : Func} {s : ChangeSpec} {apart fresh handsOn again : Bool} {W : World} {args : Array Value} {ds gs : List (DataW H)} {before : List MemPlace} {tb : TypeId}
    (hl : laidOutB P = true) (hr : (fn.params.toList.all fun t => P.readableRec t && decide (t < P.types.size)) = true) (hv : s.vars = []) (hs : s.fn H (ds ++ gs) = { results := [.lit (.bool true)], args := ds })
    (hrt : fn.resultTypes = #[tb]) (htb : P.underlying tb = some .bool) (hW : DataW.Whole enc P fn.params.toList s.vars apart W args.toList ds gs before)
    (hspec : Spec P f args.toList [orig W] (fun r L => r = .bool true ∧ L = [orig W])) :
    Calls P f args W fun e W' => ∃ v, e = .returned v ∧ s.post enc P fn apart fresh handsOn again W args v W' := by
  have h0 := hspec.runs W emp W (Sat.begin W)
  rw [Array.toArray_toList] at h0
  refine Calls.mono h0 ?_
  intro e W' hh
  obtain ⟨v, L, he, hpost, st⟩ := hh
  have hv' : v = .bool true := hpost.1
  have hL : L = [SL.orig W] := hpost.2
  rw [hL] at st
  rw [hv'] at he
  exact ⟨_, he, law_post hl hr hv hs hrt htb hW st.os st.out (fun i hi => st.old Pick.head hi)⟩
end
section
variable {w0 w : World} {L L' r : List HProp} {F : HProp}
theorem Sat.cellO {W : World} (s : Sat w0 L F w) (k : Pick L (orig W) r) {q : Addr} {v : Value} (hv : W.cell? q = some v) : w.cell? q = some v := by
  unfold World.cell? at hv ⊢
  cases hb : W.heap[q.block]? with
  | none => simp [hb] at hv
  | some o => rw [s.readOrig k hb]; simpa [hb] using hv
variable {P : Program} {fid : Fm} {n : Nat} {post : Post} {k : List Item} {ρ ρ' : Env} {ops rest : List Oper} {g : Option (Nat × Bool)} {ty : TypeId} {pos : String} {af : Array Edge} {d : Nat} {sf : Option (List Bool × List HProp)}
theorem TO.loadO {W : World} {x : Operand} {t : Nat} {q : Addr} {v : Value} [ht : TSc P t] (hw : wants ops ρ g = some true) (hd : Nat.blt d n = true) (hx : ev ρ x = some (.pointer (some q)))
    (hp : Pick L (orig W) r) (hv : W.cell? q = some v) (h : TO P fid n post ops rest sf k ((d, v) :: ρ) L) : TO P fid n post ops (⟨some d, .load t x, ty, pos, af, g⟩ :: rest) sf k ρ L :=
  TO.val hw hd fun w0 F a w gr st => ⟨v, L, w, by
    have hc := st.cellO hp hv
    simp [execOp, gr.eval hx, Instr.loadAt, Instr.sureAddr, loadVar, (ht.run w).1, hc], st, h⟩
theorem TD.loadO {W : World} {ls ls' : List Bool} {R : List HProp} {i d' t : Nat} {x : Operand} {q : Addr} {v : Value} (hi : firstLoad ls ops 0 = some i) (ho : nth ops i = some ⟨some d', .load t x, ty, pos, af, g⟩) (ht : TSc P t)
    (hw : wants ops ρ g = some true) (hd : Nat.blt d' n = true) (hok : firstOk ops ls i d' ⟨some d', .load t x, ty, pos, af, g⟩ ops 0 = true) (hcl : closedB ls ops 0 = true)
    (hx : ev ρ x = some (.pointer (some q))) (hp : Pick R (orig W) r) (hv : W.cell? q = some v) (hl : setB ls i = ls')
    (h : TD P fid n post ops ls' R k ((d', v) :: ρ) L) : TD P fid n post ops ls R k ρ L :=
  TD.load hi ho hw hd hok hcl hp (fun w0 F a w gr st => by
    have hc := st.cellO Pick.head hv
    simp [execOp, gr.eval hx, Instr.loadAt, Instr.sureAddr, loadVar, (ht.run w).1, hc]) hl h
theorem PV.indexAddrQ {dst : Option Nat} {x y : Operand} {t e sz by_ len cap i' : Nat} {q : Addr} {i : Int} {kd : IntKind} [ht : TSl P t e sz by_]
    (hx : ev ρ x = some (.slice (some q) len cap)) (hy : ev ρ y = some (.int kd i)) (hi : i = (i' : Int)) (hb : i' < len) :
    PV P n ρ ⟨dst, .indexAddr t x y, ty, pos, af, g⟩ (.pointer (some (q.add (i' * sz)))) := fun a w gr => by
  subst hi
  simp [execOp, gr.eval hx, gr.eval hy, Instr.indexAt, asIntOf, run_und ht.und, hb, ht.size]
end
end SL
end
