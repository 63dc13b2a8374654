/-
  Maps: a map's block as a list of keys and values, each key once; an iterator over it.
-/
import Derived.Test.YtpnlenpglmffdaaSl9
set_option linter.unusedVariables false
set_option linter.unusedSimpArgs false
namespace SL
open Go

section
variable {κ : Type}
def ents (kv : κ → Value) : List (κ × Value) → List Nat → List MapEntry
  | (k, v) :: l, b :: bs => { key := kv k, val := v, born := b } :: ents kv l bs
  | _, _ => []
def get [DecidableEq κ] (k : κ) : List (κ × Value) → Option Value
  | [] => none
  | p :: l => if p.1 = k then some p.2 else get k l
def upd [DecidableEq κ] (k : κ) (v : Value) : List (κ × Value) → List (κ × Value)
  | [] => [(k, v)]
  | p :: l => if p.1 = k then (k, v) :: l else p :: upd k v l
def del [DecidableEq κ] (k : κ) : List (κ × Value) → List (κ × Value)
  | [] => []
  | p :: l => if p.1 = k then l else p :: del k l
/-- where a key stands -/
def fnd [DecidableEq κ] (k : κ) : List (κ × Value) → Nat → Option (Nat × Value)
  | [], _ => none
  | p :: l, i => if p.1 = k then some (i, p.2) else fnd k l (i + 1)

theorem fnd_get [DecidableEq κ] (k : κ) : ∀ (l : List (κ × Value)) (i : Nat), (fnd k l i).map (·.2) = get k l
  | [], i => rfl
  | p :: l, i => by simp only [fnd, get]; split <;> simp [fnd_get k l (i + 1)]

structure Good (l : List (κ × Value)) (bs : List Nat) (clock : Nat) : Prop where
  keys : (l.map (·.1)).Nodup
  len : bs.length = l.length
  nd : bs.Nodup
  lt : ∀ b ∈ bs, b < clock

theorem ents_length (kv : κ → Value) : ∀ (l : List (κ × Value)) (bs : List Nat), bs.length = l.length → (ents kv l bs).length = l.length
  | [], [], _ => rfl
  | p :: l, b :: bs, h => by simp [ents, ents_length kv l bs (by simpa using h)]
  | [], b :: bs, h => by simp at h
  | p :: l, [], h => by simp at h
theorem ents_get (kv : κ → Value) : ∀ (l : List (κ × Value)) (bs : List Nat) (i : Nat), bs.length = l.length → (ents kv l bs)[i]? = (l[i]?).bind fun p => (bs[i]?).map fun b => { key := kv p.1, val := p.2, born := b }
  | [], [], i, _ => by simp [ents]
  | p :: l, b :: bs, 0, h => by simp [ents]
  | p :: l, b :: bs, i + 1, h => by simpa [ents] using ents_get kv l bs i (by simpa using h)
  | [], b :: bs, _, h => by simp at h
  | p :: l, [], _, h => by simp at h

/-- keys of a map type -/
class TKy (P : Program) (kt : Nat) (κ : outParam Type) (kv : outParam (κ → Value)) : Prop where
  check : ∀ (e : Bool) (k : κ) (w : World), (Instr.checkKey e 10000 kt (kv k)).run P w = .ok () w
  find : ∀ (dec : DecidableEq κ) (w : World) (k : κ) (l : List (κ × Value)) (bs : List Nat), bs.length = l.length → (Instr.findKey kt (kv k) (ents kv l bs)).run P w = .ok (fnd k l 0) w
  stay : ∀ k, Instr.sameBits 10000 (kv k) (kv k) = true

theorem findNow_int {P : Program} (ik ik' : IntKind) (k : Int) : ∀ (l : List (Int × Value)) (bs : List Nat) (i : Nat), bs.length = l.length →
    Instr.findNow (.int ik') (.int ik k) (ents (Value.int ik) l bs) i = some (fnd k l i)
  | [], [], i, _ => rfl
  | p :: l, b :: bs, i, h => by
    simp only [ents, Instr.findNow, Instr.sameNow, if_true, fnd]
    by_cases e : p.1 = k
    · simp [e]
    · have : (k == p.1) = false := by simpa using fun c => e c.symm
      rw [this, if_neg e]
      exact findNow_int (P := P) ik ik' k l bs (i + 1) (by simpa using h)
  | [], b :: bs, _, h => by simp at h
  | p :: l, [], _, h => by simp at h
theorem fnd_dec (d1 d2 : DecidableEq κ) (k : κ) (l : List (κ × Value)) (i : Nat) : @fnd κ d1 k l i = @fnd κ d2 k l i := by
  have : d1 = d2 := Subsingleton.elim _ _
  rw [this]
theorem TKy.int {P : Program} {kt : Nat} {ik : IntKind} (h : P.underlying kt = some (.int ik)) : TKy P kt Int (Value.int ik) :=
  ⟨fun e k w => by
    show (Instr.checkKey e (9999 + 1) kt (.int ik k)).run P w = _
    generalize 9999 = m
    simp only [Instr.checkKey, Sem.run_bind, run_und h, Go.Result.andThen_ok, Sem.run_pure],
   fun dec w k l bs hl => by
    have hd : dec = Int.instDecidableEq := Subsingleton.elim _ _
    subst hd
    simp only [Instr.findKey, Sem.run_bind, run_und h, Go.Result.andThen_ok, findNow_int (P := P) ik ik k l bs 0 hl, Sem.run_pure],
   fun k => by simp [Instr.sameBits]⟩

theorem run_checkFlat {P : Program} {e : Bool} {m : Nat} (w : World) (xs : List Value) : ∀ (fs : List Field) (ds : List Nat) (i : Nat), flatAt P fs ds i = true → okPairs ds (xs.drop i) (xs.drop i) = true →
    (forIn (m := Sem) fs PUnit.unit fun f _ => do
      if f.name ≠ "_" then do
        Instr.checkKey e (m + 1) f.type (← part f.type xs.toArray f.offset)
        pure (ForInStep.yield PUnit.unit)
      else pure (ForInStep.yield PUnit.unit)).run P w = .ok PUnit.unit w
  | [], ds, i, h, hp => by simp
  | f :: fs, [], i, h, hp => by simp [flatAt] at h
  | f :: fs, d :: ds, i, h, hp => by
    simp only [flatAt, Bool.and_eq_true, bne_iff_ne, ne_eq, beq_iff_eq] at h
    obtain ⟨⟨⟨h1, h2⟩, h3⟩, h4⟩ := h
    cases hx : xs.drop i with
    | nil => simp [hx, okPairs] at hp
    | cons a x =>
      simp only [hx, okPairs, Bool.and_eq_true] at hp
      have ex : xs[i]? = some a := by rw [← List.head?_drop, hx]; rfl
      have dx : xs.drop (i + 1) = x := by rw [← List.tail_drop, hx]; rfl
      have ih := run_checkFlat (P := P) (e := e) (m := m) w xs fs ds (i + 1) h4 (by rw [dx]; exact hp.2)
      have hc : (Instr.checkKey e (m + 1) f.type a).run P w = .ok () w := by
        unfold isKd at h3
        split at h3
        · split at h3
          · rename_i k hu; cases a <;> simp [okPair] at hp <;> simp [Instr.checkKey, run_und hu]
          · cases h3
        · split at h3
          · rename_i hu; cases a <;> simp [okPair] at hp <;> simp [Instr.checkKey, run_und hu]
          · cases h3
        · split at h3
          · rename_i hu; cases a <;> simp [okPair] at hp <;> simp [Instr.checkKey, run_und hu]
          · cases h3
        · cases h3
      subst h2
      simp only [List.forIn_cons, Sem.run_bind, ne_eq, h1, not_false_eq_true, if_true, run_part1 h3 ex w, hc, Go.Result.andThen_ok, Sem.run_pure]
      exact ih

theorem TKy.flat {P : Program} {kt : Nat} {ds : List Nat} [ht : TFl P kt ds] (cs : κ → List Value) (h1 : ∀ a b, okPairs ds (cs a) (cs b) = true) (h2 : ∀ a b, eqCells (cs a) (cs b) = true ↔ a = b)
    (h3 : ∀ k, Instr.sameBits 10000 (.agg (cs k).toArray) (.agg (cs k).toArray) = true) : TKy P kt κ (fun k => .agg (cs k).toArray) where
  check := fun e k w => by
    show (Instr.checkKey e (9998 + 1 + 1) kt (.agg (cs k).toArray)).run P w = _
    have := run_checkFlat (P := P) (e := e) (m := 9998) w (cs k) (P.fieldsOf kt).toList ds 0 ht.flat (by simpa using h1 k k)
    generalize 9998 = m at this ⊢
    rw [Instr.checkKey]
    simp only [Sem.run_bind, run_und ht.und, Go.Result.andThen_ok]
    rw [← Array.forIn_toList]
    rw [this]
    rfl
  find := fun dec w k l bs hl => by
    have ask : ∀ (l : List (κ × Value)) (bs : List Nat) (i : Nat), bs.length = l.length → (Instr.findAsking kt (.agg (cs k).toArray) (ents (fun k => Value.agg (cs k).toArray) l bs) i).run P w = .ok (@fnd κ dec k l i) w := by
      intro l
      induction l with
      | nil => intro bs i h; cases bs <;> simp at h; simp [ents, Instr.findAsking, fnd]
      | cons p l ih =>
        intro bs i h
        cases bs with
        | nil => simp at h
        | cons b bs =>
          have e := run_eqFlat (P := P) (m := 9998) w (cs k) (cs p.1) (P.fieldsOf kt).toList ds 0 ht.flat (by simpa using h1 k p.1)
          have e2 := run_equalIn_struct w 9999 kt (cs k).toArray (cs p.1).toArray ht.und ht.held
          simp only [List.drop_zero] at e
          rw [e] at e2
          have e3 : (Op.equal kt (.agg (cs k).toArray) (.agg (cs p.1).toArray)).run P w = .ok (eqCells (cs k) (cs p.1)) w := e2
          simp only [ents, Instr.findAsking, Sem.run_bind, e3, Go.Result.andThen_ok, fnd]
          by_cases c : p.1 = k
          · have : eqCells (cs k) (cs p.1) = true := (h2 _ _).2 c.symm
            simp only [this, if_pos c]
            rfl
          · have : eqCells (cs k) (cs p.1) = false := by
              cases hh : eqCells (cs k) (cs p.1)
              · rfl
              · exact absurd ((h2 _ _).1 hh).symm c
            simp only [this, Bool.false_eq_true, if_false, if_neg c]
            exact ih bs (i + 1) (by simpa using h)
    cases l with
    | nil => cases bs <;> simp at hl; simp [Instr.findKey, run_und ht.und, ents, Instr.findNow, fnd]
    | cons p l =>
      cases bs with
      | nil => simp at hl
      | cons b bs =>
        have := ask (p :: l) (b :: bs) 0 hl
        simp only [Instr.findKey, Sem.run_bind, run_und ht.und, Go.Result.andThen_ok]
        have hn : Instr.findNow (.struct (P.fieldsOf kt)) (.agg (cs k).toArray) (ents (fun k => Value.agg (cs k).toArray) (p :: l) (b :: bs)) 0 = Option.none := by simp [ents, Instr.findNow, Instr.sameNow]
        rw [hn]
        exact this
  stay := h3

/-! ### the chunk -/
/-- what an iterator has told: the keys of done, the last one first -/
def ItOk (l : List (κ × Value)) (bs : List Nat) (seen : Array Nat) (done : List κ) : Prop :=
  (∀ (i : Nat) (k : κ) (v : Value) (b : Nat), l[i]? = some (k, v) → bs[i]? = some b → (b ∈ seen ↔ k ∈ done)) ∧
  (∀ (q : κ) (ds : List κ) (i : Nat) (v : Value) (b : Nat), done = q :: ds → l[i]? = some (q, v) → bs[i]? = some b → seen.back? = some b)
/-- the map m with the iterator that goes over it, if there is one: done are the keys that it has told -/
def mpI (kv : κ → Value) (m : Nat) (l : List (κ × Value)) : Option (Nat × List κ) → HProp
  | none => ex fun p : List Nat × Nat => seps [fact (Good l p.1 p.2), pt m (.map (ents kv l p.1).toArray p.2)]
  | some (it, done) => ex fun p : List Nat × Nat × Array Nat => seps [fact (Good l p.1 p.2.1 ∧ ItOk l p.1 p.2.2 done),
      pt m (.map (ents kv l p.1).toArray p.2.1), pt it (.mapIter (some m) p.2.1 p.2.2 p.2.1)]
abbrev mp (kv : κ → Value) (m : Nat) (l : List (κ × Value)) : HProp := mpI kv m l none

theorem upd_none [DecidableEq κ] {k : κ} {v : Value} : ∀ {l : List (κ × Value)} {i : Nat}, fnd k l i = none → upd k v l = l ++ [(k, v)]
  | [], i, _ => rfl
  | p :: l, i, h => by
    simp only [fnd] at h
    split at h
    · cases h
    · rename_i c; simp only [upd, if_neg c, upd_none h, List.cons_append]
theorem fnd_none_mem [DecidableEq κ] {k : κ} : ∀ {l : List (κ × Value)} {i : Nat}, fnd k l i = none → k ∉ l.map (·.1)
  | [], i, _ => by simp
  | p :: l, i, h => by
    simp only [fnd] at h
    split at h
    · cases h
    · rename_i c
      simp only [List.map_cons, List.mem_cons, not_or]
      exact ⟨fun e => c e.symm, fnd_none_mem h⟩
theorem fnd_some [DecidableEq κ] {k : κ} : ∀ {l : List (κ × Value)} {i j : Nat} {v : Value}, fnd k l i = some (j, v) → i ≤ j ∧ l[j - i]? = some (k, v)
  | [], i, j, v, h => by simp [fnd] at h
  | p :: l, i, j, v, h => by
    simp only [fnd] at h
    split at h
    · rename_i c
      simp only [Option.some.injEq, Prod.mk.injEq] at h
      obtain ⟨rfl, rfl⟩ := h
      subst c
      simp
    · obtain ⟨h1, h2⟩ := fnd_some h
      refine ⟨by omega, ?_⟩
      rw [show j - i = (j - (i + 1)) + 1 from by omega]
      simpa using h2
theorem upd_some [DecidableEq κ] {k : κ} {v' : Value} : ∀ {l : List (κ × Value)} {i j : Nat} {v : Value}, fnd k l i = some (j, v) → upd k v' l = l.set (j - i) (k, v')
  | [], i, j, v, h => by simp [fnd] at h
  | p :: l, i, j, v, h => by
    simp only [fnd] at h
    split at h
    · rename_i c
      simp only [Option.some.injEq, Prod.mk.injEq] at h
      obtain ⟨rfl, rfl⟩ := h
      simp [upd, c]
    · rename_i c
      have := (fnd_some h).1
      simp only [upd, if_neg c, upd_some h]
      rw [show j - i = (j - (i + 1)) + 1 from by omega]
      simp
theorem del_some [DecidableEq κ] {k : κ} : ∀ {l : List (κ × Value)} {i j : Nat} {v : Value}, fnd k l i = some (j, v) → del k l = l.eraseIdx (j - i)
  | [], i, j, v, h => by simp [fnd] at h
  | p :: l, i, j, v, h => by
    simp only [fnd] at h
    split at h
    · rename_i c
      simp only [Option.some.injEq, Prod.mk.injEq] at h
      obtain ⟨rfl, rfl⟩ := h
      simp [del, c]
    · rename_i c
      have := (fnd_some h).1
      simp only [del, if_neg c, del_some h]
      rw [show j - i = (j - (i + 1)) + 1 from by omega]
      simp
theorem del_none [DecidableEq κ] {k : κ} : ∀ {l : List (κ × Value)} {i : Nat}, fnd k l i = none → del k l = l
  | [], i, _ => rfl
  | p :: l, i, h => by
    simp only [fnd] at h
    split at h
    · cases h
    · rename_i c; simp only [del, if_neg c, del_none h]

theorem ents_set (kv : κ → Value) (k : κ) (v v' : Value) : ∀ (l : List (κ × Value)) (bs : List Nat) (j : Nat), bs.length = l.length → l[j]? = some (k, v) →
    ents kv (l.set j (k, v')) bs = (ents kv l bs).modify j fun e => { e with key := kv k, val := v' }
  | [], bs, j, _, h => by simp at h
  | p :: l, [], j, h, _ => by simp at h
  | p :: l, b :: bs, 0, h, hj => by simp at hj; subst hj; simp [ents]
  | p :: l, b :: bs, j + 1, h, hj => by
    simp only [List.set_cons_succ, ents, List.modify_succ_cons]
    rw [ents_set kv k v v' l bs j (by simpa using h) (by simpa using hj)]
theorem ents_snoc (kv : κ → Value) (k : κ) (v : Value) (b : Nat) : ∀ (l : List (κ × Value)) (bs : List Nat), bs.length = l.length → ents kv (l ++ [(k, v)]) (bs ++ [b]) = ents kv l bs ++ [{ key := kv k, val := v, born := b }]
  | [], [], _ => rfl
  | p :: l, c :: bs, h => by simp [ents, ents_snoc kv k v b l bs (by simpa using h)]
  | [], c :: bs, h => by simp at h
  | p :: l, [], h => by simp at h
theorem ents_erase (kv : κ → Value) : ∀ (l : List (κ × Value)) (bs : List Nat) (j : Nat), bs.length = l.length → ents kv (l.eraseIdx j) (bs.eraseIdx j) = (ents kv l bs).eraseIdx j
  | [], [], _, _ => by simp [ents]
  | p :: l, b :: bs, 0, h => by simp [ents]
  | p :: l, b :: bs, j + 1, h => by simp [ents, ents_erase kv l bs j (by simpa using h)]
  | [], b :: bs, _, h => by simp at h
  | p :: l, [], _, h => by simp at h

theorem Good.snoc {l : List (κ × Value)} {bs : List Nat} {c : Nat} (g : Good l bs c) {k : κ} (h : k ∉ l.map (·.1)) (v : Value) : Good (l ++ [(k, v)]) (bs ++ [c]) (c + 1) := by
  obtain ⟨h1, h2, h3, h4⟩ := g
  refine ⟨?_, by simp [h2], ?_, ?_⟩
  · rw [List.map_append, List.nodup_append]
    refine ⟨h1, by simp, ?_⟩
    intro a ha b hb
    simp at hb
    subst hb
    intro e
    exact h (e ▸ ha)
  · rw [List.nodup_append]
    refine ⟨h3, by simp, ?_⟩
    intro a ha b hb
    simp at hb
    have := h4 a ha
    omega
  · intro b hb
    simp only [List.mem_append, List.mem_singleton] at hb
    rcases hb with hb | rfl
    · have := h4 b hb; omega
    · omega
theorem Good.set {l : List (κ × Value)} {bs : List Nat} {c j : Nat} (g : Good l bs c) {k : κ} {v v' : Value} (h : l[j]? = some (k, v)) : Good (l.set j (k, v')) bs c := by
  obtain ⟨h1, h2, h3, h4⟩ := g
  refine ⟨?_, by simpa using h2, h3, h4⟩
  have : (l.set j (k, v')).map (·.1) = l.map (·.1) := by
    rw [List.map_set]
    apply List.ext_getElem?
    intro i
    by_cases e : j = i
    · subst e
      have hlt : j < l.length := (List.getElem?_eq_some_iff.1 h).1
      simp [List.getElem?_set, hlt]
      have := (List.getElem?_eq_some_iff.1 h).2
      rw [this]
    · simp [List.getElem?_set, e]
  rw [this]; exact h1
theorem Good.erase {l : List (κ × Value)} {bs : List Nat} {c j : Nat} (g : Good l bs c) : Good (l.eraseIdx j) (bs.eraseIdx j) c := by
  obtain ⟨h1, h2, h3, h4⟩ := g
  refine ⟨?_, by simp [List.length_eraseIdx, h2], h3.sublist (List.eraseIdx_sublist _ _), fun b hb => h4 b ((List.eraseIdx_sublist _ _).mem hb)⟩
  have : (l.eraseIdx j).map (·.1) = (l.map (·.1)).eraseIdx j := by
    rw [List.eraseIdx_eq_take_drop_succ, List.eraseIdx_eq_take_drop_succ, List.map_append, List.map_take, List.map_drop]
  rw [this]
  exact h1.sublist (List.eraseIdx_sublist _ _)
end
end SL
