/-
  Contracts and rules for what the last text proves.
-/
import Derived.Test.YtkkibkdjkmghiaaGreatDoorPk3
import Derived.Laws.StructEq
section
set_option linter.unusedVariables false
set_option linter.unusedSimpArgs false
namespace SL
open Go
def loops : Code → List Code
  | .seq a b => loops a ++ loops b
  | .cond _ a b => loops a ++ loops b
  | .block i (.loop b) => .block i (.loop b) :: loops b
  | .block _ b => loops b
  | .loop b => .loop b :: loops b
  | .scope b => loops b
  | .rangeFunc f p a b => .rangeFunc f p a b :: loops b
  | _ => []
def loopAt (f : Func) (i : Nat) : Code := match f.body with
  | some c => match nth (loops c) i with
    | some b => b
    | none => .skip
  | none => .skip
class TIn (P : Program) (t : Nat) (kd : outParam IntKind) : Prop where
  und : P.underlying t = some (.int kd)
class TBo (P : Program) (t : Nat) : Prop where
  und : P.underlying t = some .bool
def cellEq : Value → Value → Bool
  | .int _ a, .int _ b => a == b
  | .bool a, .bool b => a == b
  | .string a, .string b => a.toList == b.toList
  | _, _ => false
def eqCells : List Value → List Value → Bool
  | [], [] => true
  | a :: x, b :: y => cellEq a b && eqCells x y
  | _, _ => false
def okPair : Nat → Value → Value → Bool
  | 0, .int k _, .int k' _ => k == k'
  | 1, .bool _, .bool _ => true
  | 2, .string _, .string _ => true
  | _, _, _ => false
def okPairs : List Nat → List Value → List Value → Bool
  | [], [], [] => true
  | d :: ds, a :: x, b :: y => okPair d a b && okPairs ds x y
  | _, _, _ => false
def isKd (P : Program) (t : Nat) : Nat → Bool
  | 0 => match P.underlying t with
    | some (.int _) => true
    | _ => false
  | 1 => match P.underlying t with
    | some .bool => true
    | _ => false
  | 2 => match P.underlying t with
    | some .string => true
    | _ => false
  | _ => false
def flatAt (P : Program) : List Field → List Nat → Nat → Bool
  | [], [], _ => true
  | f :: fs, d :: ds, i => (f.name != "_") && (f.offset == i) && isKd P f.type d && flatAt P fs ds (i + 1)
  | _, _, _ => false
theorem run_part1 {P : Program} {t kd : Nat} (h : isKd P t kd = true) {xs : List Value} {i : Nat} {v : Value} (hv : xs[i]? = some v) (w : World) : (part t xs.toArray i).run P w = .ok v w := by
  have : (isAgg t).run P w = .ok false w := by
    unfold isKd at h
    split at h
    · split at h
      · rename_i k hu; simp [isAgg, run_und hu]
      · cases h
    · split at h
      · rename_i hu; simp [isAgg, run_und hu]
      · cases h
    · split at h
      · rename_i hu; simp [isAgg, run_und hu]
      · cases h
    · cases h
  simp [part, this, hv]
theorem run_cellEq {P : Program} {t kd m : Nat} (h : isKd P t kd = true) {a b : Value} (hp : okPair kd a b = true) (w : World) : (Op.equalIn (m + 1) t a b).run P w = .ok (cellEq a b) w := by
  unfold isKd at h
  split at h
  · split at h
    · rename_i k hu
      cases a <;> cases b <;> simp [okPair] at hp
      subst hp
      exact run_equalIn_int w m t _ k _ _ hu
    · cases h
  · split at h
    · rename_i hu
      cases a <;> cases b <;> simp [okPair] at hp
      exact run_equalIn_bool' w m t _ _ hu
    · cases h
  · split at h
    · rename_i hu
      cases a <;> cases b <;> simp [okPair] at hp
      exact run_equalIn_string w m t _ _ hu
    · cases h
  · cases h
theorem run_eqFlat {P : Program} {m : Nat} (w : World) (xs ys : List Value) : ∀ (fs : List Field) (ds : List Nat) (i : Nat), flatAt P fs ds i = true → okPairs ds (xs.drop i) (ys.drop i) = true →
    (Op.eqFields (m + 1) xs.toArray ys.toArray fs).run P w = .ok (eqCells (xs.drop i) (ys.drop i)) w
  | [], ds, i, h, hp => by
    cases ds with
    | nil =>
      cases hx : xs.drop i <;> cases hy : ys.drop i <;> simp [hx, hy, okPairs] at hp
      simp [Op.eqFields, eqCells]
    | cons d ds => simp [flatAt] at h
  | f :: fs, [], i, h, hp => by simp [flatAt] at h
  | f :: fs, d :: ds, i, h, hp => by
    simp only [flatAt, Bool.and_eq_true, bne_iff_ne, ne_eq, beq_iff_eq] at h
    obtain ⟨⟨⟨h1, h2⟩, h3⟩, h4⟩ := h
    cases hx : xs.drop i with
    | nil => simp [hx, okPairs] at hp
    | cons a x =>
      cases hy : ys.drop i with
      | nil => simp [hx, hy, okPairs] at hp
      | cons b y =>
        simp only [hx, hy, okPairs, Bool.and_eq_true] at hp
        have ex : xs[i]? = some a := by rw [← List.head?_drop, hx]; rfl
        have ey : ys[i]? = some b := by rw [← List.head?_drop, hy]; rfl
        have dx : xs.drop (i + 1) = x := by rw [← List.tail_drop, hx]; rfl
        have dy : ys.drop (i + 1) = y := by rw [← List.tail_drop, hy]; rfl
        have ih := run_eqFlat (P := P) (m := m) w xs ys fs ds (i + 1) h4 (by rw [dx, dy]; exact hp.2)
        rw [dx, dy] at ih
        subst h2
        simp only [Op.eqFields, ne_eq, h1, not_false_eq_true, if_true, Sem.run_bind, run_part1 h3 ex w, run_part1 h3 ey w, run_cellEq h3 hp.1 w, Result.andThen_ok, eqCells]
        cases cellEq a b
        · simp
        · simpa using ih
class TFl (P : Program) (t : Nat) (ds : outParam (List Nat)) : Prop where
  und : P.underlying t = some (.struct (P.fieldsOf t))
  held : P.stoodInHeld t = false
  guard : P.eqGuardType P.depth t = false
  flat : flatAt P (P.fieldsOf t).toList ds 0 = true
theorem run_eqBool {P : Program} {t : Nat} (he : P.underlying t = some .bool) (a b : Bool) (w : World) : (Op.equal t (.bool a) (.bool b)).run P w = .ok (a == b) w := by
  show (Op.equalIn (9999 + 1) t (.bool a) (.bool b)).run P w = _
  generalize 9999 = m
  simp [Op.equalIn, run_und he]
section
variable {P : Program} {fid : Fm} {n : Nat} {post : Post} {L L' : List HProp} {k : List Item} {ρ ρ' : Env} {ops rest : List Oper} {g : Option (Nat × Bool)} {ty : TypeId} {pos : String} {af : Array Edge} {d : Nat} {sf : Option (List Bool × List HProp)}
theorem TK.lp {i : Nat} {c : Code} (h : TK P fid n post (.code (.block i (.loop c)) :: k) ρ L) : TK P fid n post (.code (.block i (.loop c)) :: k) ρ L := h
theorem TK.weakD (s : Sub ρ ρ') (e : EntD L L') (h : TK P fid n post k ρ' L') : TK P fid n post k ρ L := TK.env s (TK.entD e h)
theorem PV.toIntC {dst : Option Nat} {x : Operand} {kd kd' kd0 : IntKind} {i r : Int} {s t : TypeId} [hs : TIn P s kd0] [ht : TIn P t kd'] (hx : ev ρ x = some (.int kd i)) (hr : kd'.wrap i = r) : PV P n ρ ⟨dst, .convert s t x, ty, pos, af, g⟩ (.int kd' r) := PV.toInt hx ⟨_, hs.und⟩ ht.und hr
theorem PV.eqFl {dst : Option Nat} {x y : Operand} {vs us : List Value} {t u : TypeId} {ds : List Nat} [ht : TFl P t ds] (hx : ev ρ x = some (.agg vs.toArray)) (hy : ev ρ y = some (.agg us.toArray)) (hk : okPairs ds vs us = true) :
    PV P n ρ ⟨dst, .binOp .eql t x y u, ty, pos, af, g⟩ (.bool (eqCells vs us)) := fun a w gr => by
  have e := run_eqFlat (P := P) (m := 9998) w vs us (P.fieldsOf t).toList ds 0 ht.flat (by simpa using hk)
  have e2 := run_equalIn_struct w 9999 t vs.toArray us.toArray ht.und ht.held
  simp only [List.drop_zero] at e
  rw [e] at e2
  simp only [execOp, Sem.run_bind, gr.eval hx, gr.eval hy, run_eqGuard_agg w _ t x y _ _ ht.guard, Result.andThen_ok, run_eql_struct, e2, Sem.run_pure]
theorem PV.neFl {dst : Option Nat} {x y : Operand} {vs us : List Value} {t u : TypeId} {ds : List Nat} [ht : TFl P t ds] (hx : ev ρ x = some (.agg vs.toArray)) (hy : ev ρ y = some (.agg us.toArray)) (hk : okPairs ds vs us = true) :
    PV P n ρ ⟨dst, .binOp .neq t x y u, ty, pos, af, g⟩ (.bool (!eqCells vs us)) := fun a w gr => by
  have e := run_eqFlat (P := P) (m := 9998) w vs us (P.fieldsOf t).toList ds 0 ht.flat (by simpa using hk)
  have e2 := run_equalIn_struct w 9999 t vs.toArray us.toArray ht.und ht.held
  simp only [List.drop_zero] at e
  rw [e] at e2
  simp only [execOp, Sem.run_bind, gr.eval hx, gr.eval hy, run_eqGuard_agg w _ t x y _ _ ht.guard, Result.andThen_ok, run_neq_struct, e2, Sem.run_pure]
theorem PV.eqB {dst : Option Nat} {x y : Operand} {a b : Bool} {t u : TypeId} [ht : TBo P t] (hx : ev ρ x = some (.bool a)) (hy : ev ρ y = some (.bool b)) : PV P n ρ ⟨dst, .binOp .eql t x y u, ty, pos, af, g⟩ (.bool (decide (a = b))) := fun a' w gr => by
  simp [execOp, eqGuard, binOp, gr.eval hx, gr.eval hy, run_eqBool ht.und]
  cases a <;> cases b <;> rfl
theorem PV.neB {dst : Option Nat} {x y : Operand} {a b : Bool} {t u : TypeId} [ht : TBo P t] (hx : ev ρ x = some (.bool a)) (hy : ev ρ y = some (.bool b)) : PV P n ρ ⟨dst, .binOp .neq t x y u, ty, pos, af, g⟩ (.bool (decide (¬ a = b))) := fun a' w gr => by
  simp [execOp, eqGuard, binOp, gr.eval hx, gr.eval hy, run_eqBool ht.und]
  cases a <;> cases b <;> rfl
end
end SL
end
section
set_option linter.unusedVariables false
set_option linter.unusedSimpArgs false
namespace SL
open Go
section
variable {κ : Type}
def ents (kv : κ → Value) : List (κ × Value) → List Nat → List MapEntry
  | (k, v) :: l, b :: bs => { key := kv k, val := v, born := b } :: ents kv l bs
  | _, _ => []
def get [DecidableEq κ] (k : κ) : List (κ × Value) → Option Value
  | [] => none
  | p :: l => if p.1 = k then some p.2 else get k l
def upd [DecidableEq κ] (k : κ) (v : Value) : List (κ × Value) → List (κ × Value)
  | [] => [(k, v)]
  | p :: l => if p.1 = k then (k, v) :: l else p :: upd k v l
def del [DecidableEq κ] (k : κ) : List (κ × Value) → List (κ × Value)
  | [] => []
  | p :: l => if p.1 = k then l else p :: del k l
def fnd [DecidableEq κ] (k : κ) : List (κ × Value) → Nat → Option (Nat × Value)
  | [], _ => none
  | p :: l, i => if p.1 = k then some (i, p.2) else fnd k l (i + 1)
theorem fnd_get [DecidableEq κ] (k : κ) : ∀ (l : List (κ × Value)) (i : Nat), (fnd k l i).map (·.2) = get k l
  | [], i => rfl
  | p :: l, i => by simp only [fnd, get]; split <;> simp [fnd_get k l (i + 1)]
structure Good (l : List (κ × Value)) (bs : List Nat) (clock : Nat) : Prop where
  keys : (l.map (·.1)).Nodup
  len : bs.length = l.length
  nd : bs.Nodup
  lt : ∀ b ∈ bs, b < clock
theorem ents_length (kv : κ → Value) : ∀ (l : List (κ × Value)) (bs : List Nat), bs.length = l.length → (ents kv l bs).length = l.length
  | [], [], _ => rfl
  | p :: l, b :: bs, h => by simp [ents, ents_length kv l bs (by simpa using h)]
  | [], b :: bs, h => by simp at h
  | p :: l, [], h => by simp at h
theorem ents_get (kv : κ → Value) : ∀ (l : List (κ × Value)) (bs : List Nat) (i : Nat), bs.length = l.length → (ents kv l bs)[i]? = (l[i]?).bind fun p => (bs[i]?).map fun b => { key := kv p.1, val := p.2, born := b }
  | [], [], i, _ => by simp [ents]
  | p :: l, b :: bs, 0, h => by simp [ents]
  | p :: l, b :: bs, i + 1, h => by simpa [ents] using ents_get kv l bs i (by simpa using h)
  | [], b :: bs, _, h => by simp at h
  | p :: l, [], _, h => by simp at h
class TKy (P : Program) (kt : Nat) (κ : outParam Type) (kv : outParam (κ → Value)) : Prop where
  check : ∀ (e : Bool) (k : κ) (w : World), (Instr.checkKey e 10000 kt (kv k)).run P w = .ok () w
  find : ∀ (dec : DecidableEq κ) (w : World) (k : κ) (l : List (κ × Value)) (bs : List Nat), bs.length = l.length → (Instr.findKey kt (kv k) (ents kv l bs)).run P w = .ok (fnd k l 0) w
  stay : ∀ k, Instr.sameBits 10000 (kv k) (kv k) = true
theorem findNow_int {P : Program} (ik ik' : IntKind) (k : Int) : ∀ (l : List (Int × Value)) (bs : List Nat) (i : Nat), bs.length = l.length →
    Instr.findNow (.int ik') (.int ik k) (ents (Value.int ik) l bs) i = some (fnd k l i)
  | [], [], i, _ => rfl
  | p :: l, b :: bs, i, h => by
    simp only [ents, Instr.findNow, Instr.sameNow, if_true, fnd]
    by_cases e : p.1 = k
    · simp [e]
    · have : (k == p.1) = false := by simpa using fun c => e c.symm
      rw [this, if_neg e]
      exact findNow_int (P := P) ik ik' k l bs (i + 1) (by simpa using h)
  | [], b :: bs, _, h => by simp at h
  | p :: l, [], _, h => by simp at h
theorem TKy.int {P : Program} {kt : Nat} {ik : IntKind} (h : P.underlying kt = some (.int ik)) : TKy P kt Int (Value.int ik) :=
  ⟨fun e k w => by
    show (Instr.checkKey e (9999 + 1) kt (.int ik k)).run P w = _
    generalize 9999 = m
    simp only [Instr.checkKey, Sem.run_bind, run_und h, Go.Result.andThen_ok, Sem.run_pure],
   fun dec w k l bs hl => by
    have hd : dec = Int.instDecidableEq := Subsingleton.elim _ _
    subst hd
    simp only [Instr.findKey, Sem.run_bind, run_und h, Go.Result.andThen_ok, findNow_int (P := P) ik ik k l bs 0 hl, Sem.run_pure],
   fun k => by simp [Instr.sameBits]⟩
theorem run_checkFlat {P : Program} {e : Bool} {m : Nat} (w : World) (xs : List Value) : ∀ (fs : List Field) (ds : List Nat) (i : Nat), flatAt P fs ds i = true → okPairs ds (xs.drop i) (xs.drop i) = true →
    (forIn (m := Sem) fs PUnit.unit fun f _ => do
      if f.name ≠ "_" then do
        Instr.checkKey e (m + 1) f.type (← part f.type xs.toArray f.offset)
        pure (ForInStep.yield PUnit.unit)
      else pure (ForInStep.yield PUnit.unit)).run P w = .ok PUnit.unit w
  | [], ds, i, h, hp => by simp
  | f :: fs, [], i, h, hp => by simp [flatAt] at h
  | f :: fs, d :: ds, i, h, hp => by
    simp only [flatAt, Bool.and_eq_true, bne_iff_ne, ne_eq, beq_iff_eq] at h
    obtain ⟨⟨⟨h1, h2⟩, h3⟩, h4⟩ := h
    cases hx : xs.drop i with
    | nil => simp [hx, okPairs] at hp
    | cons a x =>
      simp only [hx, okPairs, Bool.and_eq_true] at hp
      have ex : xs[i]? = some a := by rw [← List.head?_drop, hx]; rfl
      have dx : xs.drop (i + 1) = x := by rw [← List.tail_drop, hx]; rfl
      have ih := run_checkFlat (P := P) (e := e) (m := m) w xs fs ds (i + 1) h4 (by rw [dx]; exact hp.2)
      have hc : (Instr.checkKey e (m + 1) f.type a).run P w = .ok () w := by
        unfold isKd at h3
        split at h3
        · split at h3
          · rename_i k hu; cases a <;> simp [okPair] at hp <;> simp [Instr.checkKey, run_und hu]
          · cases h3
        · split at h3
          · rename_i hu; cases a <;> simp [okPair] at hp <;> simp [Instr.checkKey, run_und hu]
          · cases h3
        · split at h3
          · rename_i hu; cases a <;> simp [okPair] at hp <;> simp [Instr.checkKey, run_und hu]
          · cases h3
        · cases h3
      subst h2
      simp only [List.forIn_cons, Sem.run_bind, ne_eq, h1, not_false_eq_true, if_true, run_part1 h3 ex w, hc, Go.Result.andThen_ok, Sem.run_pure]
      exact ih
theorem TKy.flat {P : Program} {kt : Nat} {ds : List Nat} [ht : TFl P kt ds] (cs : κ → List Value) (h1 : ∀ a b, okPairs ds (cs a) (cs b) = true) (h2 : ∀ a b, eqCells (cs a) (cs b) = true ↔ a = b)
    (h3 : ∀ k, Instr.sameBits 10000 (.agg (cs k).toArray) (.agg (cs k).toArray) = true) : TKy P kt κ (fun k => .agg (cs k).toArray) where
  check := fun e k w => by
    show (Instr.checkKey e (9998 + 1 + 1) kt (.agg (cs k).toArray)).run P w = _
    have := run_checkFlat (P := P) (e := e) (m := 9998) w (cs k) (P.fieldsOf kt).toList ds 0 ht.flat (by simpa using h1 k k)
    generalize 9998 = m at this ⊢
    rw [Instr.checkKey]
    simp only [Sem.run_bind, run_und ht.und, Go.Result.andThen_ok]
    rw [← Array.forIn_toList]
    rw [this]
    rfl
  find := fun dec w k l bs hl => by
    have ask : ∀ (l : List (κ × Value)) (bs : List Nat) (i : Nat), bs.length = l.length → (Instr.findAsking kt (.agg (cs k).toArray) (ents (fun k => Value.agg (cs k).toArray) l bs) i).run P w = .ok (@fnd κ dec k l i) w := by
      intro l
      induction l with
      | nil => intro bs i h; cases bs <;> simp at h; simp [ents, Instr.findAsking, fnd]
      | cons p l ih =>
        intro bs i h
        cases bs with
        | nil => simp at h
        | cons b bs =>
          have e := run_eqFlat (P := P) (m := 9998) w (cs k) (cs p.1) (P.fieldsOf kt).toList ds 0 ht.flat (by simpa using h1 k p.1)
          have e2 := run_equalIn_struct w 9999 kt (cs k).toArray (cs p.1).toArray ht.und ht.held
          simp only [List.drop_zero] at e
          rw [e] at e2
          have e3 : (Op.equal kt (.agg (cs k).toArray) (.agg (cs p.1).toArray)).run P w = .ok (eqCells (cs k) (cs p.1)) w := e2
          simp only [ents, Instr.findAsking, Sem.run_bind, e3, Go.Result.andThen_ok, fnd]
          by_cases c : p.1 = k
          · have : eqCells (cs k) (cs p.1) = true := (h2 _ _).2 c.symm
            simp only [this, if_pos c]
            rfl
          · have : eqCells (cs k) (cs p.1) = false := by
              cases hh : eqCells (cs k) (cs p.1)
              · rfl
              · exact absurd ((h2 _ _).1 hh).symm c
            simp only [this, Bool.false_eq_true, if_false, if_neg c]
            exact ih bs (i + 1) (by simpa using h)
    cases l with
    | nil => cases bs <;> simp at hl; simp [Instr.findKey, run_und ht.und, ents, Instr.findNow, fnd]
    | cons p l =>
      cases bs with
      | nil => simp at hl
      | cons b bs =>
        have := ask (p :: l) (b :: bs) 0 hl
        simp only [Instr.findKey, Sem.run_bind, run_und ht.und, Go.Result.andThen_ok]
        have hn : Instr.findNow (.struct (P.fieldsOf kt)) (.agg (cs k).toArray) (ents (fun k => Value.agg (cs k).toArray) (p :: l) (b :: bs)) 0 = Option.none := by simp [ents, Instr.findNow, Instr.sameNow]
        rw [hn]
        exact this
  stay := h3
def ItOk (l : List (κ × Value)) (bs : List Nat) (seen : Array Nat) (done : List κ) : Prop :=
  (∀ (i : Nat) (k : κ) (v : Value) (b : Nat), l[i]? = some (k, v) → bs[i]? = some b → (b ∈ seen ↔ k ∈ done)) ∧
  (∀ (q : κ) (ds : List κ) (i : Nat) (v : Value) (b : Nat), done = q :: ds → l[i]? = some (q, v) → bs[i]? = some b → seen.back? = some b)
def mpI (kv : κ → Value) (m : Nat) (l : List (κ × Value)) : Option (Nat × List κ) → HProp
  | none => ex fun p : List Nat × Nat => seps [fact (Good l p.1 p.2), pt m (.map (ents kv l p.1).toArray p.2)]
  | some (it, done) => ex fun p : List Nat × Nat × Array Nat => seps [fact (Good l p.1 p.2.1 ∧ ItOk l p.1 p.2.2 done),
      pt m (.map (ents kv l p.1).toArray p.2.1), pt it (.mapIter (some m) p.2.1 p.2.2 p.2.1)]
abbrev mp (kv : κ → Value) (m : Nat) (l : List (κ × Value)) : HProp := mpI kv m l none
theorem upd_none [DecidableEq κ] {k : κ} {v : Value} : ∀ {l : List (κ × Value)} {i : Nat}, fnd k l i = none → upd k v l = l ++ [(k, v)]
  | [], i, _ => rfl
  | p :: l, i, h => by
    simp only [fnd] at h
    split at h
    · cases h
    · rename_i c; simp only [upd, if_neg c, upd_none h, List.cons_append]
theorem fnd_none_mem [DecidableEq κ] {k : κ} : ∀ {l : List (κ × Value)} {i : Nat}, fnd k l i = none → k ∉ l.map (·.1)
  | [], i, _ => by simp
  | p :: l, i, h => by
    simp only [fnd] at h
    split at h
    · cases h
    · rename_i c
      simp only [List.map_cons, List.mem_cons, not_or]
      exact ⟨fun e => c e.symm, fnd_none_mem h⟩
theorem fnd_some [DecidableEq κ] {k : κ} : ∀ {l : List (κ × Value)} {i j : Nat} {v : Value}, fnd k l i = some (j, v) → i ≤ j ∧ l[j - i]? = some (k, v)
  | [], i, j, v, h => by simp [fnd] at h
  | p :: l, i, j, v, h => by
    simp only [fnd] at h
    split at h
    · rename_i c
      simp only [Option.some.injEq, Prod.mk.injEq] at h
      obtain ⟨rfl, rfl⟩ := h
      subst c
      simp
    · obtain ⟨h1, h2⟩ := fnd_some h
      refine ⟨by omega, ?_⟩
      rw [show j - i = (j - (i + 1)) + 1 from by omega]
      simpa using h2
theorem upd_some [DecidableEq κ] {k : κ} {v' : Value} : ∀ {l : List (κ × Value)} {i j : Nat} {v : Value}, fnd k l i = some (j, v) → upd k v' l = l.set (j - i) (k, v')
  | [], i, j, v, h => by simp [fnd] at h
  | p :: l, i, j, v, h => by
    simp only [fnd] at h
    split at h
    · rename_i c
      simp only [Option.some.injEq, Prod.mk.injEq] at h
      obtain ⟨rfl, rfl⟩ := h
      simp [upd, c]
    · rename_i c
      have := (fnd_some h).1
      simp only [upd, if_neg c, upd_some h]
      rw [show j - i = (j - (i + 1)) + 1 from by omega]
      simp
theorem del_some [DecidableEq κ] {k : κ} : ∀ {l : List (κ × Value)} {i j : Nat} {v : Value}, fnd k l i = some (j, v) → del k l = l.eraseIdx (j - i)
  | [], i, j, v, h => by simp [fnd] at h
  | p :: l, i, j, v, h => by
    simp only [fnd] at h
    split at h
    · rename_i c
      simp only [Option.some.injEq, Prod.mk.injEq] at h
      obtain ⟨rfl, rfl⟩ := h
      simp [del, c]
    · rename_i c
      have := (fnd_some h).1
      simp only [del, if_neg c, del_some h]
      rw [show j - i = (j - (i + 1)) + 1 from by omega]
      simp
theorem del_none [DecidableEq κ] {k : κ} : ∀ {l : List (κ × Value)} {i : Nat}, fnd k l i = none → del k l = l
  | [], i, _ => rfl
  | p :: l, i, h => by
    simp only [fnd] at h
    split at h
    · cases h
    · rename_i c; simp only [del, if_neg c, del_none h]
theorem ents_set (kv : κ → Value) (k : κ) (v v' : Value) : ∀ (l : List (κ × Value)) (bs : List Nat) (j : Nat), bs.length = l.length → l[j]? = some (k, v) →
    ents kv (l.set j (k, v')) bs = (ents kv l bs).modify j fun e => { e with key := kv k, val := v' }
  | [], bs, j, _, h => by simp at h
  | p :: l, [], j, h, _ => by simp at h
  | p :: l, b :: bs, 0, h, hj => by simp at hj; subst hj; simp [ents]
  | p :: l, b :: bs, j + 1, h, hj => by
    simp only [List.set_cons_succ, ents, List.modify_succ_cons]
    rw [ents_set kv k v v' l bs j (by simpa using h) (by simpa using hj)]
theorem ents_snoc (kv : κ → Value) (k : κ) (v : Value) (b : Nat) : ∀ (l : List (κ × Value)) (bs : List Nat), bs.length = l.length → ents kv (l ++ [(k, v)]) (bs ++ [b]) = ents kv l bs ++ [{ key := kv k, val := v, born := b }]
  | [], [], _ => rfl
  | p :: l, c :: bs, h => by simp [ents, ents_snoc kv k v b l bs (by simpa using h)]
  | [], c :: bs, h => by simp at h
  | p :: l, [], h => by simp at h
theorem ents_erase (kv : κ → Value) : ∀ (l : List (κ × Value)) (bs : List Nat) (j : Nat), bs.length = l.length → ents kv (l.eraseIdx j) (bs.eraseIdx j) = (ents kv l bs).eraseIdx j
  | [], [], _, _ => by simp [ents]
  | p :: l, b :: bs, 0, h => by simp [ents]
  | p :: l, b :: bs, j + 1, h => by simp [ents, ents_erase kv l bs j (by simpa using h)]
  | [], b :: bs, _, h => by simp at h
  | p :: l, [], _, h => by simp at h
theorem Good.snoc {l : List (κ × Value)} {bs : List Nat} {c : Nat} (g : Good l bs c) {k : κ} (h : k ∉ l.map (·.1)) (v : Value) : Good (l ++ [(k, v)]) (bs ++ [c]) (c + 1) := by
  obtain ⟨h1, h2, h3, h4⟩ := g
  refine ⟨?_, by simp [h2], ?_, ?_⟩
  · rw [List.map_append, List.nodup_append]
    refine ⟨h1, by simp, ?_⟩
    intro a ha b hb
    simp at hb
    subst hb
    intro e
    exact h (e ▸ ha)
  · rw [List.nodup_append]
    refine ⟨h3, by simp, ?_⟩
    intro a ha b hb
    simp at hb
    have := h4 a ha
    omega
  · intro b hb
    simp only [List.mem_append, List.mem_singleton] at hb
    rcases hb with hb | rfl
    · have := h4 b hb; omega
    · omega
theorem Good.set {l : List (κ × Value)} {bs : List Nat} {c j : Nat} (g : Good l bs c) {k : κ} {v v' : Value} (h : l[j]? = some (k, v)) : Good (l.set j (k, v')) bs c := by
  obtain ⟨h1, h2, h3, h4⟩ := g
  refine ⟨?_, by simpa using h2, h3, h4⟩
  have : (l.set j (k, v')).map (·.1) = l.map (·.1) := by
    rw [List.map_set]
    apply List.ext_getElem?
    intro i
    by_cases e : j = i
    · subst e
      have hlt : j < l.length := (List.getElem?_eq_some_iff.1 h).1
      simp [List.getElem?_set, hlt]
      have := (List.getElem?_eq_some_iff.1 h).2
      rw [this]
    · simp [List.getElem?_set, e]
  rw [this]; exact h1
theorem Good.erase {l : List (κ × Value)} {bs : List Nat} {c j : Nat} (g : Good l bs c) : Good (l.eraseIdx j) (bs.eraseIdx j) c := by
  obtain ⟨h1, h2, h3, h4⟩ := g
  refine ⟨?_, by simp [List.length_eraseIdx, h2], h3.sublist (List.eraseIdx_sublist _ _), fun b hb => h4 b ((List.eraseIdx_sublist _ _).mem hb)⟩
  have : (l.eraseIdx j).map (·.1) = (l.map (·.1)).eraseIdx j := by
    rw [List.eraseIdx_eq_take_drop_succ, List.eraseIdx_eq_take_drop_succ, List.map_append, List.map_take, List.map_drop]
  rw [this]
  exact h1.sublist (List.eraseIdx_sublist _ _)
end
end SL
end
section
set_option linter.unusedVariables false
set_option linter.unusedSimpArgs false
namespace SL
open Go
section
variable {w0 w : World} {L L' r : List HProp} {F : HProp}
theorem Sat.exC {α : Type} {p : α → HProp} (s : Sat w0 L F w) (k : Pick L (ex p) r) : ∃ x, Sat w0 (p x :: r) F w := by
  obtain ⟨hp, hs, h1, h2, d, rfl, x, y⟩ := s.heap
  obtain ⟨h3, h4, d', rfl, ⟨z, hz⟩, q⟩ := (k _).1 x
  exact ⟨z, s.os, s.tape, s.out, _, hs, ⟨join h3 h4, h2, d, rfl, ⟨h3, h4, d', rfl, hz, q⟩, y⟩⟩
theorem Sat.sepsC {m : List HProp} (s : Sat w0 L F w) (k : Pick L (seps m) r) : Sat w0 (m ++ r) F w := s.map fun _ a => seps_append.2 ((k _).1 a)
variable {κ : Type} {kv : κ → Value} {m : Nat} {l : List (κ × Value)} {o : Option (Nat × List κ)}
theorem Sat.openMp (s : Sat w0 L F w) (k : Pick L (mpI kv m l none) r) : ∃ bs clock, Good l bs clock ∧ Sat w0 (pt m (.map (ents kv l bs).toArray clock) :: r) F w := by
  obtain ⟨⟨bs, clock⟩, s1⟩ := s.exC k
  have s2 := s1.sepsC Pick.head
  obtain ⟨g, s3⟩ := s2.pickFact Pick.head
  exact ⟨bs, clock, g, s3⟩
theorem Sat.openMpI {it : Nat} {done : List κ} (s : Sat w0 L F w) (k : Pick L (mpI kv m l (some (it, done))) r) : ∃ bs clock seen, Good l bs clock ∧
    ItOk l bs seen done ∧ Sat w0 (pt m (.map (ents kv l bs).toArray clock) :: pt it (.mapIter (some m) clock seen clock) :: r) F w := by
  obtain ⟨⟨bs, clock, seen⟩, s1⟩ := s.exC k
  have s2 := s1.sepsC Pick.head
  obtain ⟨g, s3⟩ := s2.pickFact Pick.head
  exact ⟨bs, clock, seen, g.1, g.2, s3⟩
theorem Sat.shutMp {bs : List Nat} {clock : Nat} (g : Good l bs clock) (s : Sat w0 (pt m (.map (ents kv l bs).toArray clock) :: r) F w) : Sat w0 (mpI kv m l none :: r) F w :=
  s.map fun _ a => sep_mono (fun _ x => ⟨(bs, clock), sep_fact.2 ⟨g, sep_comm (sep_emp.2 x)⟩⟩) (fun _ x => x) a
theorem Sat.shutMpI {it : Nat} {done : List κ} {bs : List Nat} {clock : Nat} {seen : Array Nat} (g : Good l bs clock) (hs : ItOk l bs seen done)
    (s : Sat w0 (pt m (.map (ents kv l bs).toArray clock) :: pt it (.mapIter (some m) clock seen clock) :: r) F w) : Sat w0 (mpI kv m l (some (it, done)) :: r) F w :=
  s.map fun _ a => by
    have a1 := sep_assoc.2 a
    refine sep_mono (fun _ x => ⟨(bs, clock, seen), sep_fact.2 ⟨⟨g, hs⟩, ?_⟩⟩) (fun _ x => x) a1
    exact sep_mono (fun _ y => y) (fun _ y => sep_comm (sep_emp.2 y)) x
theorem Sat.readMp (s : Sat w0 L F w) (k : Pick L (mpI kv m l o) r) : ∃ bs clock, Good l bs clock ∧ w.heap[m]? = some (.map (ents kv l bs).toArray clock) := by
  cases o with
  | none =>
    obtain ⟨bs, c, g, s1⟩ := s.openMp k
    exact ⟨bs, c, g, s1.read Pick.head⟩
  | some p =>
    obtain ⟨it, done⟩ := p
    obtain ⟨bs, c, seen, g, _, s1⟩ := s.openMpI k
    exact ⟨bs, c, g, s1.read Pick.head⟩
theorem mpI_done {it : Nat} {done : List κ} : EntD (mpI kv m l (some (it, done)) :: L) (mpI kv m l none :: L) := fun w0 F w s => by
  obtain ⟨bs, c, seen, g, _, s1⟩ := s.openMpI Pick.head
  exact Sat.shutMp g (s1.drop (Pick.tail Pick.head))
end
theorem run_getObj {P : Program} {w : World} {b : Nat} {o : Obj} (h : w.heap[b]? = some o) (hn : ∀ c t f, o ≠ .cells c t f) : (getObj b).run P w = .ok o w := by
  cases o with
  | cells c t f => exact absurd rfl (hn c t f)
  | _ => simp [getObj, Sem.run, h]
theorem run_setObj {P : Program} {w : World} {b : Nat} {o o' : Obj} (h : w.heap[b]? = some o) (hn : ∀ c t f, o ≠ .cells c t f) : (setObj b o').run P w = .ok () { w with heap := w.heap.setIfInBounds b o' } := by
  cases o with
  | cells c t f => exact absurd rfl (hn c t f)
  | _ => simp [setObj, Sem.run, h]
theorem run_mapNext {P : Program} {w : World} (n : Nat) : ∃ i dr, (choose (.mapNext n)).run P w = .ok i { w with drawn := dr } ∧ (0 < n → i < n) := by
  by_cases h : n ≤ 1
  · exact ⟨0, w.drawn, by simp [choose, Sem.run, Question.forced, h], fun h => h⟩
  · exact ⟨w.tape w.drawn (.mapNext n) % n, w.drawn + 1, by simp [choose, Sem.run, Question.forced, h, Question.cut], fun h => Nat.mod_lt _ h⟩
section
variable {κ : Type} {kv : κ → Value} {m : Nat} {l : List (κ × Value)} {o : Option (Nat × List κ)}
variable {P : Program} {fid : Fm} {n : Nat} {post : Post} {k : List Item} {ρ ρ' : Env} {ops rest : List Oper} {g : Option (Nat × Bool)} {ty : TypeId} {pos : String} {af : Array Edge} {d : Nat} {sf : Option (List Bool × List HProp)} {L L' r : List HProp}
theorem run_lookup [DecidableEq κ] {t kt e : Nat} {z : Value} [htm : TMp P t kt e] [hky : TKy P kt κ kv] [hz : TZe P e z] {w : World} {bs : List Nat} {clock : Nat} (hl : bs.length = l.length) (hr : w.heap[m]? = some (.map (ents kv l bs).toArray clock)) (q : κ) (ok : Bool) :
    (Instr.lookup t (.map (some m)) (kv q) ok).run P w = .ok (if ok then .tuple #[(get q l).getD z, .bool (get q l).isSome] else (get q l).getD z) w := by
  have hg := run_getObj (P := P) hr (by intro c t f h; cases h)
  have hc : ∀ e, (Instr.checkKey e 10000 kt (kv q)).run P w = .ok () w := fun e => hky.check e q w
  have hf := hky.find inferInstance w q l bs hl
  have e := fnd_get q l 0
  simp only [Instr.lookup, Sem.run_bind, run_und htm.und, Go.Result.andThen_ok, hg, Sem.run_pure, hc, hf]
  cases hfd : fnd q l 0 with
  | none =>
    rw [hfd] at e
    simp only [Option.map_none] at e
    rw [← e]
    cases ok <;> simp [hz.run]
  | some p =>
    rw [hfd] at e
    simp only [Option.map_some] at e
    rw [← e]
    cases ok <;> simp
theorem TO.lookupOk [DecidableEq κ] {x kk : Operand} {t kt e : Nat} {z : Value} {q : κ} [htm : TMp P t kt e] [hky : TKy P kt κ kv] [hz : TZe P e z] (hw : wants ops ρ g = some true) (hd : Nat.blt d n = true)
    (hx : ev ρ x = some (.map (some m))) (hk : ev ρ kk = some (kv q)) (hp : Pick L (mpI kv m l o) r)
    (h : TO P fid n post ops rest sf k ((d, .tuple [(get q l).getD z, .bool (get q l).isSome].toArray) :: ρ) L) : TO P fid n post ops (⟨some d, .lookup t x kk true, ty, pos, af, g⟩ :: rest) sf k ρ L :=
  TO.val hw hd fun w0 F a w gr st => by
    obtain ⟨bs, c, gd, hr⟩ := st.readMp hp
    have := run_lookup (P := P) (t := t) (z := z) gd.len hr q true
    refine ⟨_, L, w, ?_, st, h⟩
    simp only [execOp, Sem.run_bind, gr.eval hx, gr.eval hk, this, Go.Result.andThen_ok, Sem.run_pure, if_true]
theorem TO.lookup [DecidableEq κ] {x kk : Operand} {t kt e : Nat} {z : Value} {q : κ} [htm : TMp P t kt e] [hky : TKy P kt κ kv] [hz : TZe P e z] (hw : wants ops ρ g = some true) (hd : Nat.blt d n = true)
    (hx : ev ρ x = some (.map (some m))) (hk : ev ρ kk = some (kv q)) (hp : Pick L (mpI kv m l o) r)
    (h : TO P fid n post ops rest sf k ((d, (get q l).getD z) :: ρ) L) : TO P fid n post ops (⟨some d, .lookup t x kk false, ty, pos, af, g⟩ :: rest) sf k ρ L :=
  TO.val hw hd fun w0 F a w gr st => by
    obtain ⟨bs, c, gd, hr⟩ := st.readMp hp
    have := run_lookup (P := P) (t := t) (z := z) gd.len hr q false
    refine ⟨_, L, w, ?_, st, h⟩
    simp [execOp, gr.eval hx, gr.eval hk, this]
theorem TO.lenMp {x : Operand} {t kt e : Nat} [ht : TMp P t kt e] (hw : wants ops ρ g = some true) (hd : Nat.blt d n = true)
    (hx : ev ρ x = some (.map (some m))) (hp : Pick L (mpI kv m l o) r) (h : TO P fid n post ops rest sf k ((d, .int .i64 l.length) :: ρ) L) : TO P fid n post ops (⟨some d, .call ⟨.builtin .len, [x].toArray, [t].toArray⟩, ty, pos, af, g⟩ :: rest) sf k ρ L :=
  TO.val hw hd fun w0 F a w gr st => by
    obtain ⟨bs, c, gd, hr⟩ := st.readMp hp
    have hg := run_getObj (P := P) hr (by intro c t f h; cases h)
    refine ⟨_, L, w, ?_, st, h⟩
    simp [execOp, resolve, invoke, builtin, gr.eval hx, Builtin.len_, run_und ht.und, goInt, hg, ents_length kv l bs gd.len]
theorem TO.makeMap {t kt e : Nat} [ht : TMp P t kt e] [hky : TKy P kt κ kv] (hw : wants ops ρ g = some true) (hd : Nat.blt d n = true)
    (h : ∀ b, TO P fid n post ops rest sf k ((d, .map (some b)) :: ρ) (mpI kv b [] none :: L)) : TO P fid n post ops (⟨some d, .makeMap t none, ty, pos, af, g⟩ :: rest) sf k ρ L :=
  TO.val hw hd fun w0 F a w gr st => by
    refine ⟨.map (some w.heap.size), _, { w with heap := w.heap.push (.map #[] 0) }, by simp [execOp, Instr.makeMap, newObj, Sem.run], ?_, h w.heap.size⟩
    exact Sat.shutMp (l := []) (bs := []) (clock := 0) ⟨by simp, rfl, by simp, by simp⟩ (st.new (o := .map #[] 0))
theorem run_update [DecidableEq κ] {t kt e : Nat} [htm : TMp P t kt e] [hky : TKy P kt κ kv] {w : World} {bs : List Nat} {clock : Nat} (gd : Good l bs clock) (hr : w.heap[m]? = some (.map (ents kv l bs).toArray clock)) (q : κ) (v : Value) :
    ∃ bs' clock', Good (upd q v l) bs' clock' ∧ ((get q l).isSome = true → bs' = bs ∧ clock' = clock ∧ ∃ i v0, fnd q l 0 = some (i, v0)) ∧
      (Instr.mapUpdate t (.map (some m)) (kv q) v).run P w = .ok () { w with heap := w.heap.setIfInBounds m (.map (ents kv (upd q v l) bs').toArray clock') } := by
  have hg := run_getObj (P := P) hr (by intro c t f h; cases h)
  have hs : ∀ o', (setObj m o').run P w = .ok () { w with heap := w.heap.setIfInBounds m o' } := fun o' => run_setObj hr (by intro c t f h; cases h)
  have hc : ∀ e, (Instr.checkKey e 10000 kt (kv q)).run P w = .ok () w := fun e => hky.check e q w
  have hf := hky.find inferInstance w q l bs gd.len
  have e := fnd_get q l 0
  cases hfd : fnd q l 0 with
  | none =>
    refine ⟨bs ++ [clock], clock + 1, ?_, ?_, ?_⟩
    · rw [upd_none hfd]; exact gd.snoc (fnd_none_mem hfd) v
    · rw [hfd] at e; simp at e; rw [← e]; intro h; simp at h
    · simp only [Instr.mapUpdate, Sem.run_bind, run_und htm.und, Go.Result.andThen_ok, hg, hc, hf, hfd, hs]
      rw [upd_none hfd, ents_snoc kv q v clock l bs gd.len]
      simp
  | some p =>
    obtain ⟨i, v0⟩ := p
    have hi := (fnd_some hfd).2
    simp only [Nat.sub_zero] at hi
    refine ⟨bs, clock, ?_, fun _ => ⟨rfl, rfl, i, v0, rfl⟩, ?_⟩
    · rw [upd_some hfd]; exact gd.set (v := v0) (by simpa using hi)
    · have hb : ∃ b, bs[i]? = some b := ⟨bs[i]'(by rw [gd.len]; exact (List.getElem?_eq_some_iff.1 hi).1), by simp [gd.len, (List.getElem?_eq_some_iff.1 hi).1]⟩
      obtain ⟨b, hb⟩ := hb
      have hkey : (((ents kv l bs).toArray[i]?).map (·.key)).getD (kv q) = kv q := by
        simp [ents_get kv l bs i gd.len, hi, hb]
      have hst : (Instr.keyThatStays (kv q) (kv q)).run P w = .ok (kv q) w := by simp [Instr.keyThatStays, hky.stay]
      simp only [Instr.mapUpdate, Sem.run_bind, run_und htm.und, Go.Result.andThen_ok, hg, hc, hf, hfd, hkey, hst, hs]
      rw [upd_some hfd]
      simp only [Nat.sub_zero]
      rw [ents_set kv q v0 v l bs i gd.len hi]
      simp
theorem TO.mapUpdate [DecidableEq κ] {x kk y : Operand} {t kt e : Nat} {q : κ} {v : Value} [htm : TMp P t kt e] [hky : TKy P kt κ kv] (hw : wants ops ρ g = some true)
    (hx : ev ρ x = some (.map (some m))) (hk : ev ρ kk = some (kv q)) (hv : ev ρ y = some v) (hp : Pick L (mpI kv m l o) r) (ho : o = none ∨ (get q l).isSome = true)
    (h : TO P fid n post ops rest sf k ρ (mpI kv m (upd q v l) o :: r)) : TO P fid n post ops (⟨none, .mapUpdate t x kk y, ty, pos, af, g⟩ :: rest) sf k ρ L :=
  TO.unit hw rfl fun w0 F a w gr st => by
    cases o with
    | none =>
      obtain ⟨bs, c, gd, s1⟩ := st.openMp hp
      obtain ⟨bs', c', gd', _, hrun⟩ := run_update (P := P) (t := t) gd (s1.read Pick.head) q v
      refine ⟨_, _, ?_, Sat.shutMp gd' (s1.write Pick.head), h⟩
      simp [execOp, gr.eval hx, gr.eval hk, gr.eval hv, hrun]
    | some p =>
      obtain ⟨it, done⟩ := p
      have ho' : (get q l).isSome = true := by rcases ho with h | h; cases h; exact h
      obtain ⟨bs, c, seen, gd, hs, s1⟩ := st.openMpI hp
      obtain ⟨bs', c', gd', hsame, hrun⟩ := run_update (P := P) (t := t) gd (s1.read Pick.head) q v
      obtain ⟨rfl, rfl, i, v0, hfd⟩ := hsame ho'
      refine ⟨_, _, ?_, Sat.shutMpI gd' ?_ (s1.write Pick.head), h⟩
      · simp [execOp, gr.eval hx, gr.eval hk, gr.eval hv, hrun]
      · have key : ∀ (j : Nat) (k' : κ) (v' : Value), (upd q v l)[j]? = some (k', v') → ∃ v'', l[j]? = some (k', v'') := by
          intro j k' v' hj
          rw [upd_some hfd, Nat.sub_zero] at hj
          by_cases e : i = j
          · subst e
            have hi := (fnd_some hfd).2
            have hlt : i < l.length := (List.getElem?_eq_some_iff.1 hi).1
            simp [hlt] at hj
            obtain ⟨rfl, rfl⟩ := hj
            exact ⟨v0, by simpa using hi⟩
          · rw [List.getElem?_set_ne e] at hj
            exact ⟨v', hj⟩
        refine ⟨fun j k' v' b hj hb => ?_, fun q' ds j v' b hd hj hb => ?_⟩
        · obtain ⟨v'', h'⟩ := key j k' v' hj
          exact hs.1 j k' v'' b h' hb
        · obtain ⟨v'', h'⟩ := key j q' v' hj
          exact hs.2 q' ds j v'' b hd h' hb
theorem TO.range {x : Operand} {t kt e : Nat} [htm : TMp P t kt e] (hw : wants ops ρ g = some true) (hd : Nat.blt d n = true)
    (hx : ev ρ x = some (.map (some m))) (hp : Pick L (mpI kv m l none) r)
    (h : ∀ it, TO P fid n post ops rest sf k ((d, .pointer (some ⟨it, 0, none⟩)) :: ρ) (mpI kv m l (some (it, [])) :: r)) : TO P fid n post ops (⟨some d, .range t x, ty, pos, af, g⟩ :: rest) sf k ρ L :=
  TO.val hw hd fun w0 F a w gr st => by
    obtain ⟨bs, c, gd, s1⟩ := st.openMp hp
    have hg := run_getObj (P := P) (s1.read Pick.head) (by intro c t f h; cases h)
    have s2 := (s1.new (o := .mapIter (some m) c #[] c))
    refine ⟨.pointer (some ⟨w.heap.size, 0, none⟩), _, { w with heap := w.heap.push (.mapIter (some m) c #[] c) }, ?_, Sat.shutMpI (r := r) (done := []) (it := w.heap.size) (seen := #[]) gd ⟨by simp, by simp⟩ ?_, h w.heap.size⟩
    · simp [execOp, gr.eval hx, Instr.range, run_und htm.und, hg, newObj, Sem.run]
    · refine s2.map fun _ a => ?_
      have a1 := sep_assoc.2 a
      exact sep_assoc.1 (sep_mono (fun _ y => sep_comm y) (fun _ y => y) a1)
theorem TO.next {x : Operand} {it : Nat} {done : List κ} (hw : wants ops ρ g = some true) (hd : Nat.blt d n = true)
    (hx : ev ρ x = some (.pointer (some ⟨it, 0, none⟩))) (hp : Pick L (mpI kv m l (some (it, done))) r)
    (hend : (∀ p ∈ l, p.1 ∈ done) → TO P fid n post ops rest sf k ((d, .tuple [.bool false].toArray) :: ρ) (mpI kv m l (some (it, done)) :: r))
    (hnext : ∀ q v, (q, v) ∈ l → q ∉ done → TO P fid n post ops rest sf k ((d, .tuple [.bool true, kv q, v].toArray) :: ρ) (mpI kv m l (some (it, q :: done)) :: r)) :
    TO P fid n post ops (⟨some d, .next x false, ty, pos, af, g⟩ :: rest) sf k ρ L :=
  TO.val hw hd fun w0 F a w gr st => by
    obtain ⟨bs, c, seen, gd, hs, s1⟩ := st.openMpI hp
    have hg1 := run_getObj (P := P) (s1.read (Pick.tail Pick.head)) (by intro c t f h; cases h)
    have hg2 := run_getObj (P := P) (s1.read Pick.head) (by intro c t f h; cases h)
    have hborn : ∀ e ∈ ents kv l bs, e.born < c := by
      intro e he
      obtain ⟨i, hi⟩ := List.getElem?_of_mem he
      rw [ents_get kv l bs i gd.len] at hi
      cases hl : l[i]? with
      | none => simp [hl] at hi
      | some p =>
        cases hb : bs[i]? with
        | none => simp [hl, hb] at hi
        | some b => simp [hl, hb] at hi; subst hi; exact gd.lt b (List.mem_of_getElem? hb)
    have hun : (!seen.isEmpty && !(ents kv l bs).toArray.isEmpty && (ents kv l bs).toArray.all fun e => decide (e.born ≥ c)) = false := by
      cases he : ents kv l bs with
      | nil => simp
      | cons e es =>
        have := hborn e (by rw [he]; simp)
        have : ¬ c ≤ e.born := by omega
        simp [this]
    generalize hold : (((ents kv l bs).toArray.filter fun e => !seen.contains e.born).filter fun e => decide (e.born < c)) = old
    have hnew : (((ents kv l bs).toArray.filter fun e => !seen.contains e.born).filter fun e => decide (e.born ≥ c)) = #[] := by
      apply Array.eq_empty_of_size_eq_zero
      rw [Array.size_eq_zero_iff]
      apply Array.filter_eq_empty_iff.2
      intro e he
      have he' : e ∈ ents kv l bs := by
        have := (Array.mem_filter.1 he).1
        simpa using this
      have := hborn e he'
      simp
      omega
    have hmem : ∀ e ∈ old, ∃ (q : κ) (v : Value) (i b : Nat), e = ({ key := kv q, val := v, born := b } : MapEntry) ∧ l[i]? = some (q, v) ∧ bs[i]? = some b ∧ q ∉ done := by
      intro e he
      rw [← hold] at he
      simp only [Array.mem_filter, List.mem_toArray, Bool.not_eq_true'] at he
      obtain ⟨⟨he1, he2⟩, _⟩ := he
      obtain ⟨i, hi⟩ := List.getElem?_of_mem he1
      rw [ents_get kv l bs i gd.len] at hi
      cases hl : l[i]? with
      | none => simp [hl] at hi
      | some p =>
        obtain ⟨q, v⟩ := p
        cases hb : bs[i]? with
        | none => simp [hl, hb] at hi
        | some b =>
          simp [hl, hb] at hi
          subst hi
          exact ⟨q, v, i, b, rfl, hl, hb, fun hq => by have := (hs.1 i q v b hl hb).2 hq; simp [this] at he2⟩
    have hall : old = #[] → ∀ p ∈ l, p.1 ∈ done := by
      intro ho p hp
      obtain ⟨i, hi⟩ := List.getElem?_of_mem hp
      obtain ⟨q, v⟩ := p
      have hb : ∃ b, bs[i]? = some b := ⟨bs[i]'(by rw [gd.len]; exact (List.getElem?_eq_some_iff.1 hi).1), by simp [gd.len, (List.getElem?_eq_some_iff.1 hi).1]⟩
      obtain ⟨b, hb⟩ := hb
      refine (hs.1 i q v b hi hb).1 ?_
      refine Classical.byContradiction fun hns => ?_
      have hin : ({ key := kv q, val := v, born := b } : MapEntry) ∈ ents kv l bs := List.mem_of_getElem? (by rw [ents_get kv l bs i gd.len, hi, hb]; rfl)
      have hm : ({ key := kv q, val := v, born := b } : MapEntry) ∈ old := by
        rw [← hold]
        simp only [Array.mem_filter, List.mem_toArray, Bool.not_eq_true']
        exact ⟨⟨hin, by simpa using hns⟩, by simpa using gd.lt b (List.mem_of_getElem? hb)⟩
      rw [ho] at hm
      simp at hm
    by_cases ho : old = #[]
    · obtain ⟨i, dr, hch, hi⟩ := run_mapNext (P := P) (w := w) 1
      refine ⟨.tuple #[.bool false], _, { w with drawn := dr }, ?_, Sat.shutMpI gd hs (s1.drawn dr), hend (hall ho)⟩
      have hi0 : i = 0 := by have := hi (by omega); omega
      subst hi0
      have ec : ((if old.isEmpty then #[Option.none] else #[]) ++ (old ++ #[]).map some) = #[(Option.none : Option MapEntry)] := by simp [ho]
      have hch' : (choose (.mapNext (#[(Option.none : Option MapEntry)]).size)).run P w = .ok 0 { w with drawn := dr } := hch
      have e2 : (#[(Option.none : Option MapEntry)])[0]? = some Option.none := rfl
      have : (Instr.next (.pointer (some ⟨it, 0, Option.none⟩)) false ty).run P w = .ok (.tuple #[.bool false]) { w with drawn := dr } := by
        simp only [Instr.next, Sem.run_bind, hg1, hg2, Go.Result.andThen_ok, hun, Bool.false_eq_true, if_false, Sem.run_pure, hold, hnew, ec, hch', e2]
      simp only [execOp, Sem.run_bind, gr.eval hx, this, Go.Result.andThen_ok, Sem.run_pure]
    · have hsz : 0 < old.size := by
        rcases Nat.eq_zero_or_pos old.size with h | h
        · exact absurd (Array.eq_empty_of_size_eq_zero h) ho
        · exact h
      have hne : old.isEmpty = false := by
        cases h : old.isEmpty
        · rfl
        · exact absurd (Array.isEmpty_iff.1 h) ho
      have ec : ((if old.isEmpty then #[Option.none] else #[]) ++ (old ++ #[]).map some) = old.map some := by simp [hne]
      obtain ⟨i, dr, hch, hi⟩ := run_mapNext (P := P) (w := w) old.size
      have hi' := hi hsz
      obtain ⟨q, v, j, b, he, hj, hb, hq⟩ := hmem old[i] (Array.getElem_mem hi')
      have s2 := s1.drawn dr
      have hset := run_setObj (P := P) (o' := .mapIter (some m) c (seen.push b) c) (s2.read (Pick.tail Pick.head)) (by intro c t f h; cases h)
      have s3 := s2.write (o' := .mapIter (some m) c (seen.push b) c) (Pick.tail Pick.head)
      refine ⟨.tuple #[.bool true, kv q, v], _, _, ?_, Sat.shutMpI (done := q :: done) (seen := seen.push b) gd ?_ (s3.map fun _ a => ?_), hnext q v (List.mem_of_getElem? hj) hq⟩
      · have e2 : (old.map some)[i]? = some (some old[i]) := by simp [hi']
        have hch' : (choose (.mapNext (old.map some).size)).run P w = .ok i { w with drawn := dr } := by rw [Array.size_map]; exact hch
        have : (Instr.next (.pointer (some ⟨it, 0, Option.none⟩)) false ty).run P w = .ok (.tuple #[.bool true, kv q, v]) { w with drawn := dr, heap := w.heap.setIfInBounds it (.mapIter (some m) c (seen.push b) c) } := by
          simp only [Instr.next, Sem.run_bind, hg1, hg2, Go.Result.andThen_ok, hun, Bool.false_eq_true, if_false, Sem.run_pure, hold, hnew, ec, hch', e2, he, hset]
        simp only [execOp, Sem.run_bind, gr.eval hx, this, Go.Result.andThen_ok, Sem.run_pure]
      · have hbq : ∀ (i' : Nat) (k' : κ) (v' : Value) (b' : Nat), l[i']? = some (k', v') → bs[i']? = some b' → (b' = b ↔ k' = q) := by
          intro i' k' v' b' hl' hb'
          constructor
          · intro e
            subst e
            have : i' = j := (List.getElem?_inj (by have := (List.getElem?_eq_some_iff.1 hb').1; exact this) gd.nd).1 (by rw [hb', hb])
            subst this
            rw [hj] at hl'
            simp at hl'
            exact hl'.1.symm
          · intro e
            subst e
            have h1 : (l.map (·.1))[i']? = some k' := by simp [hl']
            have h2 : (l.map (·.1))[j]? = some k' := by simp [hj]
            have : i' = j := (List.getElem?_inj (by have := (List.getElem?_eq_some_iff.1 h1).1; exact this) gd.keys).1 (by rw [h1, h2])
            subst this
            rw [hb] at hb'
            simpa using hb'.symm
        refine ⟨fun i' k' v' b' hl' hb' => ?_, fun q' ds i' v' b' hd hl' hb' => ?_⟩
        · simp only [Array.mem_push, List.mem_cons]
          rw [hs.1 i' k' v' b' hl' hb', hbq i' k' v' b' hl' hb']
          exact Or.comm
        · simp only [List.cons.injEq] at hd
          rw [(hbq i' q' v' b' hl' hb').2 hd.1.symm]
          simp
      · have a1 := sep_assoc.2 a
        exact sep_assoc.1 (sep_mono (fun _ y => sep_comm y) (fun _ y => y) a1)
theorem TO.entry [DecidableEq κ] {x : Operand} {it : Nat} {q : κ} {ds : List κ} {v : Value} (hw : wants ops ρ g = some true) (hd : Nat.blt d n = true)
    (hx : ev ρ x = some (.pointer (some ⟨it, 0, none⟩))) (hp : Pick L (mpI kv m l (some (it, q :: ds))) r) (hv : (q, v) ∈ l)
    (h : TO P fid n post ops rest sf k ((d, .tuple [kv q, v].toArray) :: ρ) L) : TO P fid n post ops (⟨some d, .entry x, ty, pos, af, g⟩ :: rest) sf k ρ L :=
  TO.val hw hd fun w0 F a w gr st => by
    obtain ⟨bs, c, seen, gd, hs, s1⟩ := st.openMpI hp
    have hg1 := run_getObj (P := P) (s1.read (Pick.tail Pick.head)) (by intro c t f h; cases h)
    have hg2 := run_getObj (P := P) (s1.read Pick.head) (by intro c t f h; cases h)
    obtain ⟨i, hi⟩ := List.getElem?_of_mem hv
    obtain ⟨b, hb⟩ : ∃ b, bs[i]? = some b := ⟨bs[i]'(by rw [gd.len]; exact (List.getElem?_eq_some_iff.1 hi).1), by simp [gd.len, (List.getElem?_eq_some_iff.1 hi).1]⟩
    have hback := hs.2 q ds i v b rfl hi hb
    have hfind : (ents kv l bs).toArray.find? (fun e => e.born == b) = some { key := kv q, val := v, born := b } := by
      rw [List.find?_toArray, List.find?_eq_some_iff_getElem]
      have hlt : i < (ents kv l bs).length := by rw [ents_length kv l bs gd.len]; exact (List.getElem?_eq_some_iff.1 hi).1
      have hgi := ents_get kv l bs i gd.len
      rw [hi, hb, List.getElem?_eq_getElem hlt] at hgi
      simp at hgi
      refine ⟨by simp, i, hlt, hgi, fun j hj => ?_⟩
      have hj' : j < l.length := by rw [ents_length kv l bs gd.len] at hlt; omega
      have e1 : l[j]? = some l[j] := List.getElem?_eq_getElem hj'
      have e2 : bs[j]? = some (bs[j]'(by rw [gd.len]; exact hj')) := List.getElem?_eq_getElem _
      have := ents_get kv l bs j gd.len
      rw [e1, e2, List.getElem?_eq_getElem (by rw [ents_length kv l bs gd.len]; exact hj')] at this
      simp at this
      rw [this]
      simp only [beq_iff_eq, Bool.not_eq_true, Bool.not_eq_true']
      refine beq_eq_false_iff_ne.2 fun hc => ?_
      have : j = i := (List.getElem?_inj (by have := (List.getElem?_eq_some_iff.1 e2).1; exact this) gd.nd).1 (by rw [e2, hb, hc])
      omega
    refine ⟨_, L, w, ?_, st, h⟩
    simp [execOp, gr.eval hx, Instr.entry, hg1, hg2, hback, hfind]
def mpS (kv : κ → Value) (m : Nat) (l : List (κ × Value)) (q : κ) (b : Nat) : HProp :=
  ex fun p : List Nat × Nat => seps [fact (Good l p.1 p.2 ∧ ∃ (i : Nat) (v : Value), l[i]? = some (q, v) ∧ p.1[i]? = some b), pt m (.map (ents kv l p.1).toArray p.2)]
theorem get_mem [DecidableEq κ] {q : κ} {v : Value} : ∀ {l : List (κ × Value)} {i : Nat}, (l.map (·.1)).Nodup → l[i]? = some (q, v) → fnd q l 0 = some (i, v)
  | l, i, hn, hi => by
    have key : ∀ (l : List (κ × Value)) (i s : Nat), (l.map (·.1)).Nodup → l[i]? = some (q, v) → fnd q l s = some (s + i, v) := by
      intro l
      induction l with
      | nil => intro i s _ h; simp at h
      | cons p l ih =>
        intro i s hn h
        cases i with
        | zero => simp at h; subst h; simp [fnd]
        | succ i =>
          have hn' := List.nodup_cons.1 (by simpa using hn : (p.1 :: l.map (·.1)).Nodup)
          have hne : ¬ p.1 = q := by
            intro e
            apply hn'.1
            rw [e]
            exact List.mem_map.2 ⟨(q, v), List.mem_of_getElem? (by simpa using h), rfl⟩
          simp only [fnd, if_neg hne]
          rw [ih i (s + 1) hn'.2 (by simpa using h)]
          congr 2
          omega
    have := key l i 0 hn hi
    rwa [Nat.zero_add] at this
theorem TO.mapEntry [DecidableEq κ] {x kk : Operand} {t kt e : Nat} {z : Value} {q : κ} [htm : TMp P t kt e] [hky : TKy P kt κ kv] [hz : TZe P e z] (hw : wants ops ρ g = some true) (hd : Nat.blt d n = true)
    (hx : ev ρ x = some (.map (some m))) (hk : ev ρ kk = some (kv q)) (hp : Pick L (mpI kv m l none) r)
    (h : ∀ b : Nat, TO P fid n post ops rest sf k ((d, .tuple [(get q l).getD z, .int .i64 b].toArray) :: ρ) (mpS kv m (upd q ((get q l).getD z) l) q b :: r)) : TO P fid n post ops (⟨some d, .mapEntry t x kk, ty, pos, af, g⟩ :: rest) sf k ρ L :=
  TO.val hw hd fun w0 F a w gr st => by
    obtain ⟨bs, c, gd, s1⟩ := st.openMp hp
    have hr := s1.read Pick.head
    have hg := run_getObj (P := P) hr (by intro c t f h; cases h)
    have hs : ∀ o', (setObj m o').run P w = .ok () { w with heap := w.heap.setIfInBounds m o' } := fun o' => run_setObj hr (by intro c t f h; cases h)
    have hc : ∀ e, (Instr.checkKey e 10000 kt (kv q)).run P w = .ok () w := fun e => hky.check e q w
    have hf := hky.find inferInstance w q l bs gd.len
    have e := fnd_get q l 0
    cases hfd : fnd q l 0 with
    | none =>
      rw [hfd] at e
      simp only [Option.map_none] at e
      have hu := upd_none (v := z) hfd
      have gd' := gd.snoc (fnd_none_mem hfd) z
      rw [← hu] at gd'
      refine ⟨.tuple #[z, .int .i64 c], mpS kv m (upd q z l) q c :: r, { w with heap := w.heap.setIfInBounds m (.map (ents kv (upd q z l) (bs ++ [c])).toArray (c + 1)) }, ?_, ?_, ?_⟩
      · simp only [execOp, Sem.run_bind, gr.eval hx, gr.eval hk, Instr.mapEntry, run_und htm.und, Go.Result.andThen_ok, hg, hc, hf, hfd, hz.run, hs, Sem.run_pure, goInt]
        rw [hu, ents_snoc kv q z c l bs gd.len]
        simp
      · refine (s1.write (o' := .map (ents kv (upd q z l) (bs ++ [c])).toArray (c + 1)) Pick.head).map fun _ a => ?_
        refine sep_mono (fun _ x => ⟨(bs ++ [c], c + 1), sep_fact.2 ⟨⟨gd', l.length, z, by rw [hu]; simp, by rw [← gd.len]; simp⟩, sep_comm (sep_emp.2 x)⟩⟩) (fun _ x => x) a
      · have := h c
        rw [← e] at this
        exact this
    | some p =>
      obtain ⟨i, v⟩ := p
      rw [hfd] at e
      simp only [Option.map_some] at e
      have hi := (fnd_some hfd).2
      simp only [Nat.sub_zero] at hi
      obtain ⟨b, hb⟩ : ∃ b, bs[i]? = some b := ⟨bs[i]'(by rw [gd.len]; exact (List.getElem?_eq_some_iff.1 hi).1), by simp [gd.len, (List.getElem?_eq_some_iff.1 hi).1]⟩
      have hent : (ents kv l bs).toArray[i]? = some { key := kv q, val := v, born := b } := by simp [ents_get kv l bs i gd.len, hi, hb]
      have hst : (Instr.keyThatStays (kv q) (kv q)).run P w = .ok (kv q) w := by simp [Instr.keyThatStays, hky.stay]
      have hu : upd q v l = l := by
        rw [upd_some hfd, Nat.sub_zero]
        apply List.ext_getElem?
        intro j
        by_cases ej : i = j
        · subst ej; rw [List.getElem?_set_self (List.getElem?_eq_some_iff.1 hi).1, hi]
        · rw [List.getElem?_set_ne ej]
      have hmod : (ents kv l bs).toArray.modify i (fun e => { e with key := kv q }) = (ents kv l bs).toArray := by
        apply Array.ext'
        simp only [List.modify_toArray]
        apply List.ext_getElem?
        intro j
        rw [List.getElem?_modify]
        have hent' : (ents kv l bs)[i]? = some { key := kv q, val := v, born := b } := by simpa using hent
        by_cases ej : i = j
        · subst ej; simp [hent']
        · simp [ej]
      refine ⟨.tuple #[v, .int .i64 b], mpS kv m (upd q v l) q b :: r, { w with heap := w.heap.setIfInBounds m (.map (ents kv l bs).toArray c) }, ?_, ?_, ?_⟩
      · simp only [execOp, Sem.run_bind, gr.eval hx, gr.eval hk, Instr.mapEntry, run_und htm.und, Go.Result.andThen_ok, hg, hc, hf, hfd, hent, Option.map_some, Option.getD_some, hst, hmod, hs, Sem.run_pure, goInt]
      · refine (s1.write (o' := .map (ents kv l bs).toArray c) Pick.head).map fun _ a => ?_
        rw [hu]
        exact sep_mono (fun _ x => ⟨(bs, c), sep_fact.2 ⟨⟨gd, i, v, hi, hb⟩, sep_comm (sep_emp.2 x)⟩⟩) (fun _ x => x) a
      · have := h b
        rw [← e] at this
        exact this
theorem TO.entryStore [DecidableEq κ] {x s y : Operand} {t b : Nat} {q : κ} {v : Value} (hw : wants ops ρ g = some true)
    (hx : ev ρ x = some (.map (some m))) (hs' : ev ρ s = some (.int .i64 b)) (hv : ev ρ y = some v) (hp : Pick L (mpS kv m l q b) r)
    (h : TO P fid n post ops rest sf k ρ (mpI kv m (upd q v l) none :: r)) : TO P fid n post ops (⟨none, .entryStore t x s y, ty, pos, af, g⟩ :: rest) sf k ρ L :=
  TO.unit hw rfl fun w0 F a w gr st => by
    obtain ⟨⟨bs, c⟩, s0⟩ := st.exC hp
    obtain ⟨⟨gd, i, v0, hi, hb⟩, s1⟩ := (s0.sepsC Pick.head).pickFact Pick.head
    simp only at gd hb s1
    have hr := s1.read Pick.head
    have hg := run_getObj (P := P) hr (by intro c t f h; cases h)
    have hs : ∀ o', (setObj m o').run P w = .ok () { w with heap := w.heap.setIfInBounds m o' } := fun o' => run_setObj hr (by intro c t f h; cases h)
    have hfd := get_mem gd.keys hi
    have hu := upd_some (v' := v) hfd
    rw [Nat.sub_zero] at hu
    have hfind : (ents kv l bs).toArray.findIdx? (fun e => (e.born : Int) == (b : Int)) = some i := by
      rw [List.findIdx?_toArray, List.findIdx?_eq_some_iff_getElem]
      have hlt : i < (ents kv l bs).length := by rw [ents_length kv l bs gd.len]; exact (List.getElem?_eq_some_iff.1 hi).1
      have hgi : ∀ (j : Nat) (hj : j < (ents kv l bs).length), ∃ p bb, l[j]? = some p ∧ bs[j]? = some bb ∧ (ents kv l bs)[j] = { key := kv p.1, val := p.2, born := bb } := by
        intro j hj
        have hj' : j < l.length := by rwa [ents_length kv l bs gd.len] at hj
        have e1 : l[j]? = some l[j] := List.getElem?_eq_getElem hj'
        have e2 : bs[j]? = some (bs[j]'(by rw [gd.len]; exact hj')) := List.getElem?_eq_getElem _
        refine ⟨_, _, e1, e2, ?_⟩
        have := ents_get kv l bs j gd.len
        rw [e1, e2, List.getElem?_eq_getElem hj] at this
        simpa using this
      refine ⟨hlt, ?_, fun j hj => ?_⟩
      · obtain ⟨p, bb, h1, h2, h3⟩ := hgi i hlt
        rw [hb] at h2
        simp at h2
        rw [h3]; simp [h2]
      · obtain ⟨p, bb, h1, h2, h3⟩ := hgi j (by omega)
        rw [h3]
        simp only [beq_iff_eq, Bool.not_eq_true]
        intro hc
        have hc' : bb = b := by exact_mod_cast hc
        subst hc'
        have : j = i := (List.getElem?_inj (by have := (List.getElem?_eq_some_iff.1 h2).1; exact this) gd.nd).1 (by rw [h2, hb])
        omega
    refine ⟨mpI kv m (upd q v l) none :: r, { w with heap := w.heap.setIfInBounds m (.map (ents kv (upd q v l) bs).toArray c) }, ?_, Sat.shutMp (by rw [hu]; exact gd.set hi) (s1.write Pick.head), h⟩
    have hkey : ((ents kv l bs).toArray.modify i fun e => { e with val := v }) = (ents kv (upd q v l) bs).toArray := by
      rw [hu, ents_set kv q v0 v l bs i gd.len hi]
      apply Array.ext'
      simp only [List.modify_toArray]
      apply List.ext_getElem?
      intro j
      rw [List.getElem?_modify, List.getElem?_modify]
      by_cases ej : i = j
      · subst ej
        simp [ents_get kv l bs i gd.len, hi, hb]
      · simp [ej]
    simp only [execOp, Sem.run_bind, gr.eval hx, gr.eval hs', gr.eval hv, Instr.entryStore, hg, Go.Result.andThen_ok, asInt, asIntOf, Sem.run_pure, hfind, hkey, hs]
theorem TO.delete [DecidableEq κ] {x kk : Operand} {t kt e : Nat} {q : κ} [htm : TMp P t kt e] [hky : TKy P kt κ kv] {tk : TypeId} (hw : wants ops ρ g = some true)
    (hx : ev ρ x = some (.map (some m))) (hk : ev ρ kk = some (kv q)) (hp : Pick L (mpI kv m l none) r)
    (h : TO P fid n post ops rest sf k ρ (mpI kv m (del q l) none :: r)) : TO P fid n post ops (⟨none, .call ⟨.builtin .delete, [x, kk].toArray, [t, tk].toArray⟩, ty, pos, af, g⟩ :: rest) sf k ρ L :=
  TO.val (o := ⟨none, .call ⟨.builtin .delete, [x, kk].toArray, [t, tk].toArray⟩, ty, pos, af, g⟩) hw rfl fun w0 F a w gr st => by
    obtain ⟨bs, c, gd, s1⟩ := st.openMp hp
    have hr := s1.read Pick.head
    have hg := run_getObj (P := P) hr (by intro c t f h; cases h)
    have hs : ∀ o', (setObj m o').run P w = .ok () { w with heap := w.heap.setIfInBounds m o' } := fun o' => run_setObj hr (by intro c t f h; cases h)
    have hc : ∀ e, (Instr.checkKey e 10000 kt (kv q)).run P w = .ok () w := fun e => hky.check e q w
    have hf := hky.find inferInstance w q l bs gd.len
    cases hfd : fnd q l 0 with
    | none =>
      refine ⟨.tuple #[], mpI kv m (del q l) none :: r, { w with heap := w.heap.setIfInBounds m (.map (ents kv (del q l) bs).toArray c) }, ?_, Sat.shutMp (by rw [del_none hfd]; exact gd) (s1.write Pick.head), h⟩
      rw [del_none hfd]
      simp [execOp, resolve, invoke, builtin, gr.eval hx, gr.eval hk, Builtin.delete_, run_und htm.und, hg, hc, hf, hfd, hs]
    | some p =>
      obtain ⟨i, v⟩ := p
      have hi := (fnd_some hfd).2
      simp only [Nat.sub_zero] at hi
      have hlt : i < l.length := (List.getElem?_eq_some_iff.1 hi).1
      have hdel : del q l = l.eraseIdx i := by have := del_some hfd; rwa [Nat.sub_zero] at this
      refine ⟨.tuple #[], mpI kv m (del q l) none :: r, { w with heap := w.heap.setIfInBounds m (.map (ents kv (del q l) (bs.eraseIdx i)).toArray c) }, ?_, Sat.shutMp (by rw [hdel]; exact gd.erase) (s1.write Pick.head), h⟩
      rw [hdel, ents_erase kv l bs i gd.len]
      have hel : i < (ents kv l bs).length := by rw [ents_length kv l bs gd.len]; exact hlt
      have he : (ents kv l bs).toArray.eraseIdxIfInBounds i = ((ents kv l bs).eraseIdx i).toArray := by simp [Array.eraseIdxIfInBounds, hel]
      simp [execOp, resolve, invoke, builtin, gr.eval hx, gr.eval hk, Builtin.delete_, run_und htm.und, hg, hc, hf, hfd, hs, he]
end
end SL
end
section
set_option linter.unusedVariables false
set_option linter.unusedSimpArgs false
namespace SL
open Go
def isSt : Op → Bool
  | .store .. => true
  | _ => false
def stN : List Oper → Nat
  | [] => 0
  | o :: r => bif isSt o.op then stN r + 1 else stN r
def lateSt (all : List Oper) : List Oper → Nat → Bool
  | [], _ => true
  | o :: r, i => bif isSt o.op then (bif isLate all i then lateSt all r (i + 1) else false) else lateSt all r (i + 1)
def fewSt (ops : List Oper) : Bool := bif Nat.ble (stN ops) 1 then true else lateSt ops ops 0
section
variable {P : Program} {fid : Fm} {n : Nat} {post : Post} {k : List Item} {ρ ρ' : Env} {ops rest : List Oper} {g : Option (Nat × Bool)} {ty : TypeId} {pos : String} {af : Array Edge} {d : Nat} {sf : Option (List Bool × List HProp)} {L L' r : List HProp}
theorem W.exit {id : Nat} {k' : List Item} (h : TK P fid n post k' ρ L) (he : exitTo id k = some k' := by first | ((repeat (first | exact SL.exitTo_here | (apply SL.exitTo_block; rfl) | apply SL.exitTo_code | apply SL.exitTo_loop | apply SL.exitTo_scope)); done) | fail) : TK P fid n post (.code (.exit id) :: k) ρ L := TK.exit he h
theorem W.condT {c : Operand} {x y : Code} (h : TK P fid n post (.code x :: k) ρ L) (hc : ev ρ c = some (.bool true) := by rfl) : TK P fid n post (.code (.cond c x y) :: k) ρ L := TK.condT hc h
theorem W.condF {c : Operand} {x y : Code} (h : TK P fid n post (.code y :: k) ρ L) (hc : ev ρ c = some (.bool false) := by rfl) : TK P fid n post (.code (.cond c x y) :: k) ρ L := TK.condF hc h
theorem W.condP {c : Operand} {x y : Code} {p : Prop} [Decidable p]
    (ht : p → TK P fid n post (.code x :: k) ρ L) (hf : ¬ p → TK P fid n post (.code y :: k) ρ L) (hc : ev ρ c = some (.bool (decide p)) := by rfl) : TK P fid n post (.code (.cond c x y) :: k) ρ L := TK.condP hc ht hf
theorem W.condB {c : Operand} {x y : Code} {t : Bool}
    (ht : t = true → TK P fid n post (.code x :: k) ρ L) (hf : t = false → TK P fid n post (.code y :: k) ρ L) (hc : ev ρ c = some (.bool t) := by rfl) : TK P fid n post (.code (.cond c x y) :: k) ρ L := TK.condB hc ht hf
theorem W.loop {L1 : List HProp} {ρ1 : Env} (h : TK P fid n post k ρ1 L1) (s : Sub ρ ρ1 := by first | ((repeat (first | exact SL.Sub.nil | refine SL.Sub.cons (by rfl) (by first | rfl | exact SL.int_eq (by omega)) ?_)); done) | fail) (e : EntD L L1 := by first | ((repeat (first | exact SL.EntD.refl | exact SL.EntD.nil | (apply SL.EntD.cons; repeat (first | exact SL.Pick.head | apply SL.Pick.tail)))); done) | fail) : TK P fid n post k ρ L := TK.weakD s e h
theorem W.dpass {ls ls' : List Bool} {R : List HProp} {i : Nat} {op : Op} (h : TD P fid n post ops ls' R k ((d, undef) :: ρ) L)
    (hi : firstSkip ops ρ ls ops 0 = some i := by rfl) (ho : nth ops i = some ⟨some d, op, ty, pos, af, g⟩ := by rfl) (hw : wants ops ρ g = some false := by rfl) (hd : Nat.blt d n = true := by rfl)
    (hok : firstOk ops ls i d ⟨some d, op, ty, pos, af, g⟩ ops 0 = true := by rfl) (hcl : closedB ls ops 0 = true := by rfl) (hl : setB ls i = ls' := by simp only [SL.setB] <;> rfl) : TD P fid n post ops ls R k ρ L := TD.pass hi ho hw hd hok hcl hl h
theorem W.dpure {ls ls' : List Bool} {R : List HProp} {i : Nat} {op : Op} {v : Value} (h : TD P fid n post ops ls' R k ((d, v) :: ρ) L)
    (hi : firstPure ls ops 0 = some i := by rfl) (ho : nth ops i = some ⟨some d, op, ty, pos, af, g⟩ := by rfl) (hw : wants ops ρ g = some true := by rfl) (hd : Nat.blt d n = true := by rfl)
    (hok : firstOk ops ls i d ⟨some d, op, ty, pos, af, g⟩ ops 0 = true := by rfl) (hcl : closedB ls ops 0 = true := by rfl) (hv : PV P n ρ ⟨some d, op, ty, pos, af, g⟩ v := by first | (apply SL.PV.door (o := ⟨_, .move _, _, _, _, _⟩); first | exact SL.PV.move (by rfl)) | (apply SL.PV.door (o := ⟨_, .assign _, _, _, _, _⟩); first | exact SL.PV.assign (by rfl)) | (apply SL.PV.door (o := ⟨_, .fieldAddr _ _ _, _, _, _, _⟩); first | exact SL.PV.fieldAddr (by rfl) (by (try simp only [Nat.zero_add, Nat.add_zero, Nat.reduceAdd, Nat.reduceMul, Nat.mul_one]) <;> rfl)) | (apply SL.PV.door (o := ⟨_, .indexAddr _ _ _, _, _, _, _⟩); first | exact SL.PV.indexAddr (by rfl) (by rfl) (by first | exact (rfl : (0:Int) = ((0:Nat):Int)) | exact (rfl : (1:Int) = ((1:Nat):Int)) | with_reducible exact SL.nc1 _ | with_reducible exact SL.nc5 _ _ | with_reducible exact SL.nc6 _ _ | with_reducible exact SL.nc2 _ _ | exact SL.nc1 _ | exact SL.nc2 _ _ | exact SL.nc3 _ _ | exact SL.nc4 _ _ | exact SL.nc8 _ | rfl | omega) (by first | omega | decide | (simp; done)) (by (try simp only [Nat.zero_add, Nat.add_zero, Nat.reduceAdd, Nat.reduceMul, Nat.mul_one]) <;> rfl) | exact SL.PV.indexAddrQ (by rfl) (by rfl) (by first | exact (rfl : (0:Int) = ((0:Nat):Int)) | exact (rfl : (1:Int) = ((1:Nat):Int)) | with_reducible exact SL.nc1 _ | with_reducible exact SL.nc5 _ _ | with_reducible exact SL.nc6 _ _ | with_reducible exact SL.nc2 _ _ | exact SL.nc1 _ | exact SL.nc2 _ _ | exact SL.nc3 _ _ | exact SL.nc4 _ _ | exact SL.nc8 _ | rfl | omega) (by first | omega | decide | (simp; done))) | (apply SL.PV.door (o := ⟨_, .extract _ _, _, _, _, _⟩); first | exact SL.PV.extract (by rfl) (by rfl)) | (apply SL.PV.door (o := ⟨_, .pick _ _ _, _, _, _, _⟩); first | exact SL.PV.pickT (by rfl) (by rfl) | exact SL.PV.pickF (by rfl) (by rfl)) | (apply SL.PV.door (o := ⟨_, .unOp _ _ _, _, _, _, _⟩); first | exact SL.PV.notP (by rfl) | exact SL.PV.notB (by rfl) | exact SL.PV.neg (by rfl) (by first | exact SL.wrap_i64 (by omega) | exact SL.wrap_u8 (by omega) | exact SL.wrap_u32 (by omega) | exact SL.wrap_u64 (by omega) | rfl)) | (apply SL.PV.door (o := ⟨_, .nilCheck _, _, _, _, _⟩); first | exact SL.PV.nilPtr (by rfl) | exact SL.PV.nilFun (by rfl)) | (apply SL.PV.door (o := ⟨_, .field _ _ _, _, _, _, _⟩); first | exact SL.PV.field (by rfl) (by rfl) | exact SL.PV.fieldA (by rfl) (by first | ((repeat (first | exact SL.Cut.zero _ | apply SL.Cut.take | apply SL.Cut.drop)); done) | fail)) | (apply SL.PV.door (o := ⟨_, .convert _ _ _, _, _, _, _⟩); first | exact SL.PV.toIntC (by rfl) (by first | exact SL.wrap_i64 (by omega) | exact SL.wrap_u8 (by omega) | exact SL.wrap_u32 (by omega) | exact SL.wrap_u64 (by omega) | rfl)) | (apply SL.PV.door (o := ⟨_, .makeFunc _ _ _, _, _, _, _⟩); first | exact SL.PV.makeFunc (by first | ((repeat (first | exact SL.EvAll.nil | (apply SL.EvAll.cons; rfl))); done) | fail) (by first | ((repeat (first | exact SL.EvAll.nil | (apply SL.EvAll.cons; rfl))); done) | fail)) | (apply SL.PV.door (o := ⟨_, .build _ _, _, _, _, _⟩); first | exact SL.PV.build (by first | ((repeat (first | exact SL.EvP.nil | (apply SL.EvP.cons; rfl))); done) | fail) (by first | ((repeat (first | exact SL.Fill.nil | (apply SL.Fill.cons; rfl; rfl; rfl; repeat (first | exact SL.PutAt.nil _ | apply SL.PutAt.here | apply SL.PutAt.there)))); done) | fail)) | (apply SL.PV.door (o := ⟨_, .binOp _ _ _ _ _, _, _, _, _⟩); first | (apply SL.PV.door (o := ⟨_, .binOp .eql _ _ _ _, _, _, _, _⟩); first | exact SL.PV.eqI (by rfl) (by rfl) | exact SL.PV.eqPN (by rfl) (by rfl) (by first | exact Or.inl rfl | exact Or.inr rfl) | exact SL.PV.eqSN (by rfl) (by rfl) (by first | exact Or.inl rfl | exact Or.inr rfl) | exact SL.PV.eqMN (by rfl) (by rfl) (by first | exact Or.inl rfl | exact Or.inr rfl) | exact SL.PV.eqStr (by rfl) (by rfl) | exact SL.PV.eqB (by rfl) (by rfl) | exact SL.PV.eqFl (by rfl) (by rfl) (by rfl)) | (apply SL.PV.door (o := ⟨_, .binOp .neq _ _ _ _, _, _, _, _⟩); first | exact SL.PV.neI (by rfl) (by rfl) | exact SL.PV.nePN (by rfl) (by rfl) (by first | exact Or.inl rfl | exact Or.inr rfl) | exact SL.PV.neB (by rfl) (by rfl) | exact SL.PV.neFl (by rfl) (by rfl) (by rfl)) | (apply SL.PV.door (o := ⟨_, .binOp .lss _ _ _ _, _, _, _, _⟩); first | exact SL.PV.ltI (by rfl) (by rfl)) | (apply SL.PV.door (o := ⟨_, .binOp .leq _ _ _ _, _, _, _, _⟩); first | exact SL.PV.leI (by rfl) (by rfl)) | (apply SL.PV.door (o := ⟨_, .binOp .gtr _ _ _ _, _, _, _, _⟩); first | exact SL.PV.gtI (by rfl) (by rfl)) | (apply SL.PV.door (o := ⟨_, .binOp .geq _ _ _ _, _, _, _, _⟩); first | exact SL.PV.geI (by rfl) (by rfl)) | (apply SL.PV.door (o := ⟨_, .binOp .add _ _ _ _, _, _, _, _⟩); first | exact SL.PV.add (by rfl) (by rfl) (by first | exact SL.wrap_i64 (by omega) | exact SL.wrap_u8 (by omega) | exact SL.wrap_u32 (by omega) | exact SL.wrap_u64 (by omega) | rfl)) | (apply SL.PV.door (o := ⟨_, .binOp .sub _ _ _ _, _, _, _, _⟩); first | exact SL.PV.sub (by rfl) (by rfl) (by first | exact SL.wrap_i64 (by omega) | exact SL.wrap_u8 (by omega) | exact SL.wrap_u32 (by omega) | exact SL.wrap_u64 (by omega) | rfl)) | (apply SL.PV.door (o := ⟨_, .binOp .mul _ _ _ _, _, _, _, _⟩); first | exact SL.PV.mul (by rfl) (by rfl) (by first | exact SL.wrap_i64 (by omega) | exact SL.wrap_u8 (by omega) | exact SL.wrap_u32 (by omega) | exact SL.wrap_u64 (by omega) | rfl)) | (apply SL.PV.door (o := ⟨_, .binOp .quo _ _ _ _, _, _, _, _⟩); first | exact SL.PV.quo (by rfl) (by rfl) (by omega) (by first | exact SL.quo_i64 (by omega) | rfl)) | (apply SL.PV.door (o := ⟨_, .binOp .rem _ _ _ _, _, _, _, _⟩); first | exact SL.PV.rem (by rfl) (by rfl) (by omega) (by first | exact SL.rem_nn (by omega) | rfl)) | (apply SL.PV.door (o := ⟨_, .binOp .xor _ _ _ _, _, _, _, _⟩); first | exact SL.PV.xor (by rfl) (by rfl) rfl) | (apply SL.PV.door (o := ⟨_, .binOp .and _ _ _ _, _, _, _, _⟩); first | exact SL.PV.and (by rfl) (by rfl) rfl) | (apply SL.PV.door (o := ⟨_, .binOp .or _ _ _ _, _, _, _, _⟩); first | exact SL.PV.or (by rfl) (by rfl) rfl) | (apply SL.PV.door (o := ⟨_, .binOp .shl _ _ _ _, _, _, _, _⟩); first | exact SL.PV.shl (by rfl) (by rfl) (by omega) rfl) | (apply SL.PV.door (o := ⟨_, .binOp .shr _ _ _ _, _, _, _, _⟩); first | exact SL.PV.shr (by rfl) (by rfl) (by omega) rfl)) | (apply SL.isCall; first | exact SL.PV.len (by rfl) | exact SL.PV.minI (by rfl) (by rfl) (by rfl) | exact SL.PV.maxI (by rfl) (by rfl) (by rfl)) | (apply SL.isSlice; first | exact SL.PV.sliceIn (by rfl) (by rfl) (by rfl) (by first | exact (rfl : (0:Int) = ((0:Nat):Int)) | exact (rfl : (1:Int) = ((1:Nat):Int)) | with_reducible exact SL.nc1 _ | with_reducible exact SL.nc5 _ _ | with_reducible exact SL.nc6 _ _ | with_reducible exact SL.nc2 _ _ | exact SL.nc1 _ | exact SL.nc2 _ _ | exact SL.nc3 _ _ | exact SL.nc4 _ _ | exact SL.nc8 _ | rfl | omega) (by first | exact (rfl : (0:Int) = ((0:Nat):Int)) | exact (rfl : (1:Int) = ((1:Nat):Int)) | with_reducible exact SL.nc1 _ | with_reducible exact SL.nc5 _ _ | with_reducible exact SL.nc6 _ _ | with_reducible exact SL.nc2 _ _ | exact SL.nc1 _ | exact SL.nc2 _ _ | exact SL.nc3 _ _ | exact SL.nc4 _ _ | exact SL.nc8 _ | rfl | omega) (by omega) (by omega) (by omega) (by (try simp only [Nat.zero_add, Nat.add_zero, Nat.reduceAdd, Nat.reduceMul, Nat.mul_one]) <;> rfl) (by (try simp only [Nat.reduceSub, Nat.add_sub_cancel, Nat.sub_zero]) <;> rfl) (by (try simp only [Nat.reduceSub, Nat.add_sub_cancel, Nat.sub_zero]) <;> rfl) | exact SL.PV.sliceLoIn (by rfl) (by rfl) (by first | exact (rfl : (0:Int) = ((0:Nat):Int)) | exact (rfl : (1:Int) = ((1:Nat):Int)) | with_reducible exact SL.nc1 _ | with_reducible exact SL.nc5 _ _ | with_reducible exact SL.nc6 _ _ | with_reducible exact SL.nc2 _ _ | exact SL.nc1 _ | exact SL.nc2 _ _ | exact SL.nc3 _ _ | exact SL.nc4 _ _ | exact SL.nc8 _ | rfl | omega) (by omega) (by omega) (by (try simp only [Nat.zero_add, Nat.add_zero, Nat.reduceAdd, Nat.reduceMul, Nat.mul_one]) <;> rfl) (by (try simp only [Nat.reduceSub, Nat.add_sub_cancel, Nat.sub_zero]) <;> rfl) (by (try simp only [Nat.reduceSub, Nat.add_sub_cancel, Nat.sub_zero]) <;> rfl) | exact SL.PV.slice3 (by rfl) (by rfl) (by rfl) (by rfl) (by first | exact (rfl : (0:Int) = ((0:Nat):Int)) | exact (rfl : (1:Int) = ((1:Nat):Int)) | with_reducible exact SL.nc1 _ | with_reducible exact SL.nc5 _ _ | with_reducible exact SL.nc6 _ _ | with_reducible exact SL.nc2 _ _ | exact SL.nc1 _ | exact SL.nc2 _ _ | exact SL.nc3 _ _ | exact SL.nc4 _ _ | exact SL.nc8 _ | rfl | omega) (by first | exact (rfl : (0:Int) = ((0:Nat):Int)) | exact (rfl : (1:Int) = ((1:Nat):Int)) | with_reducible exact SL.nc1 _ | with_reducible exact SL.nc5 _ _ | with_reducible exact SL.nc6 _ _ | with_reducible exact SL.nc2 _ _ | exact SL.nc1 _ | exact SL.nc2 _ _ | exact SL.nc3 _ _ | exact SL.nc4 _ _ | exact SL.nc8 _ | rfl | omega) (by first | exact (rfl : (0:Int) = ((0:Nat):Int)) | exact (rfl : (1:Int) = ((1:Nat):Int)) | with_reducible exact SL.nc1 _ | with_reducible exact SL.nc5 _ _ | with_reducible exact SL.nc6 _ _ | with_reducible exact SL.nc2 _ _ | exact SL.nc1 _ | exact SL.nc2 _ _ | exact SL.nc3 _ _ | exact SL.nc4 _ _ | exact SL.nc8 _ | rfl | omega) (by omega) (by omega) (by omega) | exact SL.PV.sliceHi (by rfl) (by rfl) (by first | exact (rfl : (0:Int) = ((0:Nat):Int)) | exact (rfl : (1:Int) = ((1:Nat):Int)) | with_reducible exact SL.nc1 _ | with_reducible exact SL.nc5 _ _ | with_reducible exact SL.nc6 _ _ | with_reducible exact SL.nc2 _ _ | exact SL.nc1 _ | exact SL.nc2 _ _ | exact SL.nc3 _ _ | exact SL.nc4 _ _ | exact SL.nc8 _ | rfl | omega) (by omega) | exact SL.PV.sliceLo (by rfl) (by rfl) (by first | exact (rfl : (0:Int) = ((0:Nat):Int)) | exact (rfl : (1:Int) = ((1:Nat):Int)) | with_reducible exact SL.nc1 _ | with_reducible exact SL.nc5 _ _ | with_reducible exact SL.nc6 _ _ | with_reducible exact SL.nc2 _ _ | exact SL.nc1 _ | exact SL.nc2 _ _ | exact SL.nc3 _ _ | exact SL.nc4 _ _ | exact SL.nc8 _ | rfl | omega) (by omega) | exact SL.PV.slice (by rfl) (by rfl) (by rfl) (by first | exact (rfl : (0:Int) = ((0:Nat):Int)) | exact (rfl : (1:Int) = ((1:Nat):Int)) | with_reducible exact SL.nc1 _ | with_reducible exact SL.nc5 _ _ | with_reducible exact SL.nc6 _ _ | with_reducible exact SL.nc2 _ _ | exact SL.nc1 _ | exact SL.nc2 _ _ | exact SL.nc3 _ _ | exact SL.nc4 _ _ | exact SL.nc8 _ | rfl | omega) (by first | exact (rfl : (0:Int) = ((0:Nat):Int)) | exact (rfl : (1:Int) = ((1:Nat):Int)) | with_reducible exact SL.nc1 _ | with_reducible exact SL.nc5 _ _ | with_reducible exact SL.nc6 _ _ | with_reducible exact SL.nc2 _ _ | exact SL.nc1 _ | exact SL.nc2 _ _ | exact SL.nc3 _ _ | exact SL.nc4 _ _ | exact SL.nc8 _ | rfl | omega) (by omega) (by omega))) (hl : setB ls i = ls' := by simp only [SL.setB] <;> rfl) :
    TD P fid n post ops ls R k ρ L := TD.pure hi ho hw hd hok hcl hv hl h
theorem W.dload {ls ls' : List Bool} {R : List HProp} {i d' t b off T : Nat} {x : Operand} {cs : List Value} {v : Value} (h : TD P fid n post ops ls' R k ((d', v) :: ρ) L) (hi : firstLoad ls ops 0 = some i := by rfl) (ho : nth ops i = some ⟨some d', .load t x, ty, pos, af, g⟩ := by rfl) (ht : TSc P t := by infer_instance)
    (hw : wants ops ρ g = some true := by rfl) (hd : Nat.blt d' n = true := by rfl) (hok : firstOk ops ls i d' ⟨some d', .load t x, ty, pos, af, g⟩ ops 0 = true := by rfl) (hcl : closedB ls ops 0 = true := by rfl)
    (hx : ev ρ x = some (.pointer (some ⟨b, off, none⟩)) := by rfl) (hp : Pick R (blk b T cs) r := by first | ((repeat (first | exact SL.Pick.head | apply SL.Pick.tail)); done) | fail) (hv : nth cs off = some v := by rfl) (hl : setB ls i = ls' := by simp only [SL.setB] <;> rfl) : TD P fid n post ops ls R k ρ L := TD.loadC hi ho ht hw hd hok hcl hx hp hv hl h
theorem W.dloadA {ls ls' : List Bool} {R : List HProp} {i d' t b off T sz : Nat} {x : Operand} {cs vs : List Value} (h : TD P fid n post ops ls' R k ((d', .agg vs.toArray) :: ρ) L) (hi : firstLoad ls ops 0 = some i := by rfl) (ho : nth ops i = some ⟨some d', .load t x, ty, pos, af, g⟩ := by rfl) (ht : TAg P t sz := by infer_instance)
    (hw : wants ops ρ g = some true := by rfl) (hd : Nat.blt d' n = true := by rfl) (hok : firstOk ops ls i d' ⟨some d', .load t x, ty, pos, af, g⟩ ops 0 = true := by rfl) (hcl : closedB ls ops 0 = true := by rfl)
    (hx : ev ρ x = some (.pointer (some ⟨b, off, none⟩)) := by rfl) (hp : Pick R (blk b T cs) r := by first | ((repeat (first | exact SL.Pick.head | apply SL.Pick.tail)); done) | fail) (hv : Cut cs off sz vs := by first | ((repeat (first | exact SL.Cut.zero _ | apply SL.Cut.take | apply SL.Cut.drop)); done) | fail) (hl : setB ls i = ls' := by simp only [SL.setB] <;> rfl) : TD P fid n post ops ls R k ρ L := TD.loadCA hi ho ht hw hd hok hcl hx hp hv hl h
theorem W.dfrz {ls : List Bool} {R : List HProp} {i d' t b off T : Nat} {x : Operand} {cs : List Value} (h : TD P fid n post ops ls (blk b T cs :: R) k ρ r) (hi : firstLoad ls ops 0 = some i := by rfl) (ho : nth ops i = some ⟨some d', .load t x, ty, pos, af, g⟩ := by rfl)
    (hx : ev ρ x = some (.pointer (some ⟨b, off, none⟩)) := by rfl) (hp : Pick L (blk b T cs) r := by first | ((repeat (first | exact SL.Pick.head | apply SL.Pick.tail)); done) | fail) (hfew : fewSt ops = true := by rfl) : TD P fid n post ops ls R k ρ L := TD.frz hi ho hx hp h
theorem app_swap {l m : List HProp} : Ent (l ++ m) (m ++ l) := fun h x => seps_append.2 (sep_comm (seps_append.1 x))
theorem W.dthaw {ls : List Bool} {R : List HProp} {c : HProp} {i : Nat} (h : TD P fid n post ops ls [] k ρ (c :: R ++ L)) (he : enab ls ops 0 = [i] := by rfl) (hl : isLate ops i = true := by rfl) (hcl : restLate ops ls ops 0 = true := by rfl) : TD P fid n post ops ls (c :: R) k ρ L :=
  TD.thaw1 he hl hcl (fun w0 F a w s g st hs => h w0 F a w s g (st.map app_swap) hs)
theorem W.dfin {ls : List Bool} {R : List HProp} (h : TK P fid n post k ρ (R ++ L)) (he : enab ls ops 0 = [] := by rfl) : TD P fid n post ops ls R k ρ L := TD.fin he (TK.ent app_swap h)
theorem W.dguardP {ls : List Bool} {R : List HProp} {i : Nat} {p : Prop} [Decidable p] {o : Oper} {es : List Nat}
    (ht : p → TD P fid n post ops ls R k ((d, .bool true) :: ρ) L) (hf : ¬ p → TD P fid n post ops ls R k ((d, .bool false) :: ρ) L) (hi : enab ls ops 0 = i :: es := by rfl) (ho : nth ops i = some o := by rfl) (hgd : guardSlot ops o.guard = some d := by rfl) (hl : look d ρ = some (.bool (decide p)) := by rfl) : TD P fid n post ops ls R k ρ L := TD.guardP (mem0 hi) ho hgd hl ht hf
theorem W.dguardB {ls : List Bool} {R : List HProp} {i : Nat} {t : Bool} {o : Oper} {es : List Nat}
    (ht : t = true → TD P fid n post ops ls R k ((d, .bool true) :: ρ) L) (hf : t = false → TD P fid n post ops ls R k ((d, .bool false) :: ρ) L) (hi : enab ls ops 0 = i :: es := by rfl) (ho : nth ops i = some o := by rfl) (hgd : guardSlot ops o.guard = some d := by rfl) (hl : look d ρ = some (.bool t) := by rfl) : TD P fid n post ops ls R k ρ L := TD.guardB (mem0 hi) ho hgd hl ht hf
theorem W.done {ls : List Bool} {R : List HProp} {i : Nat} {o : Oper} (h : TO P fid n post ops [o] (some (setB ls i, R)) k ρ L) (he : enab ls ops 0 = [i] := by rfl) (ho : nth ops i = some o := by rfl) : TD P fid n post ops ls R k ρ L := TD.one he ho h
theorem W.dtwo {ls : List Bool} {R : List HProp} {i j : Nat} {o o' : Oper}
    (h : TO P fid n post ops [o] (some (setB ls i, R)) k ρ L) (h' : TO P fid n post ops [o'] (some (setB ls j, R)) k ρ L) (he : enab ls ops 0 = [i, j] := by rfl) (ho : nth ops i = some o := by rfl) (ho' : nth ops j = some o' := by rfl) : TD P fid n post ops ls R k ρ L := TD.two he ho ho' h h'
theorem W.dthree {ls : List Bool} {R : List HProp} {i j m : Nat} {o o' o'' : Oper}
    (h : TO P fid n post ops [o] (some (setB ls i, R)) k ρ L) (h' : TO P fid n post ops [o'] (some (setB ls j, R)) k ρ L) (h'' : TO P fid n post ops [o''] (some (setB ls m, R)) k ρ L)
    (he : enab ls ops 0 = [i, j, m] := by rfl) (ho : nth ops i = some o := by rfl) (ho' : nth ops j = some o' := by rfl) (ho'' : nth ops m = some o'' := by rfl) : TD P fid n post ops ls R k ρ L := TD.three he ho ho' ho'' h h' h''
theorem W.pass {op : Op} (h : TO P fid n post ops rest sf k ((d, undef) :: ρ) L) (hw : wants ops ρ g = some false := by rfl) (hd : Nat.blt d n = true := by rfl) : TO P fid n post ops (⟨some d, op, ty, pos, af, g⟩ :: rest) sf k ρ L := TO.pass hw hd h
theorem W.pass0 {op : Op} (h : TO P fid n post ops rest sf k ρ L) (hw : wants ops ρ g = some false := by rfl) : TO P fid n post ops (⟨none, op, ty, pos, af, g⟩ :: rest) sf k ρ L := TO.pass0 hw h
theorem W.guardP {p : Prop} [Decidable p] {o : Oper} (ht : p → TO P fid n post ops (o :: rest) sf k ((d, .bool true) :: ρ) L) (hf : ¬ p → TO P fid n post ops (o :: rest) sf k ((d, .bool false) :: ρ) L)
    (hgd : guardSlot ops o.guard = some d := by rfl) (hl : look d ρ = some (.bool (decide p)) := by rfl) : TO P fid n post ops (o :: rest) sf k ρ L := TO.guardP hgd hl ht hf
theorem W.guardB {t : Bool} {o : Oper} (ht : t = true → TO P fid n post ops (o :: rest) sf k ((d, .bool true) :: ρ) L) (hf : t = false → TO P fid n post ops (o :: rest) sf k ((d, .bool false) :: ρ) L)
    (hgd : guardSlot ops o.guard = some d := by rfl) (hl : look d ρ = some (.bool t) := by rfl) : TO P fid n post ops (o :: rest) sf k ρ L := TO.guardB hgd hl ht hf
theorem W.pure {o : Oper} (h : TO P fid n post ops (o :: rest) sf k ρ L) (hp : pureOp o.op = true := by rfl) : TO P fid n post ops (o :: rest) sf k ρ L := h
theorem W.loud {o : Oper} (h : TO P fid n post ops (o :: rest) sf k ρ L) (hp : pureOp o.op = false := by rfl) : TO P fid n post ops (o :: rest) sf k ρ L := h
theorem W.pv {op : Op} {v : Value} (h : TO P fid n post ops rest sf k ((d, v) :: ρ) L) (hw : wants ops ρ g = some true := by rfl) (hd : Nat.blt d n = true := by rfl) (hv : PV P n ρ ⟨some d, op, ty, pos, af, g⟩ v := by first | (apply SL.PV.door (o := ⟨_, .move _, _, _, _, _⟩); first | exact SL.PV.move (by rfl)) | (apply SL.PV.door (o := ⟨_, .assign _, _, _, _, _⟩); first | exact SL.PV.assign (by rfl)) | (apply SL.PV.door (o := ⟨_, .fieldAddr _ _ _, _, _, _, _⟩); first | exact SL.PV.fieldAddr (by rfl) (by (try simp only [Nat.zero_add, Nat.add_zero, Nat.reduceAdd, Nat.reduceMul, Nat.mul_one]) <;> rfl)) | (apply SL.PV.door (o := ⟨_, .indexAddr _ _ _, _, _, _, _⟩); first | exact SL.PV.indexAddr (by rfl) (by rfl) (by first | exact (rfl : (0:Int) = ((0:Nat):Int)) | exact (rfl : (1:Int) = ((1:Nat):Int)) | with_reducible exact SL.nc1 _ | with_reducible exact SL.nc5 _ _ | with_reducible exact SL.nc6 _ _ | with_reducible exact SL.nc2 _ _ | exact SL.nc1 _ | exact SL.nc2 _ _ | exact SL.nc3 _ _ | exact SL.nc4 _ _ | exact SL.nc8 _ | rfl | omega) (by first | omega | decide | (simp; done)) (by (try simp only [Nat.zero_add, Nat.add_zero, Nat.reduceAdd, Nat.reduceMul, Nat.mul_one]) <;> rfl) | exact SL.PV.indexAddrQ (by rfl) (by rfl) (by first | exact (rfl : (0:Int) = ((0:Nat):Int)) | exact (rfl : (1:Int) = ((1:Nat):Int)) | with_reducible exact SL.nc1 _ | with_reducible exact SL.nc5 _ _ | with_reducible exact SL.nc6 _ _ | with_reducible exact SL.nc2 _ _ | exact SL.nc1 _ | exact SL.nc2 _ _ | exact SL.nc3 _ _ | exact SL.nc4 _ _ | exact SL.nc8 _ | rfl | omega) (by first | omega | decide | (simp; done))) | (apply SL.PV.door (o := ⟨_, .extract _ _, _, _, _, _⟩); first | exact SL.PV.extract (by rfl) (by rfl)) | (apply SL.PV.door (o := ⟨_, .pick _ _ _, _, _, _, _⟩); first | exact SL.PV.pickT (by rfl) (by rfl) | exact SL.PV.pickF (by rfl) (by rfl)) | (apply SL.PV.door (o := ⟨_, .unOp _ _ _, _, _, _, _⟩); first | exact SL.PV.notP (by rfl) | exact SL.PV.notB (by rfl) | exact SL.PV.neg (by rfl) (by first | exact SL.wrap_i64 (by omega) | exact SL.wrap_u8 (by omega) | exact SL.wrap_u32 (by omega) | exact SL.wrap_u64 (by omega) | rfl)) | (apply SL.PV.door (o := ⟨_, .nilCheck _, _, _, _, _⟩); first | exact SL.PV.nilPtr (by rfl) | exact SL.PV.nilFun (by rfl)) | (apply SL.PV.door (o := ⟨_, .field _ _ _, _, _, _, _⟩); first | exact SL.PV.field (by rfl) (by rfl) | exact SL.PV.fieldA (by rfl) (by first | ((repeat (first | exact SL.Cut.zero _ | apply SL.Cut.take | apply SL.Cut.drop)); done) | fail)) | (apply SL.PV.door (o := ⟨_, .convert _ _ _, _, _, _, _⟩); first | exact SL.PV.toIntC (by rfl) (by first | exact SL.wrap_i64 (by omega) | exact SL.wrap_u8 (by omega) | exact SL.wrap_u32 (by omega) | exact SL.wrap_u64 (by omega) | rfl)) | (apply SL.PV.door (o := ⟨_, .makeFunc _ _ _, _, _, _, _⟩); first | exact SL.PV.makeFunc (by first | ((repeat (first | exact SL.EvAll.nil | (apply SL.EvAll.cons; rfl))); done) | fail) (by first | ((repeat (first | exact SL.EvAll.nil | (apply SL.EvAll.cons; rfl))); done) | fail)) | (apply SL.PV.door (o := ⟨_, .build _ _, _, _, _, _⟩); first | exact SL.PV.build (by first | ((repeat (first | exact SL.EvP.nil | (apply SL.EvP.cons; rfl))); done) | fail) (by first | ((repeat (first | exact SL.Fill.nil | (apply SL.Fill.cons; rfl; rfl; rfl; repeat (first | exact SL.PutAt.nil _ | apply SL.PutAt.here | apply SL.PutAt.there)))); done) | fail)) | (apply SL.PV.door (o := ⟨_, .binOp _ _ _ _ _, _, _, _, _⟩); first | (apply SL.PV.door (o := ⟨_, .binOp .eql _ _ _ _, _, _, _, _⟩); first | exact SL.PV.eqI (by rfl) (by rfl) | exact SL.PV.eqPN (by rfl) (by rfl) (by first | exact Or.inl rfl | exact Or.inr rfl) | exact SL.PV.eqSN (by rfl) (by rfl) (by first | exact Or.inl rfl | exact Or.inr rfl) | exact SL.PV.eqMN (by rfl) (by rfl) (by first | exact Or.inl rfl | exact Or.inr rfl) | exact SL.PV.eqStr (by rfl) (by rfl) | exact SL.PV.eqB (by rfl) (by rfl) | exact SL.PV.eqFl (by rfl) (by rfl) (by rfl)) | (apply SL.PV.door (o := ⟨_, .binOp .neq _ _ _ _, _, _, _, _⟩); first | exact SL.PV.neI (by rfl) (by rfl) | exact SL.PV.nePN (by rfl) (by rfl) (by first | exact Or.inl rfl | exact Or.inr rfl) | exact SL.PV.neB (by rfl) (by rfl) | exact SL.PV.neFl (by rfl) (by rfl) (by rfl)) | (apply SL.PV.door (o := ⟨_, .binOp .lss _ _ _ _, _, _, _, _⟩); first | exact SL.PV.ltI (by rfl) (by rfl)) | (apply SL.PV.door (o := ⟨_, .binOp .leq _ _ _ _, _, _, _, _⟩); first | exact SL.PV.leI (by rfl) (by rfl)) | (apply SL.PV.door (o := ⟨_, .binOp .gtr _ _ _ _, _, _, _, _⟩); first | exact SL.PV.gtI (by rfl) (by rfl)) | (apply SL.PV.door (o := ⟨_, .binOp .geq _ _ _ _, _, _, _, _⟩); first | exact SL.PV.geI (by rfl) (by rfl)) | (apply SL.PV.door (o := ⟨_, .binOp .add _ _ _ _, _, _, _, _⟩); first | exact SL.PV.add (by rfl) (by rfl) (by first | exact SL.wrap_i64 (by omega) | exact SL.wrap_u8 (by omega) | exact SL.wrap_u32 (by omega) | exact SL.wrap_u64 (by omega) | rfl)) | (apply SL.PV.door (o := ⟨_, .binOp .sub _ _ _ _, _, _, _, _⟩); first | exact SL.PV.sub (by rfl) (by rfl) (by first | exact SL.wrap_i64 (by omega) | exact SL.wrap_u8 (by omega) | exact SL.wrap_u32 (by omega) | exact SL.wrap_u64 (by omega) | rfl)) | (apply SL.PV.door (o := ⟨_, .binOp .mul _ _ _ _, _, _, _, _⟩); first | exact SL.PV.mul (by rfl) (by rfl) (by first | exact SL.wrap_i64 (by omega) | exact SL.wrap_u8 (by omega) | exact SL.wrap_u32 (by omega) | exact SL.wrap_u64 (by omega) | rfl)) | (apply SL.PV.door (o := ⟨_, .binOp .quo _ _ _ _, _, _, _, _⟩); first | exact SL.PV.quo (by rfl) (by rfl) (by omega) (by first | exact SL.quo_i64 (by omega) | rfl)) | (apply SL.PV.door (o := ⟨_, .binOp .rem _ _ _ _, _, _, _, _⟩); first | exact SL.PV.rem (by rfl) (by rfl) (by omega) (by first | exact SL.rem_nn (by omega) | rfl)) | (apply SL.PV.door (o := ⟨_, .binOp .xor _ _ _ _, _, _, _, _⟩); first | exact SL.PV.xor (by rfl) (by rfl) rfl) | (apply SL.PV.door (o := ⟨_, .binOp .and _ _ _ _, _, _, _, _⟩); first | exact SL.PV.and (by rfl) (by rfl) rfl) | (apply SL.PV.door (o := ⟨_, .binOp .or _ _ _ _, _, _, _, _⟩); first | exact SL.PV.or (by rfl) (by rfl) rfl) | (apply SL.PV.door (o := ⟨_, .binOp .shl _ _ _ _, _, _, _, _⟩); first | exact SL.PV.shl (by rfl) (by rfl) (by omega) rfl) | (apply SL.PV.door (o := ⟨_, .binOp .shr _ _ _ _, _, _, _, _⟩); first | exact SL.PV.shr (by rfl) (by rfl) (by omega) rfl)) | (apply SL.isCall; first | exact SL.PV.len (by rfl) | exact SL.PV.minI (by rfl) (by rfl) (by rfl) | exact SL.PV.maxI (by rfl) (by rfl) (by rfl)) | (apply SL.isSlice; first | exact SL.PV.sliceIn (by rfl) (by rfl) (by rfl) (by first | exact (rfl : (0:Int) = ((0:Nat):Int)) | exact (rfl : (1:Int) = ((1:Nat):Int)) | with_reducible exact SL.nc1 _ | with_reducible exact SL.nc5 _ _ | with_reducible exact SL.nc6 _ _ | with_reducible exact SL.nc2 _ _ | exact SL.nc1 _ | exact SL.nc2 _ _ | exact SL.nc3 _ _ | exact SL.nc4 _ _ | exact SL.nc8 _ | rfl | omega) (by first | exact (rfl : (0:Int) = ((0:Nat):Int)) | exact (rfl : (1:Int) = ((1:Nat):Int)) | with_reducible exact SL.nc1 _ | with_reducible exact SL.nc5 _ _ | with_reducible exact SL.nc6 _ _ | with_reducible exact SL.nc2 _ _ | exact SL.nc1 _ | exact SL.nc2 _ _ | exact SL.nc3 _ _ | exact SL.nc4 _ _ | exact SL.nc8 _ | rfl | omega) (by omega) (by omega) (by omega) (by (try simp only [Nat.zero_add, Nat.add_zero, Nat.reduceAdd, Nat.reduceMul, Nat.mul_one]) <;> rfl) (by (try simp only [Nat.reduceSub, Nat.add_sub_cancel, Nat.sub_zero]) <;> rfl) (by (try simp only [Nat.reduceSub, Nat.add_sub_cancel, Nat.sub_zero]) <;> rfl) | exact SL.PV.sliceLoIn (by rfl) (by rfl) (by first | exact (rfl : (0:Int) = ((0:Nat):Int)) | exact (rfl : (1:Int) = ((1:Nat):Int)) | with_reducible exact SL.nc1 _ | with_reducible exact SL.nc5 _ _ | with_reducible exact SL.nc6 _ _ | with_reducible exact SL.nc2 _ _ | exact SL.nc1 _ | exact SL.nc2 _ _ | exact SL.nc3 _ _ | exact SL.nc4 _ _ | exact SL.nc8 _ | rfl | omega) (by omega) (by omega) (by (try simp only [Nat.zero_add, Nat.add_zero, Nat.reduceAdd, Nat.reduceMul, Nat.mul_one]) <;> rfl) (by (try simp only [Nat.reduceSub, Nat.add_sub_cancel, Nat.sub_zero]) <;> rfl) (by (try simp only [Nat.reduceSub, Nat.add_sub_cancel, Nat.sub_zero]) <;> rfl) | exact SL.PV.slice3 (by rfl) (by rfl) (by rfl) (by rfl) (by first | exact (rfl : (0:Int) = ((0:Nat):Int)) | exact (rfl : (1:Int) = ((1:Nat):Int)) | with_reducible exact SL.nc1 _ | with_reducible exact SL.nc5 _ _ | with_reducible exact SL.nc6 _ _ | with_reducible exact SL.nc2 _ _ | exact SL.nc1 _ | exact SL.nc2 _ _ | exact SL.nc3 _ _ | exact SL.nc4 _ _ | exact SL.nc8 _ | rfl | omega) (by first | exact (rfl : (0:Int) = ((0:Nat):Int)) | exact (rfl : (1:Int) = ((1:Nat):Int)) | with_reducible exact SL.nc1 _ | with_reducible exact SL.nc5 _ _ | with_reducible exact SL.nc6 _ _ | with_reducible exact SL.nc2 _ _ | exact SL.nc1 _ | exact SL.nc2 _ _ | exact SL.nc3 _ _ | exact SL.nc4 _ _ | exact SL.nc8 _ | rfl | omega) (by first | exact (rfl : (0:Int) = ((0:Nat):Int)) | exact (rfl : (1:Int) = ((1:Nat):Int)) | with_reducible exact SL.nc1 _ | with_reducible exact SL.nc5 _ _ | with_reducible exact SL.nc6 _ _ | with_reducible exact SL.nc2 _ _ | exact SL.nc1 _ | exact SL.nc2 _ _ | exact SL.nc3 _ _ | exact SL.nc4 _ _ | exact SL.nc8 _ | rfl | omega) (by omega) (by omega) (by omega) | exact SL.PV.sliceHi (by rfl) (by rfl) (by first | exact (rfl : (0:Int) = ((0:Nat):Int)) | exact (rfl : (1:Int) = ((1:Nat):Int)) | with_reducible exact SL.nc1 _ | with_reducible exact SL.nc5 _ _ | with_reducible exact SL.nc6 _ _ | with_reducible exact SL.nc2 _ _ | exact SL.nc1 _ | exact SL.nc2 _ _ | exact SL.nc3 _ _ | exact SL.nc4 _ _ | exact SL.nc8 _ | rfl | omega) (by omega) | exact SL.PV.sliceLo (by rfl) (by rfl) (by first | exact (rfl : (0:Int) = ((0:Nat):Int)) | exact (rfl : (1:Int) = ((1:Nat):Int)) | with_reducible exact SL.nc1 _ | with_reducible exact SL.nc5 _ _ | with_reducible exact SL.nc6 _ _ | with_reducible exact SL.nc2 _ _ | exact SL.nc1 _ | exact SL.nc2 _ _ | exact SL.nc3 _ _ | exact SL.nc4 _ _ | exact SL.nc8 _ | rfl | omega) (by omega) | exact SL.PV.slice (by rfl) (by rfl) (by rfl) (by first | exact (rfl : (0:Int) = ((0:Nat):Int)) | exact (rfl : (1:Int) = ((1:Nat):Int)) | with_reducible exact SL.nc1 _ | with_reducible exact SL.nc5 _ _ | with_reducible exact SL.nc6 _ _ | with_reducible exact SL.nc2 _ _ | exact SL.nc1 _ | exact SL.nc2 _ _ | exact SL.nc3 _ _ | exact SL.nc4 _ _ | exact SL.nc8 _ | rfl | omega) (by first | exact (rfl : (0:Int) = ((0:Nat):Int)) | exact (rfl : (1:Int) = ((1:Nat):Int)) | with_reducible exact SL.nc1 _ | with_reducible exact SL.nc5 _ _ | with_reducible exact SL.nc6 _ _ | with_reducible exact SL.nc2 _ _ | exact SL.nc1 _ | exact SL.nc2 _ _ | exact SL.nc3 _ _ | exact SL.nc4 _ _ | exact SL.nc8 _ | rfl | omega) (by omega) (by omega))) :
    TO P fid n post ops (⟨some d, op, ty, pos, af, g⟩ :: rest) sf k ρ L := TO.pv hw hd hv h
theorem W.pv0 {op : Op} {v : Value} (h : TO P fid n post ops rest sf k ρ L) (hw : wants ops ρ g = some true := by rfl) (hv : PV P n ρ ⟨none, op, ty, pos, af, g⟩ v := by first | (apply SL.PV.door (o := ⟨_, .move _, _, _, _, _⟩); first | exact SL.PV.move (by rfl)) | (apply SL.PV.door (o := ⟨_, .assign _, _, _, _, _⟩); first | exact SL.PV.assign (by rfl)) | (apply SL.PV.door (o := ⟨_, .fieldAddr _ _ _, _, _, _, _⟩); first | exact SL.PV.fieldAddr (by rfl) (by (try simp only [Nat.zero_add, Nat.add_zero, Nat.reduceAdd, Nat.reduceMul, Nat.mul_one]) <;> rfl)) | (apply SL.PV.door (o := ⟨_, .indexAddr _ _ _, _, _, _, _⟩); first | exact SL.PV.indexAddr (by rfl) (by rfl) (by first | exact (rfl : (0:Int) = ((0:Nat):Int)) | exact (rfl : (1:Int) = ((1:Nat):Int)) | with_reducible exact SL.nc1 _ | with_reducible exact SL.nc5 _ _ | with_reducible exact SL.nc6 _ _ | with_reducible exact SL.nc2 _ _ | exact SL.nc1 _ | exact SL.nc2 _ _ | exact SL.nc3 _ _ | exact SL.nc4 _ _ | exact SL.nc8 _ | rfl | omega) (by first | omega | decide | (simp; done)) (by (try simp only [Nat.zero_add, Nat.add_zero, Nat.reduceAdd, Nat.reduceMul, Nat.mul_one]) <;> rfl) | exact SL.PV.indexAddrQ (by rfl) (by rfl) (by first | exact (rfl : (0:Int) = ((0:Nat):Int)) | exact (rfl : (1:Int) = ((1:Nat):Int)) | with_reducible exact SL.nc1 _ | with_reducible exact SL.nc5 _ _ | with_reducible exact SL.nc6 _ _ | with_reducible exact SL.nc2 _ _ | exact SL.nc1 _ | exact SL.nc2 _ _ | exact SL.nc3 _ _ | exact SL.nc4 _ _ | exact SL.nc8 _ | rfl | omega) (by first | omega | decide | (simp; done))) | (apply SL.PV.door (o := ⟨_, .extract _ _, _, _, _, _⟩); first | exact SL.PV.extract (by rfl) (by rfl)) | (apply SL.PV.door (o := ⟨_, .pick _ _ _, _, _, _, _⟩); first | exact SL.PV.pickT (by rfl) (by rfl) | exact SL.PV.pickF (by rfl) (by rfl)) | (apply SL.PV.door (o := ⟨_, .unOp _ _ _, _, _, _, _⟩); first | exact SL.PV.notP (by rfl) | exact SL.PV.notB (by rfl) | exact SL.PV.neg (by rfl) (by first | exact SL.wrap_i64 (by omega) | exact SL.wrap_u8 (by omega) | exact SL.wrap_u32 (by omega) | exact SL.wrap_u64 (by omega) | rfl)) | (apply SL.PV.door (o := ⟨_, .nilCheck _, _, _, _, _⟩); first | exact SL.PV.nilPtr (by rfl) | exact SL.PV.nilFun (by rfl)) | (apply SL.PV.door (o := ⟨_, .field _ _ _, _, _, _, _⟩); first | exact SL.PV.field (by rfl) (by rfl) | exact SL.PV.fieldA (by rfl) (by first | ((repeat (first | exact SL.Cut.zero _ | apply SL.Cut.take | apply SL.Cut.drop)); done) | fail)) | (apply SL.PV.door (o := ⟨_, .convert _ _ _, _, _, _, _⟩); first | exact SL.PV.toIntC (by rfl) (by first | exact SL.wrap_i64 (by omega) | exact SL.wrap_u8 (by omega) | exact SL.wrap_u32 (by omega) | exact SL.wrap_u64 (by omega) | rfl)) | (apply SL.PV.door (o := ⟨_, .makeFunc _ _ _, _, _, _, _⟩); first | exact SL.PV.makeFunc (by first | ((repeat (first | exact SL.EvAll.nil | (apply SL.EvAll.cons; rfl))); done) | fail) (by first | ((repeat (first | exact SL.EvAll.nil | (apply SL.EvAll.cons; rfl))); done) | fail)) | (apply SL.PV.door (o := ⟨_, .build _ _, _, _, _, _⟩); first | exact SL.PV.build (by first | ((repeat (first | exact SL.EvP.nil | (apply SL.EvP.cons; rfl))); done) | fail) (by first | ((repeat (first | exact SL.Fill.nil | (apply SL.Fill.cons; rfl; rfl; rfl; repeat (first | exact SL.PutAt.nil _ | apply SL.PutAt.here | apply SL.PutAt.there)))); done) | fail)) | (apply SL.PV.door (o := ⟨_, .binOp _ _ _ _ _, _, _, _, _⟩); first | (apply SL.PV.door (o := ⟨_, .binOp .eql _ _ _ _, _, _, _, _⟩); first | exact SL.PV.eqI (by rfl) (by rfl) | exact SL.PV.eqPN (by rfl) (by rfl) (by first | exact Or.inl rfl | exact Or.inr rfl) | exact SL.PV.eqSN (by rfl) (by rfl) (by first | exact Or.inl rfl | exact Or.inr rfl) | exact SL.PV.eqMN (by rfl) (by rfl) (by first | exact Or.inl rfl | exact Or.inr rfl) | exact SL.PV.eqStr (by rfl) (by rfl) | exact SL.PV.eqB (by rfl) (by rfl) | exact SL.PV.eqFl (by rfl) (by rfl) (by rfl)) | (apply SL.PV.door (o := ⟨_, .binOp .neq _ _ _ _, _, _, _, _⟩); first | exact SL.PV.neI (by rfl) (by rfl) | exact SL.PV.nePN (by rfl) (by rfl) (by first | exact Or.inl rfl | exact Or.inr rfl) | exact SL.PV.neB (by rfl) (by rfl) | exact SL.PV.neFl (by rfl) (by rfl) (by rfl)) | (apply SL.PV.door (o := ⟨_, .binOp .lss _ _ _ _, _, _, _, _⟩); first | exact SL.PV.ltI (by rfl) (by rfl)) | (apply SL.PV.door (o := ⟨_, .binOp .leq _ _ _ _, _, _, _, _⟩); first | exact SL.PV.leI (by rfl) (by rfl)) | (apply SL.PV.door (o := ⟨_, .binOp .gtr _ _ _ _, _, _, _, _⟩); first | exact SL.PV.gtI (by rfl) (by rfl)) | (apply SL.PV.door (o := ⟨_, .binOp .geq _ _ _ _, _, _, _, _⟩); first | exact SL.PV.geI (by rfl) (by rfl)) | (apply SL.PV.door (o := ⟨_, .binOp .add _ _ _ _, _, _, _, _⟩); first | exact SL.PV.add (by rfl) (by rfl) (by first | exact SL.wrap_i64 (by omega) | exact SL.wrap_u8 (by omega) | exact SL.wrap_u32 (by omega) | exact SL.wrap_u64 (by omega) | rfl)) | (apply SL.PV.door (o := ⟨_, .binOp .sub _ _ _ _, _, _, _, _⟩); first | exact SL.PV.sub (by rfl) (by rfl) (by first | exact SL.wrap_i64 (by omega) | exact SL.wrap_u8 (by omega) | exact SL.wrap_u32 (by omega) | exact SL.wrap_u64 (by omega) | rfl)) | (apply SL.PV.door (o := ⟨_, .binOp .mul _ _ _ _, _, _, _, _⟩); first | exact SL.PV.mul (by rfl) (by rfl) (by first | exact SL.wrap_i64 (by omega) | exact SL.wrap_u8 (by omega) | exact SL.wrap_u32 (by omega) | exact SL.wrap_u64 (by omega) | rfl)) | (apply SL.PV.door (o := ⟨_, .binOp .quo _ _ _ _, _, _, _, _⟩); first | exact SL.PV.quo (by rfl) (by rfl) (by omega) (by first | exact SL.quo_i64 (by omega) | rfl)) | (apply SL.PV.door (o := ⟨_, .binOp .rem _ _ _ _, _, _, _, _⟩); first | exact SL.PV.rem (by rfl) (by rfl) (by omega) (by first | exact SL.rem_nn (by omega) | rfl)) | (apply SL.PV.door (o := ⟨_, .binOp .xor _ _ _ _, _, _, _, _⟩); first | exact SL.PV.xor (by rfl) (by rfl) rfl) | (apply SL.PV.door (o := ⟨_, .binOp .and _ _ _ _, _, _, _, _⟩); first | exact SL.PV.and (by rfl) (by rfl) rfl) | (apply SL.PV.door (o := ⟨_, .binOp .or _ _ _ _, _, _, _, _⟩); first | exact SL.PV.or (by rfl) (by rfl) rfl) | (apply SL.PV.door (o := ⟨_, .binOp .shl _ _ _ _, _, _, _, _⟩); first | exact SL.PV.shl (by rfl) (by rfl) (by omega) rfl) | (apply SL.PV.door (o := ⟨_, .binOp .shr _ _ _ _, _, _, _, _⟩); first | exact SL.PV.shr (by rfl) (by rfl) (by omega) rfl)) | (apply SL.isCall; first | exact SL.PV.len (by rfl) | exact SL.PV.minI (by rfl) (by rfl) (by rfl) | exact SL.PV.maxI (by rfl) (by rfl) (by rfl)) | (apply SL.isSlice; first | exact SL.PV.sliceIn (by rfl) (by rfl) (by rfl) (by first | exact (rfl : (0:Int) = ((0:Nat):Int)) | exact (rfl : (1:Int) = ((1:Nat):Int)) | with_reducible exact SL.nc1 _ | with_reducible exact SL.nc5 _ _ | with_reducible exact SL.nc6 _ _ | with_reducible exact SL.nc2 _ _ | exact SL.nc1 _ | exact SL.nc2 _ _ | exact SL.nc3 _ _ | exact SL.nc4 _ _ | exact SL.nc8 _ | rfl | omega) (by first | exact (rfl : (0:Int) = ((0:Nat):Int)) | exact (rfl : (1:Int) = ((1:Nat):Int)) | with_reducible exact SL.nc1 _ | with_reducible exact SL.nc5 _ _ | with_reducible exact SL.nc6 _ _ | with_reducible exact SL.nc2 _ _ | exact SL.nc1 _ | exact SL.nc2 _ _ | exact SL.nc3 _ _ | exact SL.nc4 _ _ | exact SL.nc8 _ | rfl | omega) (by omega) (by omega) (by omega) (by (try simp only [Nat.zero_add, Nat.add_zero, Nat.reduceAdd, Nat.reduceMul, Nat.mul_one]) <;> rfl) (by (try simp only [Nat.reduceSub, Nat.add_sub_cancel, Nat.sub_zero]) <;> rfl) (by (try simp only [Nat.reduceSub, Nat.add_sub_cancel, Nat.sub_zero]) <;> rfl) | exact SL.PV.sliceLoIn (by rfl) (by rfl) (by first | exact (rfl : (0:Int) = ((0:Nat):Int)) | exact (rfl : (1:Int) = ((1:Nat):Int)) | with_reducible exact SL.nc1 _ | with_reducible exact SL.nc5 _ _ | with_reducible exact SL.nc6 _ _ | with_reducible exact SL.nc2 _ _ | exact SL.nc1 _ | exact SL.nc2 _ _ | exact SL.nc3 _ _ | exact SL.nc4 _ _ | exact SL.nc8 _ | rfl | omega) (by omega) (by omega) (by (try simp only [Nat.zero_add, Nat.add_zero, Nat.reduceAdd, Nat.reduceMul, Nat.mul_one]) <;> rfl) (by (try simp only [Nat.reduceSub, Nat.add_sub_cancel, Nat.sub_zero]) <;> rfl) (by (try simp only [Nat.reduceSub, Nat.add_sub_cancel, Nat.sub_zero]) <;> rfl) | exact SL.PV.slice3 (by rfl) (by rfl) (by rfl) (by rfl) (by first | exact (rfl : (0:Int) = ((0:Nat):Int)) | exact (rfl : (1:Int) = ((1:Nat):Int)) | with_reducible exact SL.nc1 _ | with_reducible exact SL.nc5 _ _ | with_reducible exact SL.nc6 _ _ | with_reducible exact SL.nc2 _ _ | exact SL.nc1 _ | exact SL.nc2 _ _ | exact SL.nc3 _ _ | exact SL.nc4 _ _ | exact SL.nc8 _ | rfl | omega) (by first | exact (rfl : (0:Int) = ((0:Nat):Int)) | exact (rfl : (1:Int) = ((1:Nat):Int)) | with_reducible exact SL.nc1 _ | with_reducible exact SL.nc5 _ _ | with_reducible exact SL.nc6 _ _ | with_reducible exact SL.nc2 _ _ | exact SL.nc1 _ | exact SL.nc2 _ _ | exact SL.nc3 _ _ | exact SL.nc4 _ _ | exact SL.nc8 _ | rfl | omega) (by first | exact (rfl : (0:Int) = ((0:Nat):Int)) | exact (rfl : (1:Int) = ((1:Nat):Int)) | with_reducible exact SL.nc1 _ | with_reducible exact SL.nc5 _ _ | with_reducible exact SL.nc6 _ _ | with_reducible exact SL.nc2 _ _ | exact SL.nc1 _ | exact SL.nc2 _ _ | exact SL.nc3 _ _ | exact SL.nc4 _ _ | exact SL.nc8 _ | rfl | omega) (by omega) (by omega) (by omega) | exact SL.PV.sliceHi (by rfl) (by rfl) (by first | exact (rfl : (0:Int) = ((0:Nat):Int)) | exact (rfl : (1:Int) = ((1:Nat):Int)) | with_reducible exact SL.nc1 _ | with_reducible exact SL.nc5 _ _ | with_reducible exact SL.nc6 _ _ | with_reducible exact SL.nc2 _ _ | exact SL.nc1 _ | exact SL.nc2 _ _ | exact SL.nc3 _ _ | exact SL.nc4 _ _ | exact SL.nc8 _ | rfl | omega) (by omega) | exact SL.PV.sliceLo (by rfl) (by rfl) (by first | exact (rfl : (0:Int) = ((0:Nat):Int)) | exact (rfl : (1:Int) = ((1:Nat):Int)) | with_reducible exact SL.nc1 _ | with_reducible exact SL.nc5 _ _ | with_reducible exact SL.nc6 _ _ | with_reducible exact SL.nc2 _ _ | exact SL.nc1 _ | exact SL.nc2 _ _ | exact SL.nc3 _ _ | exact SL.nc4 _ _ | exact SL.nc8 _ | rfl | omega) (by omega) | exact SL.PV.slice (by rfl) (by rfl) (by rfl) (by first | exact (rfl : (0:Int) = ((0:Nat):Int)) | exact (rfl : (1:Int) = ((1:Nat):Int)) | with_reducible exact SL.nc1 _ | with_reducible exact SL.nc5 _ _ | with_reducible exact SL.nc6 _ _ | with_reducible exact SL.nc2 _ _ | exact SL.nc1 _ | exact SL.nc2 _ _ | exact SL.nc3 _ _ | exact SL.nc4 _ _ | exact SL.nc8 _ | rfl | omega) (by first | exact (rfl : (0:Int) = ((0:Nat):Int)) | exact (rfl : (1:Int) = ((1:Nat):Int)) | with_reducible exact SL.nc1 _ | with_reducible exact SL.nc5 _ _ | with_reducible exact SL.nc6 _ _ | with_reducible exact SL.nc2 _ _ | exact SL.nc1 _ | exact SL.nc2 _ _ | exact SL.nc3 _ _ | exact SL.nc4 _ _ | exact SL.nc8 _ | rfl | omega) (by omega) (by omega))) :
    TO P fid n post ops (⟨none, op, ty, pos, af, g⟩ :: rest) sf k ρ L := TO.pv0 hw hv h
theorem W.pvn {op : Op} {v : Value} (hv : PV P n ρ ⟨some d, op, ty, pos, af, g⟩ v) (h : TO P fid n post ops rest sf k ((d, v) :: ρ) L) (hw : wants ops ρ g = some true := by rfl) (hd : Nat.blt d n = true := by rfl) :
    TO P fid n post ops (⟨some d, op, ty, pos, af, g⟩ :: rest) sf k ρ L := TO.pv hw hd hv h
theorem W.toIntC {x : Operand} {kd kd' kd0 : IntKind} {i q : Int} {s t : Nat} [hs : TIn P s kd0] [ht : TIn P t kd'] (h : TO P fid n post ops rest sf k ((d, .int kd' q) :: ρ) L) (hw : wants ops ρ g = some true := by rfl) (hd : Nat.blt d n = true := by rfl) (hx : ev ρ x = some (.int kd i) := by rfl) (hr : kd'.wrap i = q := by first | exact SL.wrap_i64 (by omega) | exact SL.wrap_u8 (by omega) | exact SL.wrap_u32 (by omega) | exact SL.wrap_u64 (by omega) | rfl) :
    TO P fid n post ops (⟨some d, .convert s t x, ty, pos, af, g⟩ :: rest) sf k ρ L := TO.pv hw hd (PV.toIntC hx hr) h
theorem aps {α : Type _} : (∀ l : List α, l ++ [] = l) ∧ (∀ (a : α) (l m : List α), (a :: l) ++ m = a :: (l ++ m)) ∧ ∀ l : List α, [] ++ l = l := ⟨List.append_nil, fun _ _ _ => rfl, fun _ => rfl⟩
theorem W.load {x : Operand} {t b off T : Nat} {cs : List Value} {v : Value} [ht : TSc P t] (h : TO P fid n post ops rest sf k ((d, v) :: ρ) L) (hw : wants ops ρ g = some true := by rfl) (hd : Nat.blt d n = true := by rfl) (hx : ev ρ x = some (.pointer (some ⟨b, off, none⟩)) := by rfl)
    (hp : Pick L (blk b T cs) r := by first | ((repeat (first | exact SL.Pick.head | apply SL.Pick.tail)); done) | fail) (hv : nth cs off = some v := by rfl) : TO P fid n post ops (⟨some d, .load t x, ty, pos, af, g⟩ :: rest) sf k ρ L := TO.load hw hd hx hp hv h
theorem W.loadN {x : Operand} {t b off T : Nat} {cs : List Value} {v : Value} [ht : TSc P t] (hv : nth cs off = some v) (h : TO P fid n post ops rest sf k ((d, v) :: ρ) L) (hw : wants ops ρ g = some true := by rfl) (hd : Nat.blt d n = true := by rfl) (hx : ev ρ x = some (.pointer (some ⟨b, off, none⟩)) := by rfl)
    (hp : Pick L (blk b T cs) r := by first | ((repeat (first | exact SL.Pick.head | apply SL.Pick.tail)); done) | fail) : TO P fid n post ops (⟨some d, .load t x, ty, pos, af, g⟩ :: rest) sf k ρ L := TO.load hw hd hx hp hv h
theorem W.loadO {W : World} {x : Operand} {t : Nat} {q : Addr} {v : Value} [ht : TSc P t] (hv : W.cell? q = some v) (h : TO P fid n post ops rest sf k ((d, v) :: ρ) L) (hw : wants ops ρ g = some true := by rfl) (hd : Nat.blt d n = true := by rfl) (hx : ev ρ x = some (.pointer (some q)) := by rfl)
    (hp : Pick L (SL.orig W) r := by first | ((repeat (first | exact SL.Pick.head | apply SL.Pick.tail)); done) | fail) : TO P fid n post ops (⟨some d, .load t x, ty, pos, af, g⟩ :: rest) sf k ρ L := TO.loadO hw hd hx hp hv h
theorem W.loadA {x : Operand} {t b off T sz : Nat} {cs vs : List Value} [ht : TAg P t sz] (h : TO P fid n post ops rest sf k ((d, .agg vs.toArray) :: ρ) L) (hw : wants ops ρ g = some true := by rfl) (hd : Nat.blt d n = true := by rfl) (hx : ev ρ x = some (.pointer (some ⟨b, off, none⟩)) := by rfl)
    (hp : Pick L (blk b T cs) r := by first | ((repeat (first | exact SL.Pick.head | apply SL.Pick.tail)); done) | fail) (hv : Cut cs off sz vs := by first | ((repeat (first | exact SL.Cut.zero _ | apply SL.Cut.take | apply SL.Cut.drop)); done) | fail) : TO P fid n post ops (⟨some d, .load t x, ty, pos, af, g⟩ :: rest) sf k ρ L := TO.loadA hw hd hx hp hv h
theorem W.store {x y : Operand} {t b off T : Nat} {cs cs' : List Value} {v : Value} [ht : TSc P t] (h : TO P fid n post ops rest sf k ρ (blk b T cs' :: r)) (hw : wants ops ρ g = some true := by rfl) (hx : ev ρ x = some (.pointer (some ⟨b, off, none⟩)) := by rfl)
    (hy : ev ρ y = some v := by rfl) (h1 : v.oneCell' = true := by rfl) (hp : Pick L (blk b T cs) r := by first | ((repeat (first | exact SL.Pick.head | apply SL.Pick.tail)); done) | fail) (hv : PutAt cs off [v] cs' := by first | ((repeat (first | exact SL.PutAt.nil _ | apply SL.PutAt.here | apply SL.PutAt.there)); done) | fail) : TO P fid n post ops (⟨none, .store t x y, ty, pos, af, g⟩ :: rest) sf k ρ L := TO.store hw hx hy h1 hp hv h
theorem W.storeN {x y : Operand} {t b off T : Nat} {cs cs' : List Value} {v : Value} [ht : TSc P t] (hv : PutAt cs off [v] cs') (h : TO P fid n post ops rest sf k ρ (blk b T cs' :: r)) (hw : wants ops ρ g = some true := by rfl) (hx : ev ρ x = some (.pointer (some ⟨b, off, none⟩)) := by rfl)
    (hy : ev ρ y = some v := by rfl) (h1 : v.oneCell' = true := by rfl) (hp : Pick L (blk b T cs) r := by first | ((repeat (first | exact SL.Pick.head | apply SL.Pick.tail)); done) | fail) : TO P fid n post ops (⟨none, .store t x y, ty, pos, af, g⟩ :: rest) sf k ρ L := TO.store hw hx hy h1 hp hv h
theorem W.storeA {x y : Operand} {t b off T sz : Nat} {cs cs' vs : List Value} [ht : TAg P t sz] (h : TO P fid n post ops rest sf k ρ (blk b T cs' :: r)) (hw : wants ops ρ g = some true := by rfl) (hx : ev ρ x = some (.pointer (some ⟨b, off, none⟩)) := by rfl)
    (hy : ev ρ y = some (.agg vs.toArray) := by rfl) (hl : vs.length = sz := by rfl) (h1 : vs.all (·.oneCell') = true := by rfl) (hp : Pick L (blk b T cs) r := by first | ((repeat (first | exact SL.Pick.head | apply SL.Pick.tail)); done) | fail) (hv : PutAt cs off vs cs' := by first | ((repeat (first | exact SL.PutAt.nil _ | apply SL.PutAt.here | apply SL.PutAt.there)); done) | fail) : TO P fid n post ops (⟨none, .store t x y, ty, pos, af, g⟩ :: rest) sf k ρ L := TO.storeA hw hx hy hl h1 hp hv h
theorem W.box {x : Operand} {v : Value} {e : Nat} {cs : List Value} (h : ∀ b, TO P fid n post ops rest sf k ((d, .pointer (some ⟨b, 0, none⟩)) :: ρ) (blk b e cs :: L)) (hw : wants ops ρ g = some true := by rfl) (hd : Nat.blt d n = true := by rfl) (hx : ev ρ x = some v := by rfl) (hc : v.cells = cs.toArray := by rfl) :
    TO P fid n post ops (⟨some d, .box e x, ty, pos, af, g⟩ :: rest) sf k ρ L := TO.box hw hd hx hc h
theorem W.alloc {z : Value} {e : Nat} {cs : List Value} [hz : TZe P e z] (h : ∀ b, TO P fid n post ops rest sf k ((d, .pointer (some ⟨b, 0, none⟩)) :: ρ) (blk b e cs :: L)) (hw : wants ops ρ g = some true := by rfl) (hd : Nat.blt d n = true := by rfl) (hc : z.cells = cs.toArray := by rfl) :
    TO P fid n post ops (⟨some d, .alloc e, ty, pos, af, g⟩ :: rest) sf k ρ L := TO.alloc hw hd hc h
theorem W.buildSlice {t e sz by_ len : Nat} {z : Value} {zs0 cs : List Value} {ps : List (Nat × Operand)} {vs : List (Nat × Value)} [ht : TSl P t e sz by_] [hz : TZe P e z]
    (h : ∀ b, TO P fid n post ops rest sf k ((d, .slice (some ⟨b, 0, none⟩) len len) :: ρ) (own e sz (some ⟨b, 0, none⟩) len len cs :: L)) (hw : wants ops ρ g = some true := by rfl) (hd : Nat.blt d n = true := by rfl) (hzs : z.cells.size = sz := by rfl) (hsm : len * sz ≤ 16777216 := by omega) (he : EvP ρ ps vs := by first | ((repeat (first | exact SL.EvP.nil | (apply SL.EvP.cons; rfl))); done) | fail)
    (hz0 : zeros z.cells.toList len = zs0 := by simp only [SL.zeros, Go.Value.cells, List.append_nil, List.cons_append, List.nil_append] <;> rfl) (hf : Fill (layA sz 0 len) zs0 vs cs := by first | ((repeat (first | exact SL.Fill.nil | (apply SL.Fill.cons; rfl; rfl; rfl; repeat (first | exact SL.PutAt.nil _ | apply SL.PutAt.here | apply SL.PutAt.there)))); done) | fail) : TO P fid n post ops (⟨some d, .buildSlice t len ps.toArray, ty, pos, af, g⟩ :: rest) sf k ρ L := TO.buildSlice hw hd hzs hsm he hz0 hf h
theorem W.append {x y : Operand} {t t' e sz by_ m m' cap : Nat} {a : Option Addr} {cs new cs2 : List Value} {s2 : Nat} {yv z : Value} [ht : TSl P t e sz by_] [hz : TZe P e z] [hni' : TNI P t']
    (h : ∀ (a' : Option Addr) (cap' : Nat), TO P fid n post ops rest sf k ((d, .slice a' s2 cap') :: ρ) (own e sz a' s2 cap' cs2 :: r))
    (hw : wants ops ρ g = some true := by rfl) (hd : Nat.blt d n = true := by rfl) (hx : ev ρ x = some (.slice a m cap) := by rfl) (hy : ev ρ y = some yv := by rfl) (hzs : z.cells.size = sz := by rfl)
    (hp : Pick L (own e sz a m cap cs) r := by first | ((repeat (first | exact SL.Pick.head | apply SL.Pick.tail)); done) | fail) (hs : Src P L sz m' yv new := by first | exact SL.Src.nil | exact SL.Src.sl (by first | ((repeat (first | exact SL.Pick.head | apply SL.Pick.tail)); done) | fail) (by omega) (by omega) (by assumption) | exact SL.Src.own (by first | ((repeat (first | exact SL.Pick.head | apply SL.Pick.tail)); done) | fail) (by first | rfl | assumption | simp) | exact SL.Src.blk (by first | ((repeat (first | exact SL.Pick.head | apply SL.Pick.tail)); done) | fail) (by first | ((repeat (first | exact SL.Cut.zero _ | apply SL.Cut.take | apply SL.Cut.drop)); done) | fail) | exact SL.Rd.src (by assumption) rfl (by first | ((repeat (first | exact SL.Pick.head | apply SL.Pick.tail)); done) | fail)) (h1 : ∀ v ∈ new, v.oneCell' = true := by first | assumption | simp [Go.Value.oneCell']) (hb0 : by_ ≠ 0 := by decide) (hb : (m + m') * by_ ≤ 140737488355328 := by omega)
    (hs2 : m + m' = s2 := by (try simp only [Nat.zero_add, Nat.add_zero, Nat.reduceAdd]) <;> rfl) (hcs2 : cs ++ new = cs2 := by (try simp only [List.nil_append, List.cons_append, List.append_nil]) <;> rfl) : TO P fid n post ops (⟨some d, .call ⟨.builtin .append, [x, y].toArray, [t, t'].toArray⟩, ty, pos, af, g⟩ :: rest) sf k ρ L := TO.append hw hd hx hy hzs hp hs h1 hb0 hb hs2 hcs2 h
theorem W.bytesToStr {x : Operand} {s t m cap e by_ : Nat} {p : Option Addr} {bs : List UInt8} [hs' : TSl P s e 1 by_] (h : TO P fid n post ops rest sf k ((d, .string (strOf bs)) :: ρ) L) (hu : P.underlying t = some .string := by rfl) (hu8 : P.underlying e = some (.int .u8) := by rfl) (hw : wants ops ρ g = some true := by rfl) (hd : Nat.blt d n = true := by rfl)
    (hx : ev ρ x = some (.slice p m cap) := by rfl) (hs : Src P L 1 m (.slice p m cap) (bs.map byteV) := by first | exact SL.Src.nil | exact SL.Src.sl (by first | ((repeat (first | exact SL.Pick.head | apply SL.Pick.tail)); done) | fail) (by omega) (by omega) (by assumption) | exact SL.Src.own (by first | ((repeat (first | exact SL.Pick.head | apply SL.Pick.tail)); done) | fail) (by first | rfl | assumption | simp) | exact SL.Src.blk (by first | ((repeat (first | exact SL.Pick.head | apply SL.Pick.tail)); done) | fail) (by first | ((repeat (first | exact SL.Cut.zero _ | apply SL.Cut.take | apply SL.Cut.drop)); done) | fail) | exact SL.Rd.src (by assumption) rfl (by first | ((repeat (first | exact SL.Pick.head | apply SL.Pick.tail)); done) | fail)) : TO P fid n post ops (⟨some d, .convert s t x, ty, pos, af, g⟩ :: rest) sf k ρ L := TO.bytesToStr hu hu8 hw hd hx hs h
theorem W.makeSlice {t e sz by_ len cap : Nat} {x y : Operand} {kd kd' : IntKind} {i j : Int} {z : Value} [ht : TSl P t e sz by_] [hz : TZe P e z] (h : ∀ b, TO P fid n post ops rest sf k ((d, .slice (some ⟨b, 0, none⟩) len cap) :: ρ) (own e sz (some ⟨b, 0, none⟩) len cap (zeros z.cells.toList len) :: L))
    (hw : wants ops ρ g = some true := by rfl) (hd : Nat.blt d n = true := by rfl) (hx : ev ρ x = some (.int kd i) := by rfl) (hy : ev ρ y = some (.int kd' j) := by rfl) (hi : i = len := by first | exact (rfl : (0:Int) = ((0:Nat):Int)) | exact (rfl : (1:Int) = ((1:Nat):Int)) | with_reducible exact SL.nc1 _ | with_reducible exact SL.nc5 _ _ | with_reducible exact SL.nc6 _ _ | with_reducible exact SL.nc2 _ _ | exact SL.nc1 _ | exact SL.nc2 _ _ | exact SL.nc3 _ _ | exact SL.nc4 _ _ | exact SL.nc8 _ | rfl | omega) (hj : j = cap := by first | exact (rfl : (0:Int) = ((0:Nat):Int)) | exact (rfl : (1:Int) = ((1:Nat):Int)) | with_reducible exact SL.nc1 _ | with_reducible exact SL.nc5 _ _ | with_reducible exact SL.nc6 _ _ | with_reducible exact SL.nc2 _ _ | exact SL.nc1 _ | exact SL.nc2 _ _ | exact SL.nc3 _ _ | exact SL.nc4 _ _ | exact SL.nc8 _ | rfl | omega) (hlc : len ≤ cap := by omega) (hzs : z.cells.size = sz := by rfl) (hb : cap * by_ ≤ 140737488355328 := by omega) (hc : cap ≤ 140737488355328 := by omega) :
    TO P fid n post ops (⟨some d, .makeSlice t x y, ty, pos, af, g⟩ :: rest) sf k ρ L := TO.makeSlice hw hd hx hy hi hj hlc hzs hb hc h
theorem W.call {f : Nat} {xs : List Operand} {tys : Array TypeId} {vs : List Value} {pre rst : List HProp} {post' : Post}
    (hs : Spec P f vs pre post') (h : ∀ v L', post' v L' → TO P fid n post ops rest sf k ((d, v) :: ρ) (L' ++ rst)) (hw : wants ops ρ g = some true := by rfl) (hd : Nat.blt d n = true := by rfl)
    (he : EvAll ρ xs vs := by first | ((repeat (first | exact SL.EvAll.nil | (apply SL.EvAll.cons; rfl))); done) | fail) (hfr : Frm L pre rst := by first | ((repeat (first | exact SL.Frm.nil | exact SL.Frm.refl | (apply SL.Frm.cons; repeat (first | exact SL.Pick.head | apply SL.Pick.tail)))); done) | fail) : TO P fid n post ops (⟨some d, .call ⟨.value (.func f), xs.toArray, tys⟩, ty, pos, af, g⟩ :: rest) sf k ρ L := TO.call hs hw hd he hfr h
theorem W.call0 {f : Nat} {xs : List Operand} {tys : Array TypeId} {vs : List Value} {pre rst : List HProp} {post' : Post}
    (hs : Spec P f vs pre post') (h : ∀ v L', post' v L' → TO P fid n post ops rest sf k ρ (L' ++ rst)) (hw : wants ops ρ g = some true := by rfl)
    (he : EvAll ρ xs vs := by first | ((repeat (first | exact SL.EvAll.nil | (apply SL.EvAll.cons; rfl))); done) | fail) (hfr : Frm L pre rst := by first | ((repeat (first | exact SL.Frm.nil | exact SL.Frm.refl | (apply SL.Frm.cons; repeat (first | exact SL.Pick.head | apply SL.Pick.tail)))); done) | fail) : TO P fid n post ops (⟨none, .call ⟨.value (.func f), xs.toArray, tys⟩, ty, pos, af, g⟩ :: rest) sf k ρ L := TO.call0 hs hw he hfr h
section
variable {κ : Type} {kv : κ → Value} {m : Nat} {l : List (κ × Value)} {o : Option (Nat × List κ)}
theorem W.lookupOk [DecidableEq κ] {x kk : Operand} {t kt e : Nat} {z : Value} {q : κ} [htm : TMp P t kt e] [hky : TKy P kt κ kv] [hz : TZe P e z] (h : TO P fid n post ops rest sf k ((d, .tuple [(get q l).getD z, .bool (get q l).isSome].toArray) :: ρ) L) (hw : wants ops ρ g = some true := by rfl) (hd : Nat.blt d n = true := by rfl)
    (hx : ev ρ x = some (.map (some m)) := by rfl) (hk : ev ρ kk = some (kv q) := by rfl) (hp : Pick L (mpI kv m l o) r := by first | ((repeat (first | exact SL.Pick.head | apply SL.Pick.tail)); done) | fail) : TO P fid n post ops (⟨some d, .lookup t x kk true, ty, pos, af, g⟩ :: rest) sf k ρ L := TO.lookupOk hw hd hx hk hp h
theorem W.lookup [DecidableEq κ] {x kk : Operand} {t kt e : Nat} {z : Value} {q : κ} [htm : TMp P t kt e] [hky : TKy P kt κ kv] [hz : TZe P e z] (h : TO P fid n post ops rest sf k ((d, (get q l).getD z) :: ρ) L) (hw : wants ops ρ g = some true := by rfl) (hd : Nat.blt d n = true := by rfl)
    (hx : ev ρ x = some (.map (some m)) := by rfl) (hk : ev ρ kk = some (kv q) := by rfl) (hp : Pick L (mpI kv m l o) r := by first | ((repeat (first | exact SL.Pick.head | apply SL.Pick.tail)); done) | fail) : TO P fid n post ops (⟨some d, .lookup t x kk false, ty, pos, af, g⟩ :: rest) sf k ρ L := TO.lookup hw hd hx hk hp h
theorem W.lenMp {x : Operand} {t kt e : Nat} [ht : TMp P t kt e] (h : TO P fid n post ops rest sf k ((d, .int .i64 l.length) :: ρ) L) (hw : wants ops ρ g = some true := by rfl) (hd : Nat.blt d n = true := by rfl)
    (hx : ev ρ x = some (.map (some m)) := by rfl) (hp : Pick L (mpI kv m l o) r := by first | ((repeat (first | exact SL.Pick.head | apply SL.Pick.tail)); done) | fail) : TO P fid n post ops (⟨some d, .call ⟨.builtin .len, [x].toArray, [t].toArray⟩, ty, pos, af, g⟩ :: rest) sf k ρ L := TO.lenMp hw hd hx hp h
theorem W.makeMap {t kt e : Nat} [ht : TMp P t kt e] [hky : TKy P kt κ kv] (h : ∀ b, TO P fid n post ops rest sf k ((d, .map (some b)) :: ρ) (mpI kv b [] none :: L)) (hw : wants ops ρ g = some true := by rfl) (hd : Nat.blt d n = true := by rfl) :
    TO P fid n post ops (⟨some d, .makeMap t none, ty, pos, af, g⟩ :: rest) sf k ρ L := TO.makeMap hw hd h
theorem W.mapUpdate [DecidableEq κ] {x kk y : Operand} {t kt e : Nat} {q : κ} {v : Value} [htm : TMp P t kt e] [hky : TKy P kt κ kv] (h : TO P fid n post ops rest sf k ρ (mpI kv m (upd q v l) o :: r)) (hw : wants ops ρ g = some true := by rfl)
    (hx : ev ρ x = some (.map (some m)) := by rfl) (hk : ev ρ kk = some (kv q) := by rfl) (hv : ev ρ y = some v := by rfl) (hp : Pick L (mpI kv m l o) r := by first | ((repeat (first | exact SL.Pick.head | apply SL.Pick.tail)); done) | fail) (ho : o = none ∨ (get q l).isSome = true := by first | exact Or.inl rfl | exact Or.inr (by assumption)) :
    TO P fid n post ops (⟨none, .mapUpdate t x kk y, ty, pos, af, g⟩ :: rest) sf k ρ L := TO.mapUpdate hw hx hk hv hp ho h
theorem W.range {x : Operand} {t kt e : Nat} [htm : TMp P t kt e] (h : ∀ it, TO P fid n post ops rest sf k ((d, .pointer (some ⟨it, 0, none⟩)) :: ρ) (mpI kv m l (some (it, [])) :: r)) (hw : wants ops ρ g = some true := by rfl) (hd : Nat.blt d n = true := by rfl)
    (hx : ev ρ x = some (.map (some m)) := by rfl) (hp : Pick L (mpI kv m l none) r := by first | ((repeat (first | exact SL.Pick.head | apply SL.Pick.tail)); done) | fail) : TO P fid n post ops (⟨some d, .range t x, ty, pos, af, g⟩ :: rest) sf k ρ L := TO.range hw hd hx hp h
theorem W.next {x : Operand} {it : Nat} {done : List κ} (hend : (∀ p ∈ l, p.1 ∈ done) → TO P fid n post ops rest sf k ((d, .tuple [.bool false].toArray) :: ρ) (mpI kv m l (some (it, done)) :: r))
    (hnext : ∀ q v, (q, v) ∈ l → q ∉ done → TO P fid n post ops rest sf k ((d, .tuple [.bool true, kv q, v].toArray) :: ρ) (mpI kv m l (some (it, q :: done)) :: r)) (hw : wants ops ρ g = some true := by rfl) (hd : Nat.blt d n = true := by rfl)
    (hx : ev ρ x = some (.pointer (some ⟨it, 0, none⟩)) := by rfl) (hp : Pick L (mpI kv m l (some (it, done))) r := by first | ((repeat (first | exact SL.Pick.head | apply SL.Pick.tail)); done) | fail) : TO P fid n post ops (⟨some d, .next x false, ty, pos, af, g⟩ :: rest) sf k ρ L := TO.next hw hd hx hp hend hnext
theorem W.entry [DecidableEq κ] {x : Operand} {it : Nat} {q : κ} {ds : List κ} {v : Value} (h : TO P fid n post ops rest sf k ((d, .tuple [kv q, v].toArray) :: ρ) L) (hv : (q, v) ∈ l := by assumption) (hw : wants ops ρ g = some true := by rfl) (hd : Nat.blt d n = true := by rfl)
    (hx : ev ρ x = some (.pointer (some ⟨it, 0, none⟩)) := by rfl) (hp : Pick L (mpI kv m l (some (it, q :: ds))) r := by first | ((repeat (first | exact SL.Pick.head | apply SL.Pick.tail)); done) | fail) : TO P fid n post ops (⟨some d, .entry x, ty, pos, af, g⟩ :: rest) sf k ρ L := TO.entry hw hd hx hp hv h
theorem W.mapEntry [DecidableEq κ] {x kk : Operand} {t kt e : Nat} {z : Value} {q : κ} [htm : TMp P t kt e] [hky : TKy P kt κ kv] [hz : TZe P e z] (h : ∀ b : Nat, TO P fid n post ops rest sf k ((d, .tuple [(get q l).getD z, .int .i64 b].toArray) :: ρ) (mpS kv m (upd q ((get q l).getD z) l) q b :: r)) (hw : wants ops ρ g = some true := by rfl) (hd : Nat.blt d n = true := by rfl)
    (hx : ev ρ x = some (.map (some m)) := by rfl) (hk : ev ρ kk = some (kv q) := by rfl) (hp : Pick L (mpI kv m l none) r := by first | ((repeat (first | exact SL.Pick.head | apply SL.Pick.tail)); done) | fail) : TO P fid n post ops (⟨some d, .mapEntry t x kk, ty, pos, af, g⟩ :: rest) sf k ρ L := TO.mapEntry hw hd hx hk hp h
theorem W.entryStore [DecidableEq κ] {x s y : Operand} {t b : Nat} {q : κ} {v : Value} (h : TO P fid n post ops rest sf k ρ (mpI kv m (upd q v l) none :: r)) (hw : wants ops ρ g = some true := by rfl)
    (hx : ev ρ x = some (.map (some m)) := by rfl) (hs' : ev ρ s = some (.int .i64 b) := by rfl) (hv : ev ρ y = some v := by rfl) (hp : Pick L (mpS kv m l q b) r := by first | ((repeat (first | exact SL.Pick.head | apply SL.Pick.tail)); done) | fail) : TO P fid n post ops (⟨none, .entryStore t x s y, ty, pos, af, g⟩ :: rest) sf k ρ L := TO.entryStore hw hx hs' hv hp h
theorem W.delete [DecidableEq κ] {x kk : Operand} {t kt e : Nat} {q : κ} [htm : TMp P t kt e] [hky : TKy P kt κ kv] {tk : TypeId} (h : TO P fid n post ops rest sf k ρ (mpI kv m (del q l) none :: r)) (hw : wants ops ρ g = some true := by rfl)
    (hx : ev ρ x = some (.map (some m)) := by rfl) (hk : ev ρ kk = some (kv q) := by rfl) (hp : Pick L (mpI kv m l none) r := by first | ((repeat (first | exact SL.Pick.head | apply SL.Pick.tail)); done) | fail) : TO P fid n post ops (⟨none, .call ⟨.builtin .delete, [x, kk].toArray, [t, tk].toArray⟩, ty, pos, af, g⟩ :: rest) sf k ρ L := TO.delete hw hx hk hp h
end
end
def quickOp : Op → Bool
  | .move .. => true
  | .assign .. => true
  | .fieldAddr .. => true
  | .extract .. => true
  | .nilCheck .. => true
  | .pick .. => true
  | _ => false
section
variable {P : Program} {fid : Fm} {n : Nat} {post : Post} {k : List Item} {ρ : Env} {L : List HProp} {ops rest : List Oper} {sf : Option (List Bool × List HProp)}
theorem TK.isExit {id : Nat} (h : TK P fid n post (.code (.exit id) :: k) ρ L) : TK P fid n post (.code (.exit id) :: k) ρ L := h
theorem W.quick {o : Oper} (h : TO P fid n post ops (o :: rest) sf k ρ L) (hp : quickOp o.op = true := by rfl) : TO P fid n post ops (o :: rest) sf k ρ L := h
end
end SL
end
section
set_option linter.unusedVariables false
set_option linter.unusedSimpArgs false
namespace SL
open Go Go.ChangeShapes Go.WideShapes Go.ChangeAt Go.WideElems Go.RowKit
def Rdb (P : Program) (W : World) (t : Nat) (cs : List Value) : Prop := ∃ (H : Type) (enc : TypeId × Value → H) (n : Nat) (x : DataW H × List MemPlace), DataW.trod enc P W 0 (fun _ => true) true n t cs = some x
theorem add_add (q : Addr) (i j : Nat) : (q.add i).add j = q.add (i + j) := by
  obtain ⟨b, o, s⟩ := q
  by_cases hi : i = 0
  · subst hi; simp [Addr.add]
  · by_cases hj : j = 0
    · subst hj; simp [Addr.add, hi]
    · simp [Addr.add, hi, hj, Nat.add_assoc]
section
variable {P : Program} {W : World} {t : Nat} {cs : List Value}
theorem Rdb.of {H : Type} {enc : TypeId × Value → H} {v : Value} {d : DataW H} {ps : List MemPlace} (h : DataW.Trod enc P W 0 (fun _ => true) true t v d ps) : Rdb P W t v.cells.toList := by
  obtain ⟨n, hn⟩ := h
  exact ⟨H, enc, n, _, hn⟩
theorem Rdb.int {k : IntKind} (ht : P.underlying t = some (.int k)) (h : Rdb P W t cs) : ∃ n, cs = [.int k n] ∧ (Lit.int k n).wf = true := by
  obtain ⟨H, enc, m, x, hx⟩ := h
  obtain ⟨n, h1, _, h2⟩ := DataW.trod_int ht hx
  exact ⟨n, h1, h2⟩
theorem Rdb.bool (ht : P.underlying t = some .bool) (h : Rdb P W t cs) : ∃ b, cs = [.bool b] := by
  obtain ⟨H, enc, m, x, hx⟩ := h
  obtain ⟨b, h1, _⟩ := DataW.trod_bool ht hx
  exact ⟨b, h1⟩
theorem Rdb.struct {fs : Array Field} (ht : P.underlying t = some (.struct fs)) (h : Rdb P W t cs) :
    cs.length = P.cellsOf t ∧ ∀ f ∈ fs.toList, Rdb P W f.type ((cs.drop f.offset).take (P.cellsOf f.type)) := by
  obtain ⟨H, enc, m, x, hx⟩ := h
  obtain ⟨xs, n, _, _, h1, h2, h3⟩ := DataW.trod_struct ht hx
  refine ⟨h1, fun f hf => ?_⟩
  obtain ⟨i, hi⟩ := List.getElem?_of_mem hf
  have hi' : fs[i]? = some f := by simpa using hi
  have hlt : i < xs.length := by rw [h2]; exact (Array.getElem?_eq_some_iff.1 hi').1
  have := h3 i f hi'
  rw [List.getElem?_eq_getElem hlt] at this
  exact ⟨H, enc, n, _, this⟩
theorem Rdb.slice {e : Nat} (ht : P.underlying t = some (.slice e)) (h : Rdb P W t cs) :
    (cs = [.slice none 0 0]) ∨ ∃ (a : Addr) (len cap : Nat), cs = [.slice (some a) len cap] ∧ len ≤ cap ∧ cap ≤ maxLen ∧
      ∀ i, i < cap → ∃ es : List Value, es.length = P.cellsOf e ∧ (∀ j v, es[j]? = some v → W.cell? (a.add (i * P.cellsOf e + j)) = some v) ∧ Rdb P W e es := by
  obtain ⟨H, enc, m, x, hx⟩ := h
  rcases DataW.trod_slice ht hx with ⟨h1, _⟩ | ⟨a, len, cap, elems, rest, n, _, h1, _, _, h3, h4, h5, h6, h7, _⟩
  · exact .inl h1
  · refine .inr ⟨a, len, cap, h1, h3, h4, fun i hi => ?_⟩
    have key : ∃ y, (W.cells? 0 (a.add (i * P.cellsOf e)) (P.cellsOf e)).bind (DataW.trod enc P W 0 (fun _ => true) true n e) = some y := by
      by_cases hl : i < len
      · refine ⟨elems[i]'(by omega), ?_⟩
        rw [h6 i hl, List.getElem?_eq_getElem]
      · obtain ⟨h8, h9⟩ := h7 rfl
        refine ⟨rest[i - len]'(by omega), ?_⟩
        have := h9 (i - len) (by omega)
        rw [show len + (i - len) = i from by omega] at this
        rw [this, List.getElem?_eq_getElem]
    obtain ⟨y, hy⟩ := key
    obtain ⟨es, he, hy'⟩ := Option.bind_eq_some_iff.1 hy
    obtain ⟨_, hl, hc⟩ := World.cells?_some he
    refine ⟨es, hl, fun j v hj => ?_, H, enc, n, y, hy'⟩
    have hjl : j < es.length := (List.getElem?_eq_some_iff.1 hj).1
    have := hc j (by omega)
    rw [add_add] at this
    rw [this, hj]
theorem Rdb.array {m e : Nat} (ht : P.underlying t = some (.array m e)) (h : Rdb P W t cs) :
    cs.length = P.cellsOf t ∧ ∀ i, i < m → Rdb P W e ((cs.drop (i * P.cellsOf e)).take (P.cellsOf e)) := by
  obtain ⟨H, enc, n, x, hx⟩ := h
  cases n with
  | zero => simp [DataW.trod] at hx
  | succ n =>
    unfold DataW.trod at hx
    rw [ht] at hx
    simp only at hx
    split at hx
    · rename_i hl
      rw [Option.map_eq_some_iff] at hx
      obtain ⟨xs, hp, _⟩ := hx
      refine ⟨hl, fun i hi => ?_⟩
      have h1 := mapM_some_get hp i i (by simp [hi])
      have hxl : xs.length = m := by simpa using mapM_some_length hp
      rw [List.getElem?_eq_getElem (by omega)] at h1
      exact ⟨H, enc, n, _, h1⟩
    · cases hx
theorem Rdb.bytes {e : Nat} (ht : P.underlying t = some (.slice e)) (he : P.underlying e = some (.int .u8)) (hc : P.cellsOf e = 1) (h : Rdb P W t cs) :
    ∃ (a : Option Addr) (cap : Nat) (bs : List UInt8), cs = [.slice a bs.length cap] ∧ bs.length ≤ cap ∧ cap ≤ maxLen ∧ (a = none → bs = []) ∧
      (∀ q, a = some q → ∀ j x, bs[j]? = some x → W.cell? (q.add j) = some (byteV x)) := by
  rcases h.slice ht with rfl | ⟨a, len, cap, rfl, h1, h2, h3⟩
  · exact ⟨none, 0, [], rfl, Nat.le_refl _, Nat.zero_le _, fun _ => rfl, fun q hq => by cases hq⟩
  · have hb : ∀ i, i < len → ∃ x : UInt8, W.cell? (a.add i) = some (byteV x) := by
      intro i hi
      obtain ⟨es, hl, hcell, hr⟩ := h3 i (by omega)
      obtain ⟨z, rfl, hw⟩ := hr.int he
      have := hcell 0 _ rfl
      rw [hc, Nat.mul_one, Nat.add_zero] at this
      refine ⟨UInt8.ofNat z.toNat, ?_⟩
      rw [this, byteV]
      simp only [Lit.wf, IntKind.min, IntKind.max, IntKind.signed, IntKind.bits, Bool.and_eq_true, decide_eq_true_eq] at hw
      congr 2
      simp only [UInt8.toNat_ofNat']
      simp at hw
      omega
    have hf : ∃ f : Nat → UInt8, ∀ i, i < len → W.cell? (a.add i) = some (byteV (f i)) :=
      ⟨fun i => if h : i < len then (hb i h).choose else 0, fun i hi => by simp only [dif_pos hi]; exact (hb i hi).choose_spec⟩
    obtain ⟨f, hf⟩ := hf
    refine ⟨some a, cap, (List.range len).map f, by simp, by simpa using h1, h2, fun hq => (by cases hq), ?_⟩
    rintro q hq j x hx
    cases hq
    rw [List.getElem?_map, Option.map_eq_some_iff] at hx
    obtain ⟨i, hi, rfl⟩ := hx
    have hj : j < len := by
      have := (List.getElem?_eq_some_iff.1 hi).1
      simpa using this
    have : i = j := by
      rw [List.getElem?_range hj] at hi
      simpa using hi.symm
    subst this
    exact hf i hj
end
section
variable {P : Program} {fid : Fm} {n : Nat} {post : Post} {k : List Item} {ρ ρ' : Env} {ops rest : List Oper} {g : Option (Nat × Bool)} {ty : TypeId} {pos : String} {af : Array Edge} {d : Nat} {sf : Option (List Bool × List HProp)} {L L' r : List HProp}
end
end SL
end
