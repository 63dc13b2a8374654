/-
  Maps: the rules.
-/
import Derived.Test.YtpnlenpglmffdaaSl10
set_option linter.unusedVariables false
set_option linter.unusedSimpArgs false
namespace SL
open Go

section
variable {w0 w : World} {L L' r : List HProp} {F : HProp}
theorem Sat.exC {α : Type} {p : α → HProp} (s : Sat w0 L F w) (k : Pick L (ex p) r) : ∃ x, Sat w0 (p x :: r) F w := by
  obtain ⟨hp, hs, h1, h2, d, rfl, x, y⟩ := s.heap
  obtain ⟨h3, h4, d', rfl, ⟨z, hz⟩, q⟩ := (k _).1 x
  exact ⟨z, s.os, s.tape, s.out, _, hs, ⟨join h3 h4, h2, d, rfl, ⟨h3, h4, d', rfl, hz, q⟩, y⟩⟩
theorem Sat.sepsC {m : List HProp} (s : Sat w0 L F w) (k : Pick L (seps m) r) : Sat w0 (m ++ r) F w := s.map fun _ a => seps_append.2 ((k _).1 a)

variable {κ : Type} {kv : κ → Value} {m : Nat} {l : List (κ × Value)} {o : Option (Nat × List κ)}
theorem Sat.openMp (s : Sat w0 L F w) (k : Pick L (mpI kv m l none) r) : ∃ bs clock, Good l bs clock ∧ Sat w0 (pt m (.map (ents kv l bs).toArray clock) :: r) F w := by
  obtain ⟨⟨bs, clock⟩, s1⟩ := s.exC k
  have s2 := s1.sepsC Pick.head
  obtain ⟨g, s3⟩ := s2.pickFact Pick.head
  exact ⟨bs, clock, g, s3⟩
theorem Sat.openMpI {it : Nat} {done : List κ} (s : Sat w0 L F w) (k : Pick L (mpI kv m l (some (it, done))) r) : ∃ bs clock seen, Good l bs clock ∧
    ItOk l bs seen done ∧ Sat w0 (pt m (.map (ents kv l bs).toArray clock) :: pt it (.mapIter (some m) clock seen clock) :: r) F w := by
  obtain ⟨⟨bs, clock, seen⟩, s1⟩ := s.exC k
  have s2 := s1.sepsC Pick.head
  obtain ⟨g, s3⟩ := s2.pickFact Pick.head
  exact ⟨bs, clock, seen, g.1, g.2, s3⟩
theorem Sat.shutMp {bs : List Nat} {clock : Nat} (g : Good l bs clock) (s : Sat w0 (pt m (.map (ents kv l bs).toArray clock) :: r) F w) : Sat w0 (mpI kv m l none :: r) F w :=
  s.map fun _ a => sep_mono (fun _ x => ⟨(bs, clock), sep_fact.2 ⟨g, sep_comm (sep_emp.2 x)⟩⟩) (fun _ x => x) a
theorem Sat.shutMpI {it : Nat} {done : List κ} {bs : List Nat} {clock : Nat} {seen : Array Nat} (g : Good l bs clock) (hs : ItOk l bs seen done)
    (s : Sat w0 (pt m (.map (ents kv l bs).toArray clock) :: pt it (.mapIter (some m) clock seen clock) :: r) F w) : Sat w0 (mpI kv m l (some (it, done)) :: r) F w :=
  s.map fun _ a => by
    have a1 := sep_assoc.2 a
    refine sep_mono (fun _ x => ⟨(bs, clock, seen), sep_fact.2 ⟨⟨g, hs⟩, ?_⟩⟩) (fun _ x => x) a1
    exact sep_mono (fun _ y => y) (fun _ y => sep_comm (sep_emp.2 y)) x
theorem Sat.readMp (s : Sat w0 L F w) (k : Pick L (mpI kv m l o) r) : ∃ bs clock, Good l bs clock ∧ w.heap[m]? = some (.map (ents kv l bs).toArray clock) := by
  cases o with
  | none =>
    obtain ⟨bs, c, g, s1⟩ := s.openMp k
    exact ⟨bs, c, g, s1.read Pick.head⟩
  | some p =>
    obtain ⟨it, done⟩ := p
    obtain ⟨bs, c, seen, g, _, s1⟩ := s.openMpI k
    exact ⟨bs, c, g, s1.read Pick.head⟩
/-- the iterator is forgotten -/
theorem mpI_done {it : Nat} {done : List κ} : EntD (mpI kv m l (some (it, done)) :: L) (mpI kv m l none :: L) := fun w0 F w s => by
  obtain ⟨bs, c, seen, g, _, s1⟩ := s.openMpI Pick.head
  exact Sat.shutMp g (s1.drop (Pick.tail Pick.head))
end

theorem run_getObj {P : Program} {w : World} {b : Nat} {o : Obj} (h : w.heap[b]? = some o) (hn : ∀ c t f, o ≠ .cells c t f) : (getObj b).run P w = .ok o w := by
  cases o with
  | cells c t f => exact absurd rfl (hn c t f)
  | _ => simp [getObj, Sem.run, h]
theorem run_setObj {P : Program} {w : World} {b : Nat} {o o' : Obj} (h : w.heap[b]? = some o) (hn : ∀ c t f, o ≠ .cells c t f) : (setObj b o').run P w = .ok () { w with heap := w.heap.setIfInBounds b o' } := by
  cases o with
  | cells c t f => exact absurd rfl (hn c t f)
  | _ => simp [setObj, Sem.run, h]
theorem run_mapNext {P : Program} {w : World} (n : Nat) : ∃ i dr, (choose (.mapNext n)).run P w = .ok i { w with drawn := dr } ∧ (0 < n → i < n) := by
  by_cases h : n ≤ 1
  · exact ⟨0, w.drawn, by simp [choose, Sem.run, Question.forced, h], fun h => h⟩
  · exact ⟨w.tape w.drawn (.mapNext n) % n, w.drawn + 1, by simp [choose, Sem.run, Question.forced, h, Question.cut], fun h => Nat.mod_lt _ h⟩

section
variable {κ : Type} {kv : κ → Value} {m : Nat} {l : List (κ × Value)} {o : Option (Nat × List κ)}
variable {P : Program} {fid : Fm} {n : Nat} {post : Post} {k : List Item} {ρ ρ' : Env} {ops rest : List Oper} {g : Option (Nat × Bool)} {ty : TypeId} {pos : String} {af : Array Edge} {d : Nat} {sf : Option (List Bool × List HProp)} {L L' r : List HProp}

theorem run_lookup [DecidableEq κ] {t kt e : Nat} {z : Value} [htm : TMp P t kt e] [hky : TKy P kt κ kv] [hz : TZe P e z] {w : World} {bs : List Nat} {clock : Nat} (hl : bs.length = l.length) (hr : w.heap[m]? = some (.map (ents kv l bs).toArray clock)) (q : κ) (ok : Bool) :
    (Instr.lookup t (.map (some m)) (kv q) ok).run P w = .ok (if ok then .tuple #[(get q l).getD z, .bool (get q l).isSome] else (get q l).getD z) w := by
  have hg := run_getObj (P := P) hr (by intro c t f h; cases h)
  have hc : ∀ e, (Instr.checkKey e 10000 kt (kv q)).run P w = .ok () w := fun e => hky.check e q w
  have hf := hky.find inferInstance w q l bs hl
  have e := fnd_get q l 0
  simp only [Instr.lookup, Sem.run_bind, run_und htm.und, Go.Result.andThen_ok, hg, Sem.run_pure, hc, hf]
  cases hfd : fnd q l 0 with
  | none =>
    rw [hfd] at e
    simp only [Option.map_none] at e
    rw [← e]
    cases ok <;> simp [hz.run]
  | some p =>
    rw [hfd] at e
    simp only [Option.map_some] at e
    rw [← e]
    cases ok <;> simp

theorem TO.lookupOk [DecidableEq κ] {x kk : Operand} {t kt e : Nat} {z : Value} {q : κ} [htm : TMp P t kt e] [hky : TKy P kt κ kv] [hz : TZe P e z] (hw : wants ops ρ g = some true) (hd : Nat.blt d n = true)
    (hx : ev ρ x = some (.map (some m))) (hk : ev ρ kk = some (kv q)) (hp : Pick L (mpI kv m l o) r)
    (h : TO P fid n post ops rest sf k ((d, .tuple [(get q l).getD z, .bool (get q l).isSome].toArray) :: ρ) L) : TO P fid n post ops (⟨some d, .lookup t x kk true, ty, pos, af, g⟩ :: rest) sf k ρ L :=
  TO.val hw hd fun w0 F a w gr st => by
    obtain ⟨bs, c, gd, hr⟩ := st.readMp hp
    have := run_lookup (P := P) (t := t) (z := z) gd.len hr q true
    refine ⟨_, L, w, ?_, st, h⟩
    simp only [execOp, Sem.run_bind, gr.eval hx, gr.eval hk, this, Go.Result.andThen_ok, Sem.run_pure, if_true]
theorem TO.lookup [DecidableEq κ] {x kk : Operand} {t kt e : Nat} {z : Value} {q : κ} [htm : TMp P t kt e] [hky : TKy P kt κ kv] [hz : TZe P e z] (hw : wants ops ρ g = some true) (hd : Nat.blt d n = true)
    (hx : ev ρ x = some (.map (some m))) (hk : ev ρ kk = some (kv q)) (hp : Pick L (mpI kv m l o) r)
    (h : TO P fid n post ops rest sf k ((d, (get q l).getD z) :: ρ) L) : TO P fid n post ops (⟨some d, .lookup t x kk false, ty, pos, af, g⟩ :: rest) sf k ρ L :=
  TO.val hw hd fun w0 F a w gr st => by
    obtain ⟨bs, c, gd, hr⟩ := st.readMp hp
    have := run_lookup (P := P) (t := t) (z := z) gd.len hr q false
    refine ⟨_, L, w, ?_, st, h⟩
    simp [execOp, gr.eval hx, gr.eval hk, this]

theorem TO.lenMp {x : Operand} {t kt e : Nat} [ht : TMp P t kt e] (hw : wants ops ρ g = some true) (hd : Nat.blt d n = true)
    (hx : ev ρ x = some (.map (some m))) (hp : Pick L (mpI kv m l o) r) (h : TO P fid n post ops rest sf k ((d, .int .i64 l.length) :: ρ) L) : TO P fid n post ops (⟨some d, .call ⟨.builtin .len, [x].toArray, [t].toArray⟩, ty, pos, af, g⟩ :: rest) sf k ρ L :=
  TO.val hw hd fun w0 F a w gr st => by
    obtain ⟨bs, c, gd, hr⟩ := st.readMp hp
    have hg := run_getObj (P := P) hr (by intro c t f h; cases h)
    refine ⟨_, L, w, ?_, st, h⟩
    simp [execOp, resolve, invoke, builtin, gr.eval hx, Builtin.len_, run_und ht.und, goInt, hg, ents_length kv l bs gd.len]

theorem TO.makeMap {t kt e : Nat} [ht : TMp P t kt e] [hky : TKy P kt κ kv] (hw : wants ops ρ g = some true) (hd : Nat.blt d n = true)
    (h : ∀ b, TO P fid n post ops rest sf k ((d, .map (some b)) :: ρ) (mpI kv b [] none :: L)) : TO P fid n post ops (⟨some d, .makeMap t none, ty, pos, af, g⟩ :: rest) sf k ρ L :=
  TO.val hw hd fun w0 F a w gr st => by
    refine ⟨.map (some w.heap.size), _, { w with heap := w.heap.push (.map #[] 0) }, by simp [execOp, Instr.makeMap, newObj, Sem.run], ?_, h w.heap.size⟩
    exact Sat.shutMp (l := []) (bs := []) (clock := 0) ⟨by simp, rfl, by simp, by simp⟩ (st.new (o := .map #[] 0))

/-- a map's entry is set -/
theorem run_update [DecidableEq κ] {t kt e : Nat} [htm : TMp P t kt e] [hky : TKy P kt κ kv] {w : World} {bs : List Nat} {clock : Nat} (gd : Good l bs clock) (hr : w.heap[m]? = some (.map (ents kv l bs).toArray clock)) (q : κ) (v : Value) :
    ∃ bs' clock', Good (upd q v l) bs' clock' ∧ ((get q l).isSome = true → bs' = bs ∧ clock' = clock ∧ ∃ i v0, fnd q l 0 = some (i, v0)) ∧
      (Instr.mapUpdate t (.map (some m)) (kv q) v).run P w = .ok () { w with heap := w.heap.setIfInBounds m (.map (ents kv (upd q v l) bs').toArray clock') } := by
  have hg := run_getObj (P := P) hr (by intro c t f h; cases h)
  have hs : ∀ o', (setObj m o').run P w = .ok () { w with heap := w.heap.setIfInBounds m o' } := fun o' => run_setObj hr (by intro c t f h; cases h)
  have hc : ∀ e, (Instr.checkKey e 10000 kt (kv q)).run P w = .ok () w := fun e => hky.check e q w
  have hf := hky.find inferInstance w q l bs gd.len
  have e := fnd_get q l 0
  cases hfd : fnd q l 0 with
  | none =>
    refine ⟨bs ++ [clock], clock + 1, ?_, ?_, ?_⟩
    · rw [upd_none hfd]; exact gd.snoc (fnd_none_mem hfd) v
    · rw [hfd] at e; simp at e; rw [← e]; intro h; simp at h
    · simp only [Instr.mapUpdate, Sem.run_bind, run_und htm.und, Go.Result.andThen_ok, hg, hc, hf, hfd, hs]
      rw [upd_none hfd, ents_snoc kv q v clock l bs gd.len]
      simp
  | some p =>
    obtain ⟨i, v0⟩ := p
    have hi := (fnd_some hfd).2
    simp only [Nat.sub_zero] at hi
    refine ⟨bs, clock, ?_, fun _ => ⟨rfl, rfl, i, v0, rfl⟩, ?_⟩
    · rw [upd_some hfd]; exact gd.set (v := v0) (by simpa using hi)
    · have hb : ∃ b, bs[i]? = some b := ⟨bs[i]'(by rw [gd.len]; exact (List.getElem?_eq_some_iff.1 hi).1), by simp [gd.len, (List.getElem?_eq_some_iff.1 hi).1]⟩
      obtain ⟨b, hb⟩ := hb
      have hkey : (((ents kv l bs).toArray[i]?).map (·.key)).getD (kv q) = kv q := by
        simp [ents_get kv l bs i gd.len, hi, hb]
      have hst : (Instr.keyThatStays (kv q) (kv q)).run P w = .ok (kv q) w := by simp [Instr.keyThatStays, hky.stay]
      simp only [Instr.mapUpdate, Sem.run_bind, run_und htm.und, Go.Result.andThen_ok, hg, hc, hf, hfd, hkey, hst, hs]
      rw [upd_some hfd]
      simp only [Nat.sub_zero]
      rw [ents_set kv q v0 v l bs i gd.len hi]
      simp

theorem get_some_of_mem [DecidableEq κ] {q : κ} {l : List (κ × Value)} (h : q ∈ l.map (·.1)) : (get q l).isSome = true := by
  induction l with
  | nil => simp at h
  | cons p l ih =>
    simp only [get]
    by_cases e : p.1 = q
    · simp [e]
    · rw [if_neg e]
      simp only [List.map_cons, List.mem_cons] at h
      rcases h with h | h
      · exact absurd h.symm e
      · exact ih h

theorem TO.mapUpdate [DecidableEq κ] {x kk y : Operand} {t kt e : Nat} {q : κ} {v : Value} [htm : TMp P t kt e] [hky : TKy P kt κ kv] (hw : wants ops ρ g = some true)
    (hx : ev ρ x = some (.map (some m))) (hk : ev ρ kk = some (kv q)) (hv : ev ρ y = some v) (hp : Pick L (mpI kv m l o) r) (ho : o = none ∨ (get q l).isSome = true)
    (h : TO P fid n post ops rest sf k ρ (mpI kv m (upd q v l) o :: r)) : TO P fid n post ops (⟨none, .mapUpdate t x kk y, ty, pos, af, g⟩ :: rest) sf k ρ L :=
  TO.unit hw rfl fun w0 F a w gr st => by
    cases o with
    | none =>
      obtain ⟨bs, c, gd, s1⟩ := st.openMp hp
      obtain ⟨bs', c', gd', _, hrun⟩ := run_update (P := P) (t := t) gd (s1.read Pick.head) q v
      refine ⟨_, _, ?_, Sat.shutMp gd' (s1.write Pick.head), h⟩
      simp [execOp, gr.eval hx, gr.eval hk, gr.eval hv, hrun]
    | some p =>
      obtain ⟨it, done⟩ := p
      have ho' : (get q l).isSome = true := by rcases ho with h | h; cases h; exact h
      obtain ⟨bs, c, seen, gd, hs, s1⟩ := st.openMpI hp
      obtain ⟨bs', c', gd', hsame, hrun⟩ := run_update (P := P) (t := t) gd (s1.read Pick.head) q v
      obtain ⟨rfl, rfl, i, v0, hfd⟩ := hsame ho'
      refine ⟨_, _, ?_, Sat.shutMpI gd' ?_ (s1.write Pick.head), h⟩
      · simp [execOp, gr.eval hx, gr.eval hk, gr.eval hv, hrun]
      · have key : ∀ (j : Nat) (k' : κ) (v' : Value), (upd q v l)[j]? = some (k', v') → ∃ v'', l[j]? = some (k', v'') := by
          intro j k' v' hj
          rw [upd_some hfd, Nat.sub_zero] at hj
          by_cases e : i = j
          · subst e
            have hi := (fnd_some hfd).2
            have hlt : i < l.length := (List.getElem?_eq_some_iff.1 hi).1
            simp [hlt] at hj
            obtain ⟨rfl, rfl⟩ := hj
            exact ⟨v0, by simpa using hi⟩
          · rw [List.getElem?_set_ne e] at hj
            exact ⟨v', hj⟩
        refine ⟨fun j k' v' b hj hb => ?_, fun q' ds j v' b hd hj hb => ?_⟩
        · obtain ⟨v'', h'⟩ := key j k' v' hj
          exact hs.1 j k' v'' b h' hb
        · obtain ⟨v'', h'⟩ := key j q' v' hj
          exact hs.2 q' ds j v'' b hd h' hb

/-- ranging over a map begins -/
theorem TO.range {x : Operand} {t kt e : Nat} [htm : TMp P t kt e] (hw : wants ops ρ g = some true) (hd : Nat.blt d n = true)
    (hx : ev ρ x = some (.map (some m))) (hp : Pick L (mpI kv m l none) r)
    (h : ∀ it, TO P fid n post ops rest sf k ((d, .pointer (some ⟨it, 0, none⟩)) :: ρ) (mpI kv m l (some (it, [])) :: r)) : TO P fid n post ops (⟨some d, .range t x, ty, pos, af, g⟩ :: rest) sf k ρ L :=
  TO.val hw hd fun w0 F a w gr st => by
    obtain ⟨bs, c, gd, s1⟩ := st.openMp hp
    have hg := run_getObj (P := P) (s1.read Pick.head) (by intro c t f h; cases h)
    have s2 := (s1.new (o := .mapIter (some m) c #[] c))
    refine ⟨.pointer (some ⟨w.heap.size, 0, none⟩), _, { w with heap := w.heap.push (.mapIter (some m) c #[] c) }, ?_, Sat.shutMpI (r := r) (done := []) (it := w.heap.size) (seen := #[]) gd ⟨by simp, by simp⟩ ?_, h w.heap.size⟩
    · simp [execOp, gr.eval hx, Instr.range, run_und htm.und, hg, newObj, Sem.run]
    · refine s2.map fun _ a => ?_
      have a1 := sep_assoc.2 a
      exact sep_assoc.1 (sep_mono (fun _ y => sep_comm y) (fun _ y => y) a1)

/-- the next entry -/
theorem TO.next {x : Operand} {it : Nat} {done : List κ} (hw : wants ops ρ g = some true) (hd : Nat.blt d n = true)
    (hx : ev ρ x = some (.pointer (some ⟨it, 0, none⟩))) (hp : Pick L (mpI kv m l (some (it, done))) r)
    (hend : (∀ p ∈ l, p.1 ∈ done) → TO P fid n post ops rest sf k ((d, .tuple [.bool false].toArray) :: ρ) (mpI kv m l (some (it, done)) :: r))
    (hnext : ∀ q v, (q, v) ∈ l → q ∉ done → TO P fid n post ops rest sf k ((d, .tuple [.bool true, kv q, v].toArray) :: ρ) (mpI kv m l (some (it, q :: done)) :: r)) :
    TO P fid n post ops (⟨some d, .next x false, ty, pos, af, g⟩ :: rest) sf k ρ L :=
  TO.val hw hd fun w0 F a w gr st => by
    obtain ⟨bs, c, seen, gd, hs, s1⟩ := st.openMpI hp
    have hg1 := run_getObj (P := P) (s1.read (Pick.tail Pick.head)) (by intro c t f h; cases h)
    have hg2 := run_getObj (P := P) (s1.read Pick.head) (by intro c t f h; cases h)
    have hborn : ∀ e ∈ ents kv l bs, e.born < c := by
      intro e he
      obtain ⟨i, hi⟩ := List.getElem?_of_mem he
      rw [ents_get kv l bs i gd.len] at hi
      cases hl : l[i]? with
      | none => simp [hl] at hi
      | some p =>
        cases hb : bs[i]? with
        | none => simp [hl, hb] at hi
        | some b => simp [hl, hb] at hi; subst hi; exact gd.lt b (List.mem_of_getElem? hb)
    have hun : (!seen.isEmpty && !(ents kv l bs).toArray.isEmpty && (ents kv l bs).toArray.all fun e => decide (e.born ≥ c)) = false := by
      cases he : ents kv l bs with
      | nil => simp
      | cons e es =>
        have := hborn e (by rw [he]; simp)
        have : ¬ c ≤ e.born := by omega
        simp [this]
    generalize hold : (((ents kv l bs).toArray.filter fun e => !seen.contains e.born).filter fun e => decide (e.born < c)) = old
    have hnew : (((ents kv l bs).toArray.filter fun e => !seen.contains e.born).filter fun e => decide (e.born ≥ c)) = #[] := by
      apply Array.eq_empty_of_size_eq_zero
      rw [Array.size_eq_zero_iff]
      apply Array.filter_eq_empty_iff.2
      intro e he
      have he' : e ∈ ents kv l bs := by
        have := (Array.mem_filter.1 he).1
        simpa using this
      have := hborn e he'
      simp
      omega
    have hmem : ∀ e ∈ old, ∃ (q : κ) (v : Value) (i b : Nat), e = ({ key := kv q, val := v, born := b } : MapEntry) ∧ l[i]? = some (q, v) ∧ bs[i]? = some b ∧ q ∉ done := by
      intro e he
      rw [← hold] at he
      simp only [Array.mem_filter, List.mem_toArray, Bool.not_eq_true'] at he
      obtain ⟨⟨he1, he2⟩, _⟩ := he
      obtain ⟨i, hi⟩ := List.getElem?_of_mem he1
      rw [ents_get kv l bs i gd.len] at hi
      cases hl : l[i]? with
      | none => simp [hl] at hi
      | some p =>
        obtain ⟨q, v⟩ := p
        cases hb : bs[i]? with
        | none => simp [hl, hb] at hi
        | some b =>
          simp [hl, hb] at hi
          subst hi
          exact ⟨q, v, i, b, rfl, hl, hb, fun hq => by have := (hs.1 i q v b hl hb).2 hq; simp [this] at he2⟩
    have hall : old = #[] → ∀ p ∈ l, p.1 ∈ done := by
      intro ho p hp
      obtain ⟨i, hi⟩ := List.getElem?_of_mem hp
      obtain ⟨q, v⟩ := p
      have hb : ∃ b, bs[i]? = some b := ⟨bs[i]'(by rw [gd.len]; exact (List.getElem?_eq_some_iff.1 hi).1), by simp [gd.len, (List.getElem?_eq_some_iff.1 hi).1]⟩
      obtain ⟨b, hb⟩ := hb
      refine (hs.1 i q v b hi hb).1 ?_
      refine Classical.byContradiction fun hns => ?_
      have hin : ({ key := kv q, val := v, born := b } : MapEntry) ∈ ents kv l bs := List.mem_of_getElem? (by rw [ents_get kv l bs i gd.len, hi, hb]; rfl)
      have hm : ({ key := kv q, val := v, born := b } : MapEntry) ∈ old := by
        rw [← hold]
        simp only [Array.mem_filter, List.mem_toArray, Bool.not_eq_true']
        exact ⟨⟨hin, by simpa using hns⟩, by simpa using gd.lt b (List.mem_of_getElem? hb)⟩
      rw [ho] at hm
      simp at hm
    by_cases ho : old = #[]
    · obtain ⟨i, dr, hch, hi⟩ := run_mapNext (P := P) (w := w) 1
      refine ⟨.tuple #[.bool false], _, { w with drawn := dr }, ?_, Sat.shutMpI gd hs (s1.drawn dr), hend (hall ho)⟩
      have hi0 : i = 0 := by have := hi (by omega); omega
      subst hi0
      have ec : ((if old.isEmpty then #[Option.none] else #[]) ++ (old ++ #[]).map some) = #[(Option.none : Option MapEntry)] := by simp [ho]
      have hch' : (choose (.mapNext (#[(Option.none : Option MapEntry)]).size)).run P w = .ok 0 { w with drawn := dr } := hch
      have e2 : (#[(Option.none : Option MapEntry)])[0]? = some Option.none := rfl
      have : (Instr.next (.pointer (some ⟨it, 0, Option.none⟩)) false ty).run P w = .ok (.tuple #[.bool false]) { w with drawn := dr } := by
        simp only [Instr.next, Sem.run_bind, hg1, hg2, Go.Result.andThen_ok, hun, Bool.false_eq_true, if_false, Sem.run_pure, hold, hnew, ec, hch', e2]
      simp only [execOp, Sem.run_bind, gr.eval hx, this, Go.Result.andThen_ok, Sem.run_pure]
    · have hsz : 0 < old.size := by
        rcases Nat.eq_zero_or_pos old.size with h | h
        · exact absurd (Array.eq_empty_of_size_eq_zero h) ho
        · exact h
      have hne : old.isEmpty = false := by
        cases h : old.isEmpty
        · rfl
        · exact absurd (Array.isEmpty_iff.1 h) ho
      have ec : ((if old.isEmpty then #[Option.none] else #[]) ++ (old ++ #[]).map some) = old.map some := by simp [hne]
      obtain ⟨i, dr, hch, hi⟩ := run_mapNext (P := P) (w := w) old.size
      have hi' := hi hsz
      obtain ⟨q, v, j, b, he, hj, hb, hq⟩ := hmem old[i] (Array.getElem_mem hi')
      have s2 := s1.drawn dr
      have hset := run_setObj (P := P) (o' := .mapIter (some m) c (seen.push b) c) (s2.read (Pick.tail Pick.head)) (by intro c t f h; cases h)
      have s3 := s2.write (o' := .mapIter (some m) c (seen.push b) c) (Pick.tail Pick.head)
      refine ⟨.tuple #[.bool true, kv q, v], _, _, ?_, Sat.shutMpI (done := q :: done) (seen := seen.push b) gd ?_ (s3.map fun _ a => ?_), hnext q v (List.mem_of_getElem? hj) hq⟩
      · have e2 : (old.map some)[i]? = some (some old[i]) := by simp [hi']
        have hch' : (choose (.mapNext (old.map some).size)).run P w = .ok i { w with drawn := dr } := by rw [Array.size_map]; exact hch
        have : (Instr.next (.pointer (some ⟨it, 0, Option.none⟩)) false ty).run P w = .ok (.tuple #[.bool true, kv q, v]) { w with drawn := dr, heap := w.heap.setIfInBounds it (.mapIter (some m) c (seen.push b) c) } := by
          simp only [Instr.next, Sem.run_bind, hg1, hg2, Go.Result.andThen_ok, hun, Bool.false_eq_true, if_false, Sem.run_pure, hold, hnew, ec, hch', e2, he, hset]
        simp only [execOp, Sem.run_bind, gr.eval hx, this, Go.Result.andThen_ok, Sem.run_pure]
      · have hbq : ∀ (i' : Nat) (k' : κ) (v' : Value) (b' : Nat), l[i']? = some (k', v') → bs[i']? = some b' → (b' = b ↔ k' = q) := by
          intro i' k' v' b' hl' hb'

          constructor
          · intro e
            subst e
            have : i' = j := (List.getElem?_inj (by have := (List.getElem?_eq_some_iff.1 hb').1; exact this) gd.nd).1 (by rw [hb', hb])
            subst this
            rw [hj] at hl'
            simp at hl'
            exact hl'.1.symm
          · intro e
            subst e
            have h1 : (l.map (·.1))[i']? = some k' := by simp [hl']
            have h2 : (l.map (·.1))[j]? = some k' := by simp [hj]
            have : i' = j := (List.getElem?_inj (by have := (List.getElem?_eq_some_iff.1 h1).1; exact this) gd.keys).1 (by rw [h1, h2])
            subst this
            rw [hb] at hb'
            simpa using hb'.symm
        refine ⟨fun i' k' v' b' hl' hb' => ?_, fun q' ds i' v' b' hd hl' hb' => ?_⟩
        · simp only [Array.mem_push, List.mem_cons]
          rw [hs.1 i' k' v' b' hl' hb', hbq i' k' v' b' hl' hb']
          exact Or.comm
        · simp only [List.cons.injEq] at hd
          rw [(hbq i' q' v' b' hl' hb').2 hd.1.symm]
          simp
      · have a1 := sep_assoc.2 a
        exact sep_assoc.1 (sep_mono (fun _ y => sep_comm y) (fun _ y => y) a1)

/-- the entry that the iterator told last -/
theorem TO.entry [DecidableEq κ] {x : Operand} {it : Nat} {q : κ} {ds : List κ} {v : Value} (hw : wants ops ρ g = some true) (hd : Nat.blt d n = true)
    (hx : ev ρ x = some (.pointer (some ⟨it, 0, none⟩))) (hp : Pick L (mpI kv m l (some (it, q :: ds))) r) (hv : (q, v) ∈ l)
    (h : TO P fid n post ops rest sf k ((d, .tuple [kv q, v].toArray) :: ρ) L) : TO P fid n post ops (⟨some d, .entry x, ty, pos, af, g⟩ :: rest) sf k ρ L :=
  TO.val hw hd fun w0 F a w gr st => by
    obtain ⟨bs, c, seen, gd, hs, s1⟩ := st.openMpI hp
    have hg1 := run_getObj (P := P) (s1.read (Pick.tail Pick.head)) (by intro c t f h; cases h)
    have hg2 := run_getObj (P := P) (s1.read Pick.head) (by intro c t f h; cases h)
    obtain ⟨i, hi⟩ := List.getElem?_of_mem hv
    obtain ⟨b, hb⟩ : ∃ b, bs[i]? = some b := ⟨bs[i]'(by rw [gd.len]; exact (List.getElem?_eq_some_iff.1 hi).1), by simp [gd.len, (List.getElem?_eq_some_iff.1 hi).1]⟩
    have hback := hs.2 q ds i v b rfl hi hb
    have hfind : (ents kv l bs).toArray.find? (fun e => e.born == b) = some { key := kv q, val := v, born := b } := by
      rw [List.find?_toArray, List.find?_eq_some_iff_getElem]
      have hlt : i < (ents kv l bs).length := by rw [ents_length kv l bs gd.len]; exact (List.getElem?_eq_some_iff.1 hi).1
      have hgi := ents_get kv l bs i gd.len
      rw [hi, hb, List.getElem?_eq_getElem hlt] at hgi
      simp at hgi
      refine ⟨by simp, i, hlt, hgi, fun j hj => ?_⟩
      have hj' : j < l.length := by rw [ents_length kv l bs gd.len] at hlt; omega
      have e1 : l[j]? = some l[j] := List.getElem?_eq_getElem hj'
      have e2 : bs[j]? = some (bs[j]'(by rw [gd.len]; exact hj')) := List.getElem?_eq_getElem _
      have := ents_get kv l bs j gd.len
      rw [e1, e2, List.getElem?_eq_getElem (by rw [ents_length kv l bs gd.len]; exact hj')] at this
      simp at this
      rw [this]
      simp only [beq_iff_eq, Bool.not_eq_true, Bool.not_eq_true']
      refine beq_eq_false_iff_ne.2 fun hc => ?_
      have : j = i := (List.getElem?_inj (by have := (List.getElem?_eq_some_iff.1 e2).1; exact this) gd.nd).1 (by rw [e2, hb, hc])
      omega
    refine ⟨_, L, w, ?_, st, h⟩
    simp [execOp, gr.eval hx, Instr.entry, hg1, hg2, hback, hfind]

/-! one entry is taken, worked on, laid back -/
def mpS (kv : κ → Value) (m : Nat) (l : List (κ × Value)) (q : κ) (b : Nat) : HProp :=
  ex fun p : List Nat × Nat => seps [fact (Good l p.1 p.2 ∧ ∃ (i : Nat) (v : Value), l[i]? = some (q, v) ∧ p.1[i]? = some b), pt m (.map (ents kv l p.1).toArray p.2)]

theorem get_mem [DecidableEq κ] {q : κ} {v : Value} : ∀ {l : List (κ × Value)} {i : Nat}, (l.map (·.1)).Nodup → l[i]? = some (q, v) → fnd q l 0 = some (i, v)
  | l, i, hn, hi => by
    have key : ∀ (l : List (κ × Value)) (i s : Nat), (l.map (·.1)).Nodup → l[i]? = some (q, v) → fnd q l s = some (s + i, v) := by
      intro l
      induction l with
      | nil => intro i s _ h; simp at h
      | cons p l ih =>
        intro i s hn h
        cases i with
        | zero => simp at h; subst h; simp [fnd]
        | succ i =>
          have hn' := List.nodup_cons.1 (by simpa using hn : (p.1 :: l.map (·.1)).Nodup)
          have hne : ¬ p.1 = q := by
            intro e
            apply hn'.1
            rw [e]
            exact List.mem_map.2 ⟨(q, v), List.mem_of_getElem? (by simpa using h), rfl⟩
          simp only [fnd, if_neg hne]
          rw [ih i (s + 1) hn'.2 (by simpa using h)]
          congr 2
          omega
    have := key l i 0 hn hi
    rwa [Nat.zero_add] at this

theorem TO.mapEntry [DecidableEq κ] {x kk : Operand} {t kt e : Nat} {z : Value} {q : κ} [htm : TMp P t kt e] [hky : TKy P kt κ kv] [hz : TZe P e z] (hw : wants ops ρ g = some true) (hd : Nat.blt d n = true)
    (hx : ev ρ x = some (.map (some m))) (hk : ev ρ kk = some (kv q)) (hp : Pick L (mpI kv m l none) r)
    (h : ∀ b : Nat, TO P fid n post ops rest sf k ((d, .tuple [(get q l).getD z, .int .i64 b].toArray) :: ρ) (mpS kv m (upd q ((get q l).getD z) l) q b :: r)) : TO P fid n post ops (⟨some d, .mapEntry t x kk, ty, pos, af, g⟩ :: rest) sf k ρ L :=
  TO.val hw hd fun w0 F a w gr st => by
    obtain ⟨bs, c, gd, s1⟩ := st.openMp hp
    have hr := s1.read Pick.head
    have hg := run_getObj (P := P) hr (by intro c t f h; cases h)
    have hs : ∀ o', (setObj m o').run P w = .ok () { w with heap := w.heap.setIfInBounds m o' } := fun o' => run_setObj hr (by intro c t f h; cases h)
    have hc : ∀ e, (Instr.checkKey e 10000 kt (kv q)).run P w = .ok () w := fun e => hky.check e q w
    have hf := hky.find inferInstance w q l bs gd.len
    have e := fnd_get q l 0
    cases hfd : fnd q l 0 with
    | none =>
      rw [hfd] at e
      simp only [Option.map_none] at e
      have hu := upd_none (v := z) hfd
      have gd' := gd.snoc (fnd_none_mem hfd) z
      rw [← hu] at gd'
      refine ⟨.tuple #[z, .int .i64 c], mpS kv m (upd q z l) q c :: r, { w with heap := w.heap.setIfInBounds m (.map (ents kv (upd q z l) (bs ++ [c])).toArray (c + 1)) }, ?_, ?_, ?_⟩
      · simp only [execOp, Sem.run_bind, gr.eval hx, gr.eval hk, Instr.mapEntry, run_und htm.und, Go.Result.andThen_ok, hg, hc, hf, hfd, hz.run, hs, Sem.run_pure, goInt]
        rw [hu, ents_snoc kv q z c l bs gd.len]
        simp
      · refine (s1.write (o' := .map (ents kv (upd q z l) (bs ++ [c])).toArray (c + 1)) Pick.head).map fun _ a => ?_
        refine sep_mono (fun _ x => ⟨(bs ++ [c], c + 1), sep_fact.2 ⟨⟨gd', l.length, z, by rw [hu]; simp, by rw [← gd.len]; simp⟩, sep_comm (sep_emp.2 x)⟩⟩) (fun _ x => x) a
      · have := h c
        rw [← e] at this
        exact this
    | some p =>
      obtain ⟨i, v⟩ := p
      rw [hfd] at e
      simp only [Option.map_some] at e
      have hi := (fnd_some hfd).2
      simp only [Nat.sub_zero] at hi
      obtain ⟨b, hb⟩ : ∃ b, bs[i]? = some b := ⟨bs[i]'(by rw [gd.len]; exact (List.getElem?_eq_some_iff.1 hi).1), by simp [gd.len, (List.getElem?_eq_some_iff.1 hi).1]⟩
      have hent : (ents kv l bs).toArray[i]? = some { key := kv q, val := v, born := b } := by simp [ents_get kv l bs i gd.len, hi, hb]
      have hst : (Instr.keyThatStays (kv q) (kv q)).run P w = .ok (kv q) w := by simp [Instr.keyThatStays, hky.stay]
      have hu : upd q v l = l := by
        rw [upd_some hfd, Nat.sub_zero]
        apply List.ext_getElem?
        intro j
        by_cases ej : i = j
        · subst ej; rw [List.getElem?_set_self (List.getElem?_eq_some_iff.1 hi).1, hi]
        · rw [List.getElem?_set_ne ej]
      have hmod : (ents kv l bs).toArray.modify i (fun e => { e with key := kv q }) = (ents kv l bs).toArray := by
        apply Array.ext'
        simp only [List.modify_toArray]
        apply List.ext_getElem?
        intro j
        rw [List.getElem?_modify]
        have hent' : (ents kv l bs)[i]? = some { key := kv q, val := v, born := b } := by simpa using hent
        by_cases ej : i = j
        · subst ej; simp [hent']
        · simp [ej]
      refine ⟨.tuple #[v, .int .i64 b], mpS kv m (upd q v l) q b :: r, { w with heap := w.heap.setIfInBounds m (.map (ents kv l bs).toArray c) }, ?_, ?_, ?_⟩
      · simp only [execOp, Sem.run_bind, gr.eval hx, gr.eval hk, Instr.mapEntry, run_und htm.und, Go.Result.andThen_ok, hg, hc, hf, hfd, hent, Option.map_some, Option.getD_some, hst, hmod, hs, Sem.run_pure, goInt]
      · refine (s1.write (o' := .map (ents kv l bs).toArray c) Pick.head).map fun _ a => ?_
        rw [hu]
        exact sep_mono (fun _ x => ⟨(bs, c), sep_fact.2 ⟨⟨gd, i, v, hi, hb⟩, sep_comm (sep_emp.2 x)⟩⟩) (fun _ x => x) a
      · have := h b
        rw [← e] at this
        exact this

theorem TO.entryStore [DecidableEq κ] {x s y : Operand} {t b : Nat} {q : κ} {v : Value} (hw : wants ops ρ g = some true)
    (hx : ev ρ x = some (.map (some m))) (hs' : ev ρ s = some (.int .i64 b)) (hv : ev ρ y = some v) (hp : Pick L (mpS kv m l q b) r)
    (h : TO P fid n post ops rest sf k ρ (mpI kv m (upd q v l) none :: r)) : TO P fid n post ops (⟨none, .entryStore t x s y, ty, pos, af, g⟩ :: rest) sf k ρ L :=
  TO.unit hw rfl fun w0 F a w gr st => by
    obtain ⟨⟨bs, c⟩, s0⟩ := st.exC hp
    obtain ⟨⟨gd, i, v0, hi, hb⟩, s1⟩ := (s0.sepsC Pick.head).pickFact Pick.head
    simp only at gd hb s1
    have hr := s1.read Pick.head
    have hg := run_getObj (P := P) hr (by intro c t f h; cases h)
    have hs : ∀ o', (setObj m o').run P w = .ok () { w with heap := w.heap.setIfInBounds m o' } := fun o' => run_setObj hr (by intro c t f h; cases h)
    have hfd := get_mem gd.keys hi
    have hu := upd_some (v' := v) hfd
    rw [Nat.sub_zero] at hu
    have hfind : (ents kv l bs).toArray.findIdx? (fun e => (e.born : Int) == (b : Int)) = some i := by
      rw [List.findIdx?_toArray, List.findIdx?_eq_some_iff_getElem]
      have hlt : i < (ents kv l bs).length := by rw [ents_length kv l bs gd.len]; exact (List.getElem?_eq_some_iff.1 hi).1
      have hgi : ∀ (j : Nat) (hj : j < (ents kv l bs).length), ∃ p bb, l[j]? = some p ∧ bs[j]? = some bb ∧ (ents kv l bs)[j] = { key := kv p.1, val := p.2, born := bb } := by
        intro j hj
        have hj' : j < l.length := by rwa [ents_length kv l bs gd.len] at hj
        have e1 : l[j]? = some l[j] := List.getElem?_eq_getElem hj'
        have e2 : bs[j]? = some (bs[j]'(by rw [gd.len]; exact hj')) := List.getElem?_eq_getElem _
        refine ⟨_, _, e1, e2, ?_⟩
        have := ents_get kv l bs j gd.len
        rw [e1, e2, List.getElem?_eq_getElem hj] at this
        simpa using this
      refine ⟨hlt, ?_, fun j hj => ?_⟩
      · obtain ⟨p, bb, h1, h2, h3⟩ := hgi i hlt
        rw [hb] at h2
        simp at h2
        rw [h3]; simp [h2]
      · obtain ⟨p, bb, h1, h2, h3⟩ := hgi j (by omega)
        rw [h3]
        simp only [beq_iff_eq, Bool.not_eq_true]
        intro hc
        have hc' : bb = b := by exact_mod_cast hc
        subst hc'
        have : j = i := (List.getElem?_inj (by have := (List.getElem?_eq_some_iff.1 h2).1; exact this) gd.nd).1 (by rw [h2, hb])
        omega
    refine ⟨mpI kv m (upd q v l) none :: r, { w with heap := w.heap.setIfInBounds m (.map (ents kv (upd q v l) bs).toArray c) }, ?_, Sat.shutMp (by rw [hu]; exact gd.set hi) (s1.write Pick.head), h⟩
    have hkey : ((ents kv l bs).toArray.modify i fun e => { e with val := v }) = (ents kv (upd q v l) bs).toArray := by
      rw [hu, ents_set kv q v0 v l bs i gd.len hi]
      apply Array.ext'
      simp only [List.modify_toArray]
      apply List.ext_getElem?
      intro j
      rw [List.getElem?_modify, List.getElem?_modify]
      by_cases ej : i = j
      · subst ej
        simp [ents_get kv l bs i gd.len, hi, hb]
      · simp [ej]
    simp only [execOp, Sem.run_bind, gr.eval hx, gr.eval hs', gr.eval hv, Instr.entryStore, hg, Go.Result.andThen_ok, asInt, asIntOf, Sem.run_pure, hfind, hkey, hs]

/-- an entry goes -/
theorem TO.delete [DecidableEq κ] {x kk : Operand} {t kt e : Nat} {q : κ} [htm : TMp P t kt e] [hky : TKy P kt κ kv] {tk : TypeId} (hw : wants ops ρ g = some true)
    (hx : ev ρ x = some (.map (some m))) (hk : ev ρ kk = some (kv q)) (hp : Pick L (mpI kv m l none) r)
    (h : TO P fid n post ops rest sf k ρ (mpI kv m (del q l) none :: r)) : TO P fid n post ops (⟨none, .call ⟨.builtin .delete, [x, kk].toArray, [t, tk].toArray⟩, ty, pos, af, g⟩ :: rest) sf k ρ L :=
  TO.val (o := ⟨none, .call ⟨.builtin .delete, [x, kk].toArray, [t, tk].toArray⟩, ty, pos, af, g⟩) hw rfl fun w0 F a w gr st => by
    obtain ⟨bs, c, gd, s1⟩ := st.openMp hp
    have hr := s1.read Pick.head
    have hg := run_getObj (P := P) hr (by intro c t f h; cases h)
    have hs : ∀ o', (setObj m o').run P w = .ok () { w with heap := w.heap.setIfInBounds m o' } := fun o' => run_setObj hr (by intro c t f h; cases h)
    have hc : ∀ e, (Instr.checkKey e 10000 kt (kv q)).run P w = .ok () w := fun e => hky.check e q w
    have hf := hky.find inferInstance w q l bs gd.len
    cases hfd : fnd q l 0 with
    | none =>
      refine ⟨.tuple #[], mpI kv m (del q l) none :: r, { w with heap := w.heap.setIfInBounds m (.map (ents kv (del q l) bs).toArray c) }, ?_, Sat.shutMp (by rw [del_none hfd]; exact gd) (s1.write Pick.head), h⟩
      rw [del_none hfd]
      simp [execOp, resolve, invoke, builtin, gr.eval hx, gr.eval hk, Builtin.delete_, run_und htm.und, hg, hc, hf, hfd, hs]
    | some p =>
      obtain ⟨i, v⟩ := p
      have hi := (fnd_some hfd).2
      simp only [Nat.sub_zero] at hi
      have hlt : i < l.length := (List.getElem?_eq_some_iff.1 hi).1
      have hdel : del q l = l.eraseIdx i := by have := del_some hfd; rwa [Nat.sub_zero] at this
      refine ⟨.tuple #[], mpI kv m (del q l) none :: r, { w with heap := w.heap.setIfInBounds m (.map (ents kv (del q l) (bs.eraseIdx i)).toArray c) }, ?_, Sat.shutMp (by rw [hdel]; exact gd.erase) (s1.write Pick.head), h⟩
      rw [hdel, ents_erase kv l bs i gd.len]
      have hel : i < (ents kv l bs).length := by rw [ents_length kv l bs gd.len]; exact hlt
      have he : (ents kv l bs).toArray.eraseIdxIfInBounds i = ((ents kv l bs).eraseIdx i).toArray := by simp [Array.eraseIdxIfInBounds, hel]
      simp [execOp, resolve, invoke, builtin, gr.eval hx, gr.eval hk, Builtin.delete_, run_und htm.und, hg, hc, hf, hfd, hs, he]
end
end SL
