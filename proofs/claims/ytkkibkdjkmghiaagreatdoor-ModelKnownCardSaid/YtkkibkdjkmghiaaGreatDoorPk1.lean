/-
  Contracts and rules for what the last text proves.
-/
import Derived.WalkKit
import Derived.Lib.Hide
section
namespace SL
open Go
abbrev Hp := Nat → Option Obj
abbrev HProp := Hp → Prop
def Disj (h1 h2 : Hp) : Prop := ∀ b, h1 b = none ∨ h2 b = none
def join (h1 h2 : Hp) : Hp := fun b => match h1 b with
  | some o => some o
  | none => h2 b
def emp : HProp := fun h => ∀ b, h b = none
def sep (p q : HProp) : HProp := fun h => ∃ h1 h2, Disj h1 h2 ∧ h = join h1 h2 ∧ p h1 ∧ q h2
def seps : List HProp → HProp
  | [] => emp
  | p :: l => sep p (seps l)
def pt (b : Nat) (o : Obj) : HProp := fun h => ∀ b', h b' = if b' = b then some o else none
def fact (φ : Prop) : HProp := fun h => φ ∧ emp h
theorem join_comm {h1 h2 : Hp} (d : Disj h1 h2) : join h1 h2 = join h2 h1 := by
  funext b
  unfold join
  rcases d b with e | e <;> rw [e] <;> (cases h1 b <;> cases h2 b <;> simp_all)
theorem Disj.symm {h1 h2 : Hp} (d : Disj h1 h2) : Disj h2 h1 := fun b => (d b).symm
theorem sep_comm {p q : HProp} {h : Hp} (hs : sep p q h) : sep q p h := by
  obtain ⟨h1, h2, d, rfl, a, b⟩ := hs
  exact ⟨h2, h1, d.symm, join_comm d, b, a⟩
theorem join_none {h1 h2 : Hp} {b : Nat} : join h1 h2 b = none ↔ h1 b = none ∧ h2 b = none := by
  unfold join
  cases h : h1 b <;> simp
theorem join_assoc (h1 h2 h3 : Hp) : join (join h1 h2) h3 = join h1 (join h2 h3) := by
  funext b
  unfold join
  cases h1 b <;> rfl
theorem disj_join {h1 h2 h3 : Hp} : Disj (join h1 h2) h3 ↔ Disj h1 h3 ∧ Disj h2 h3 := by
  constructor
  · intro d
    refine ⟨fun b => ?_, fun b => ?_⟩
    · rcases d b with e | e
      · exact .inl (join_none.1 e).1
      · exact .inr e
    · rcases d b with e | e
      · exact .inl (join_none.1 e).2
      · exact .inr e
  · rintro ⟨d1, d2⟩ b
    rcases d1 b with e | e
    · rcases d2 b with e' | e'
      · exact .inl (join_none.2 ⟨e, e'⟩)
      · exact .inr e'
    · exact .inr e
theorem disj_join' {h1 h2 h3 : Hp} : Disj h1 (join h2 h3) ↔ Disj h1 h2 ∧ Disj h1 h3 := by
  constructor
  · intro d
    have := disj_join.1 d.symm
    exact ⟨this.1.symm, this.2.symm⟩
  · rintro ⟨a, b⟩
    exact (disj_join.2 ⟨a.symm, b.symm⟩).symm
theorem sep_assoc {p q r : HProp} {h : Hp} : sep (sep p q) r h ↔ sep p (sep q r) h := by
  constructor
  · rintro ⟨h12, h3, d, rfl, ⟨h1, h2, d', rfl, a, b⟩, c⟩
    have dd := disj_join.1 d
    exact ⟨h1, join h2 h3, disj_join'.2 ⟨d', dd.1⟩, join_assoc _ _ _, a, h2, h3, dd.2, rfl, b, c⟩
  · rintro ⟨h1, h23, d, rfl, a, h2, h3, d', rfl, b, c⟩
    have dd := disj_join'.1 d
    exact ⟨join h1 h2, h3, disj_join.2 ⟨dd.2, d'⟩, (join_assoc _ _ _).symm, ⟨h1, h2, dd.1, rfl, a, b⟩, c⟩
theorem sep_mono {p q p' q' : HProp} {h : Hp} (hp : ∀ h, p h → p' h) (hq : ∀ h, q h → q' h) (hs : sep p q h) : sep p' q' h := by
  obtain ⟨h1, h2, d, rfl, a, b⟩ := hs
  exact ⟨h1, h2, d, rfl, hp _ a, hq _ b⟩
theorem emp_join {h1 h2 : Hp} (e : emp h1) : join h1 h2 = h2 := by
  funext b
  simp [join, e b]
theorem sep_emp {p : HProp} {h : Hp} : sep emp p h ↔ p h := by
  constructor
  · rintro ⟨h1, h2, _, rfl, e, a⟩
    rwa [emp_join e]
  · intro a
    exact ⟨fun _ => none, h, fun _ => .inl rfl, (emp_join (fun _ => rfl)).symm, fun _ => rfl, a⟩
theorem sep_fact {φ : Prop} {p : HProp} {h : Hp} : sep (fact φ) p h ↔ φ ∧ p h := by
  constructor
  · rintro ⟨h1, h2, _, rfl, ⟨f, e⟩, a⟩
    exact ⟨f, by rwa [emp_join e]⟩
  · rintro ⟨f, a⟩
    exact ⟨fun _ => none, h, fun _ => .inl rfl, (emp_join (fun _ => rfl)).symm, ⟨f, fun _ => rfl⟩, a⟩
theorem seps_append {l m : List HProp} {h : Hp} : seps (l ++ m) h ↔ sep (seps l) (seps m) h := by
  induction l generalizing h with
  | nil => simp [seps, sep_emp]
  | cons p l ih =>
    simp only [List.cons_append, seps]
    constructor
    · intro a
      exact sep_assoc.2 (sep_mono (fun _ x => x) (fun _ x => ih.1 x) a)
    · intro a
      exact sep_mono (fun _ x => x) (fun _ x => ih.2 x) (sep_assoc.1 a)
def Pick (l : List HProp) (p : HProp) (r : List HProp) : Prop := ∀ h, seps l h ↔ sep p (seps r) h
theorem Pick.head {p : HProp} {l : List HProp} : Pick (p :: l) p l := fun _ => Iff.rfl
theorem Pick.tail {x p : HProp} {l r : List HProp} (k : Pick l p r) : Pick (x :: l) p (x :: r) := by
  intro h
  constructor
  · intro a
    have a1 : sep x (sep p (seps r)) h := sep_mono (fun _ x => x) (fun _ x => (k _).1 x) a
    exact sep_assoc.1 (sep_mono (fun _ x => sep_comm x) (fun _ x => x) (sep_assoc.2 a1))
  · intro a
    have a1 : sep x (sep p (seps r)) h := sep_assoc.1 (sep_mono (fun _ x => sep_comm x) (fun _ x => x) (sep_assoc.2 a))
    exact sep_mono (fun _ x => x) (fun _ x => (k _).2 x) a1
def Frm (l pre rest : List HProp) : Prop := ∀ h, seps l h → sep (seps pre) (seps rest) h
theorem Frm.nil {l : List HProp} : Frm l [] l := fun _ a => sep_emp.2 a
theorem Frm.refl {l : List HProp} : Frm l l [] := fun _ a => sep_comm (sep_emp.2 a)
theorem Frm.cons {l l' rest pre : List HProp} {p : HProp} (k : Pick l p l') (f : Frm l' pre rest) : Frm l (p :: pre) rest := by
  intro h a
  exact sep_assoc.2 (sep_mono (fun _ x => x) (fun _ x => f _ x) ((k h).1 a))
def Ent (l l' : List HProp) : Prop := ∀ h, seps l h → seps l' h
theorem Ent.refl {l : List HProp} : Ent l l := fun _ a => a
theorem Ent.trans {a b c : List HProp} (h : Ent a b) (k : Ent b c) : Ent a c := fun _ x => k _ (h _ x)
theorem Ent.cons {l l' r : List HProp} {p : HProp} (k : Pick l p l') (f : Ent l' r) : Ent l (p :: r) := by
  intro h a
  exact sep_mono (fun _ x => x) (fun _ x => f _ x) ((k h).1 a)
theorem Ent.fact {l l' : List HProp} {φ : Prop} (hφ : φ) (f : Ent l l') : Ent l (SL.fact φ :: l') := fun _ a => sep_fact.2 ⟨hφ, f _ a⟩
structure Sat (w0 : World) (L : List HProp) (F : HProp) (w : World) : Prop where
  os : w.os = w0.os
  tape : w.tape = w0.tape
  out : w.output = w0.output
  heap : ∃ h, (∀ b o, h b = some o → w.heap[b]? = some o) ∧ sep (seps L) F h
variable {w0 w : World} {L L' : List HProp} {F : HProp}
theorem Sat.map {L' : List HProp} (s : Sat w0 L F w) (e : ∀ h, seps L h → seps L' h) : Sat w0 L' F w :=
  ⟨s.os, s.tape, s.out, let ⟨h, a, b⟩ := s.heap; ⟨h, a, sep_mono e (fun _ x => x) b⟩⟩
theorem Sat.frame {pre rest : List HProp} (s : Sat w0 L F w) (f : Frm L pre rest) : Sat w0 pre (sep (seps rest) F) w :=
  ⟨s.os, s.tape, s.out, let ⟨h, a, b⟩ := s.heap; ⟨h, a, sep_assoc.1 (sep_mono (fun _ x => f _ x) (fun _ x => x) b)⟩⟩
theorem Sat.unframe {rest : List HProp} (s : Sat w0 L (sep (seps rest) F) w) : Sat w0 (L ++ rest) F w :=
  ⟨s.os, s.tape, s.out, let ⟨h, a, b⟩ := s.heap; ⟨h, a, sep_mono (fun _ x => seps_append.2 x) (fun _ x => x) (sep_assoc.2 b)⟩⟩
theorem Sat.read {b : Nat} {o : Obj} {r : List HProp} (s : Sat w0 L F w) (k : Pick L (pt b o) r) : w.heap[b]? = some o := by
  obtain ⟨h, hs, hsep⟩ := s.heap
  obtain ⟨h1, h2, d, rfl, a, _⟩ := hsep
  obtain ⟨h3, h4, d', rfl, p, _⟩ := (k _).1 a
  refine hs b o ?_
  simp [join, p b]
theorem Sat.pickFact {φ : Prop} {r : List HProp} (s : Sat w0 L F w) (k : Pick L (fact φ) r) : φ ∧ Sat w0 r F w := by
  obtain ⟨h, hs, hsep⟩ := s.heap
  obtain ⟨h1, h2, d, rfl, a, f⟩ := hsep
  have := sep_fact.1 ((k _).1 a)
  exact ⟨this.1, ⟨s.os, s.tape, s.out, _, hs, ⟨h1, h2, d, rfl, this.2, f⟩⟩⟩
theorem Sat.write {b : Nat} {o o' : Obj} {r : List HProp} (s : Sat w0 L F w) (k : Pick L (pt b o) r) :
    Sat w0 (pt b o' :: r) F { w with heap := w.heap.setIfInBounds b o' } := by
  have hr := s.read k
  have hlt : b < w.heap.size := (Array.getElem?_eq_some_iff.1 hr).1
  obtain ⟨h, hs, hsep⟩ := s.heap
  obtain ⟨h1, h2, d, rfl, a, f⟩ := hsep
  obtain ⟨h3, h4, d', rfl, p, q⟩ := (k _).1 a
  have dd := disj_join.1 d
  have p' : ∀ b', h3 b' = none ↔ b' ≠ b := fun b' => by rw [p b']; split <;> simp_all
  let h3' : Hp := fun b' => if b' = b then some o' else none
  have e3 : ∀ b', h3' b' = none ↔ b' ≠ b := fun b' => by show (if b' = b then some o' else none) = none ↔ _; split <;> simp_all
  have d1 : Disj h3' h4 := fun b' => (d' b').imp (fun x => (e3 b').2 ((p' b').1 x)) id
  have d2 : Disj h3' h2 := fun b' => (dd.1 b').imp (fun x => (e3 b').2 ((p' b').1 x)) id
  refine ⟨s.os, s.tape, s.out, join (join h3' h4) h2, ?_, join h3' h4, h2, disj_join.2 ⟨d2, dd.2⟩, rfl, ⟨h3', h4, d1, rfl, fun _ => rfl, q⟩, f⟩
  intro b' x hx
  by_cases e : b' = b
  · subst e
    have : join (join h3' h4) h2 b' = some o' := by simp [join, h3']
    rw [this] at hx
    cases hx
    simp [hlt]
  · have hb : h3 b' = none := (p' b').2 e
    have hb' : h3' b' = none := (e3 b').2 e
    have : join (join h3 h4) h2 b' = some x := by
      simp only [join, hb, hb'] at hx ⊢
      exact hx
    rw [Array.getElem?_setIfInBounds_ne (fun c => e c.symm)]
    exact hs b' x this
theorem Sat.new {o : Obj} (s : Sat w0 L F w) : Sat w0 (pt w.heap.size o :: L) F { w with heap := w.heap.push o } := by
  obtain ⟨h, hs, hsep⟩ := s.heap
  obtain ⟨h1, h2, d, rfl, a, f⟩ := hsep
  have fresh : join h1 h2 w.heap.size = none := by
    cases e : join h1 h2 w.heap.size with
    | none => rfl
    | some o => exact absurd (Array.getElem?_eq_some_iff.1 (hs _ _ e)).1 (Nat.lt_irrefl _)
  have fr := join_none.1 fresh
  let h3 : Hp := fun b' => if b' = w.heap.size then some o else none
  have e3 : ∀ b', h3 b' = none ↔ b' ≠ w.heap.size := fun b' => by show (if b' = w.heap.size then some o else none) = none ↔ _; split <;> simp_all
  have d1 : Disj h3 h1 := fun b' => by
    by_cases e : b' = w.heap.size
    · right; rw [e]; exact fr.1
    · left; exact (e3 b').2 e
  have d2 : Disj h3 h2 := fun b' => by
    by_cases e : b' = w.heap.size
    · right; rw [e]; exact fr.2
    · left; exact (e3 b').2 e
  refine ⟨s.os, s.tape, s.out, join (join h3 h1) h2, ?_, join h3 h1, h2, disj_join.2 ⟨d2, d⟩, rfl, ⟨h3, h1, d1, rfl, fun _ => rfl, a⟩, f⟩
  intro b' x hx
  by_cases e : b' = w.heap.size
  · subst e
    have : join (join h3 h1) h2 w.heap.size = some o := by simp [join, h3]
    rw [this] at hx
    cases hx
    simp
  · have hb : h3 b' = none := (e3 b').2 e
    have : join h1 h2 b' = some x := by
      simp only [join, hb] at hx
      simp only [join]
      exact hx
    have := hs b' x this
    have hlt := (Array.getElem?_eq_some_iff.1 this).1
    show (w.heap.push o)[b']? = some x
    rw [Array.getElem?_push_lt hlt, ← Array.getElem?_eq_getElem hlt, this]
theorem Sat.drawn (s : Sat w0 L F w) (n : Nat) : Sat w0 L F { w with drawn := n } := ⟨s.os, s.tape, s.out, s.heap⟩
theorem Sat.apart {b b' : Nat} {o o' : Obj} {r r' : List HProp} (s : Sat w0 L F w) (k : Pick L (pt b o) r) (k' : Pick r (pt b' o') r') : b ≠ b' := by
  obtain ⟨h, hs, hsep⟩ := s.heap
  obtain ⟨h1, h2, d, rfl, a, f⟩ := hsep
  obtain ⟨h3, h4, d', rfl, p, q⟩ := (k _).1 a
  obtain ⟨h5, h6, d'', rfl, p', q'⟩ := (k' _).1 q
  intro e
  subst e
  rcases (disj_join'.1 d').1 b with x | x
  · rw [p b] at x; simp at x
  · rw [p' b] at x; simp at x
def orig (w : World) : HProp := fun h => ∀ b, h b = w.heap[b]?
theorem Sat.readOrig {v : World} {r : List HProp} (s : Sat w0 L F w) (k : Pick L (orig v) r) {b : Nat} {o : Obj} (hb : v.heap[b]? = some o) : w.heap[b]? = some o := by
  obtain ⟨h, hs, hsep⟩ := s.heap
  obtain ⟨h1, h2, d, rfl, a, _⟩ := hsep
  obtain ⟨h3, h4, d', rfl, p, _⟩ := (k _).1 a
  refine hs b o ?_
  simp [join, p b, hb]
theorem Sat.begin (w : World) : Sat w [orig w] emp w := by
  refine ⟨rfl, rfl, rfl, fun b => w.heap[b]?, fun b o h => h, fun b => w.heap[b]?, fun _ => none, fun _ => .inr rfl, ?_, ⟨fun b => w.heap[b]?, fun _ => none, fun _ => .inr rfl, ?_, fun _ => rfl, fun _ => rfl⟩, fun _ => rfl⟩ <;>
    (funext b; simp only [join]; cases w.heap[b]? <;> rfl)
end SL
end
