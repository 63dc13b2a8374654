/-
  Slices that the call owns, beginning somewhere in their block; append to them.
-/
import Derived.Test.YtjnlkljmaiddnaaCo8
set_option linter.unusedVariables false
set_option linter.unusedSimpArgs false
namespace SL
open Go Go.Proofs Go.RowKit
/-- the slice value (a, n, cap) owns its block, in which it begins anywhere; its n elements of sz cells are cs -/
def ownO (e sz : Nat) (a : Option Addr) (n cap : Nat) (cs : List Value) : HProp := fun h =>
  (a = none ∧ n = 0 ∧ cap = 0 ∧ cs = [] ∧ emp h) ∨
  (∃ (b : Nat) (pre rest : List Value), a = some ⟨b, pre.length, none⟩ ∧ cs.length = n * sz ∧ cap * sz ≤ (cs ++ rest).length ∧ n ≤ cap ∧ blk b e (pre ++ (cs ++ rest)) h)
theorem ownO_nil {e sz : Nat} {h : Hp} (he : emp h) : ownO e sz none 0 0 [] h := .inl ⟨rfl, rfl, rfl, rfl, he⟩
theorem ownO_blk {e sz b o n cap : Nat} {cs pre rest : List Value} {h : Hp} (ho : o = pre.length) (h1 : cs.length = n * sz) (h2 : cap * sz ≤ (cs ++ rest).length) (h3 : n ≤ cap) (hb : blk b e (pre ++ (cs ++ rest)) h) :
    ownO e sz (some ⟨b, o, none⟩) n cap cs h := .inr ⟨b, pre, rest, by rw [ho], h1, h2, h3, hb⟩
theorem ownO_of {e sz n cap : Nat} {a : Option Addr} {cs : List Value} {h : Hp} (x : own e sz a n cap cs h) : ownO e sz a n cap cs h := by
  rcases x with ⟨h1, h2, h3, h4, h5⟩ | ⟨b, ex, h1, h2, h3, h4, h5⟩
  · exact .inl ⟨h1, h2, h3, h4, h5⟩
  · exact .inr ⟨b, [], ex, h1, h2, by omega, h4, h5⟩
theorem Ent.ownO_nil {L L' : List HProp} {e sz : Nat} (h : Ent L L') : Ent L (ownO e sz none 0 0 [] :: L') := fun hp a =>
  sep_mono (fun _ x => ownO_of x) (fun _ x => x) (Ent.own_nil (e := e) (sz := sz) h hp a)
theorem Ent.ownO_blk {L L' r : List HProp} {e sz b o n cap : Nat} {cs cs' pre rest : List Value} (k : Pick L (blk b e cs') r) (ho : o = pre.length) (hc : cs' = pre ++ (cs ++ rest)) (h1 : cs.length = n * sz) (h2 : cap * sz ≤ (cs ++ rest).length) (h3 : n ≤ cap) (h : Ent r L') :
    Ent L (ownO e sz (some ⟨b, o, none⟩) n cap cs :: L') := fun hp a => by
  subst hc
  exact sep_mono (fun _ x => SL.ownO_blk ho h1 h2 h3 x) (fun _ x => h _ x) ((k hp).1 a)
section
variable {w0 w : World} {L L' r : List HProp} {F : HProp}
theorem Sat.ownedO {P : Program} {e sz n cap : Nat} {a : Option Addr} {cs : List Value} (s : Sat w0 L F w) (k : Pick L (ownO e sz a n cap cs) r) :
    (a = none ∧ n = 0 ∧ cap = 0 ∧ cs = [] ∧ Sat w0 r F w) ∨ ∃ (b : Nat) (pre rest : List Value), a = some ⟨b, pre.length, none⟩ ∧ cs.length = n * sz ∧ cap * sz ≤ (cs ++ rest).length ∧ n ≤ cap ∧ Sat w0 (SL.blk b e (pre ++ (cs ++ rest)) :: r) F w := by
  obtain ⟨hp, hs, h1, h2, d, rfl, x, y⟩ := s.heap
  obtain ⟨h3, h4, d', rfl, p, q⟩ := (k _).1 x
  rcases p with ⟨e1, e2, e3, e4, e5⟩ | ⟨b, pre, rest, e1, e2, e3, e4, e5⟩
  · refine .inl ⟨e1, e2, e3, e4, s.os, s.tape, s.out, _, hs, join h3 h4, h2, d, rfl, ?_, y⟩
    rw [emp_join e5]; exact q
  · exact .inr ⟨b, pre, rest, e1, e2, e3, e4, s.os, s.tape, s.out, _, hs, join h3 h4, h2, d, rfl, ⟨h3, h4, d', rfl, e5, q⟩, y⟩
end
section
variable {P : Program} {fid : Fm} {n : Nat} {post : Post} {k : List Item} {ρ ρ' : Env} {ops rest : List Oper} {g : Option (Nat × Bool)} {ty : TypeId} {pos : String} {af : Array Edge} {d : Nat} {sf : Option (List Bool × List HProp)} {L r : List HProp}
/-- such a slice that has an element: its block -/
theorem TK.ownOPos {e sz m cap : Nat} {a : Option Addr} {cs : List Value} (hp : Pick L (ownO e sz a m cap cs) r) (hn : 0 < m)
    (h : ∀ (b : Nat) (pre rest : List Value), a = some ⟨b, pre.length, none⟩ → cs.length = m * sz → cap * sz ≤ (cs ++ rest).length → m ≤ cap → TK P fid n post k ρ (blk b e (pre ++ (cs ++ rest)) :: r)) : TK P fid n post k ρ L := by
  intro w0 F a' w cs' g st
  rcases st.ownedO (P := P) hp with ⟨_, rfl, _⟩ | ⟨b', pre, rest, h1, h2, h3, h4, s'⟩
  · omega
  · exact h b' pre rest h1 h2 h3 h4 w0 F a' w cs' g s'
theorem TO.appendO {x y : Operand} {t t' e sz by_ m m' cap : Nat} {a : Option Addr} {cs new cs2 : List Value} {s2 : Nat} {yv z : Value} [ht : TSl P t e sz by_] [hz : TZe P e z] [hni' : TNI P t']
    (hw : wants ops ρ g = some true) (hd : Nat.blt d n = true) (hx : ev ρ x = some (.slice a m cap)) (hy : ev ρ y = some yv) (hzs : z.cells.size = sz)
    (hp : Pick L (ownO e sz a m cap cs) r) (hs : Src P L sz m' yv new) (h1 : ∀ v ∈ new, v.oneCell' = true) (hb0 : by_ ≠ 0) (hb : (m + m') * by_ ≤ 140737488355328)
    (hs2 : m + m' = s2) (hcs2 : cs ++ new = cs2)
    (h : ∀ (a' : Option Addr) (cap' : Nat), TO P fid n post ops rest sf k ((d, .slice a' s2 cap') :: ρ) (ownO e sz a' s2 cap' cs2 :: r)) :
    TO P fid n post ops (⟨some d, .call ⟨.builtin .append, [x, y].toArray, [t, t'].toArray⟩, ty, pos, af, g⟩ :: rest) sf k ρ L :=
  TO.val hw hd fun w0 F act w gr st => by
    subst hs2 hcs2
    obtain ⟨hnl, hsr⟩ := hs
    obtain ⟨hsr1, hsr2⟩ := hsr w0 F w st
    obtain ⟨dt, hdt, hni⟩ := hni'.und
    have hzero : (underlying t').run P w = .ok dt w := run_und hdt w
    have hnm : (dt matches .int _) = false := by
      cases dt <;> first | rfl | exact absurd rfl (hni _)
    by_cases hfit : m + m' ≤ cap
    · -- it fits
      rcases st.ownedO (P := P) hp with ⟨rfl, rfl, rfl, rfl, s'⟩ | ⟨b, pre, more, rfl, e1, e2, e3, s'⟩
      · have hm0 : m' = 0 := by omega
        subst hm0
        have : new = [] := by simpa using hnl
        subst this
        refine ⟨.slice none 0 0, ownO e sz none 0 0 [] :: r, w, ?_, s'.map (fun h x => ⟨fun _ => Option.none, h, fun _ => .inl rfl, (emp_join (fun _ => rfl)).symm, SL.ownO_nil (fun _ => rfl), x⟩), ?_⟩
        · simp [execOp, resolve, invoke, builtin, gr.eval hx, gr.eval hy, Builtin.append_, run_und ht.und, ht.size, hzero, hnm, hsr1, hsr2]
        · have := h none 0
          simp only [Nat.zero_add, List.append_nil] at this
          exact this
      · have hmul : (m + m') * sz ≤ cap * sz := Nat.mul_le_mul_right _ hfit
        rw [Nat.add_mul] at hmul
        simp only [List.length_append] at e2
        obtain ⟨w', hr, st'⟩ := Sat.stores (P := P) new (pre ++ (cs ++ more)) (pre.length + m * sz) 0 _ r w s' Pick.head h1 (by
          simp only [List.length_append]
          rw [hnl]
          omega)
        have ha : (⟨b, pre.length, Option.none⟩ : Addr).add (m * sz) = ⟨b, pre.length + m * sz, Option.none⟩ := by
          unfold Addr.add; split <;> simp_all
        refine ⟨.slice (some ⟨b, pre.length, Option.none⟩) (m + m') cap, ownO e sz (some ⟨b, pre.length, Option.none⟩) (m + m') cap (cs ++ new) :: r, w', ?_, st'.map ?_, h _ cap⟩
        · simp [execOp, resolve, invoke, builtin, gr.eval hx, gr.eval hy, Builtin.append_, run_und ht.und, ht.size, hzero, hnm, hsr1, hsr2, hfit, ha, hr]
        · intro hp' a
          refine sep_mono (fun h' x => ?_) (fun _ x => x) a
          have hcs : (pre ++ (cs ++ more)).take (pre.length + m * sz + 0) = pre ++ cs := by
            rw [Nat.add_zero, ← e1, List.take_length_add_append, List.take_left]
          rw [hcs] at x
          refine SL.ownO_blk (pre := pre) (rest := (pre ++ (cs ++ more)).drop (pre.length + m * sz + 0 + new.length)) rfl (by simp [e1, hnl, Nat.add_mul]) ?_ hfit (by simpa using x)
          simp only [List.length_append, List.length_drop]
          rw [hnl]
          omega
    · -- it grows
      have hgrow : ¬ Builtin.nextslicecap (m + m') cap * ((P.info? e).getD default).bytes > 281474976710656 := by
        rw [ht.bytes]
        have := growslice_fits (need := m + m') (old := cap) (bytes := by_) (by omega) hb
        omega
      have hc : Question.forced (.appendCap (m + m') cap e) = false := rfl
      have hbne : ((P.info? e).getD default).bytes ≠ 0 := by rw [ht.bytes]; exact hb0
      obtain ⟨hcsl, hold⟩ : cs.length = m * sz ∧ (Builtin.firstCells sz m (.slice a m cap)).run P w.drew = .ok cs.toArray w.drew := by
        rcases (show Sat w0 L F w.drew from st.drawn (w.drawn + 1)).ownedO (P := P) hp with ⟨rfl, rfl, rfl, rfl, s'⟩ | ⟨b, pre, more, rfl, e1, e2, e3, s'⟩
        · exact ⟨by simp, by simp [Builtin.firstCells]⟩
        · refine ⟨e1, ?_⟩
          simp only [Builtin.firstCells]
          refine s'.loads Pick.head ⟨e1, fun j v hj => ?_⟩
          have : j < cs.length := (List.getElem?_eq_some_iff.1 hj).1
          rw [List.getElem?_append_right (by omega), show pre.length + j - pre.length = j from by omega, List.getElem?_append_left this]; exact hj
      obtain ⟨hsr1', hsr2'⟩ := hsr w0 F w.drew (st.drawn _)
      -- the drawn capacity
      let nc := (Question.appendCap (m + m') cap e).cut (w.tape w.drawn (.appendCap (m + m') cap e))
      have hnc : m + m' ≤ nc := Nat.le_add_right _ _
      have hst := (st.drawn (w.drawn + 1)).new (o := .cells (cs.toArray ++ new.toArray ++ Builtin.zeroCells z.cells (nc - (m + m'))) e)
      refine ⟨.slice (some ⟨w.heap.size, 0, Option.none⟩) (m + m') nc, ownO e sz (some ⟨w.heap.size, 0, Option.none⟩) (m + m') nc (cs ++ new) :: r,
        { w with drawn := w.drawn + 1, heap := w.heap.push (.cells (cs.toArray ++ new.toArray ++ Builtin.zeroCells z.cells (nc - (m + m'))) e) }, ?_, ?_, h _ nc⟩
      · simp [execOp, resolve, invoke, builtin, gr.eval hx, gr.eval hy, Builtin.append_, run_und ht.und, ht.size, hzero, hnm, hsr1', hsr2, hfit, ht.info, hgrow, hc, hold, hz.run, newRow, hbne]
        refine ⟨rfl, ?_⟩
        have ea : cs.toArray ++ (new.toArray ++ Builtin.zeroCells z.cells ((Question.appendCap (m + m') cap e).cut (w.tape w.drawn (Question.appendCap (m + m') cap e)) - (m + m'))) =
            (cs ++ new).toArray ++ Builtin.zeroCells z.cells (nc - (m + m')) := by
          apply Array.ext'
          simp [nc]
        rw [ea]
        rfl
      · -- the old block is forgotten
        refine Sat.map (L' := ownO e sz (some ⟨w.heap.size, 0, Option.none⟩) (m + m') nc (cs ++ new) :: r) (s := (?_ : Sat w0 (blk w.heap.size e ((cs ++ new) ++ (Builtin.zeroCells z.cells (nc - (m + m'))).toList) :: r) F _)) ?_
        · have e1 : (cs.toArray ++ new.toArray ++ Builtin.zeroCells z.cells (nc - (m + m'))) = ((cs ++ new) ++ (Builtin.zeroCells z.cells (nc - (m + m'))).toList).toArray := by
            apply Array.ext'
            simp
          rw [e1] at hst ⊢
          exact hst.drop (Pick.tail hp)
        · intro hp' x
          refine sep_mono (fun h' x => ?_) (fun _ x => x) x
          refine SL.ownO_blk (pre := []) (o := 0) rfl (by simp [hcsl, hnl, Nat.add_mul]) ?_ hnc x
          have : nc * sz = (m + m') * sz + (nc - (m + m')) * sz := by rw [← Nat.add_mul]; congr 1; omega
          simp [zeroCells_length, hzs, hcsl, hnl, this, Nat.add_mul]
          omega
theorem W.appendO {x y : Operand} {t t' e sz by_ m m' cap : Nat} {a : Option Addr} {cs new cs2 : List Value} {s2 : Nat} {yv z : Value} [ht : TSl P t e sz by_] [hz : TZe P e z] [hni' : TNI P t']
    (h : ∀ (a' : Option Addr) (cap' : Nat), TO P fid n post ops rest sf k ((d, .slice a' s2 cap') :: ρ) (ownO e sz a' s2 cap' cs2 :: r))
    (hw : wants ops ρ g = some true := by rfl) (hd : Nat.blt d n = true := by rfl) (hx : ev ρ x = some (.slice a m cap) := by rfl) (hy : ev ρ y = some yv := by rfl) (hzs : z.cells.size = sz := by rfl)
    (hp : Pick L (ownO e sz a m cap cs) r := by first | ((repeat (first | exact SL.Pick.head | apply SL.Pick.tail)); done) | fail) (hs : Src P L sz m' yv new := by first | exact SL.Src.nil | exact SL.Src.sl (by first | ((repeat (first | exact SL.Pick.head | apply SL.Pick.tail)); done) | fail) (by omega) (by omega) (by assumption) | exact SL.Src.own (by first | ((repeat (first | exact SL.Pick.head | apply SL.Pick.tail)); done) | fail) (by first | rfl | assumption | simp) | exact SL.Src.blk (by first | ((repeat (first | exact SL.Pick.head | apply SL.Pick.tail)); done) | fail) (by first | ((repeat (first | exact SL.Cut.zero _ | apply SL.Cut.take | apply SL.Cut.drop)); done) | fail) | exact SL.Rd.src (by assumption) rfl (by first | ((repeat (first | exact SL.Pick.head | apply SL.Pick.tail)); done) | fail)) (h1 : ∀ v ∈ new, v.oneCell' = true := by first | assumption | simp [Go.Value.oneCell']) (hb0 : by_ ≠ 0 := by decide) (hb : (m + m') * by_ ≤ 140737488355328 := by omega)
    (hs2 : m + m' = s2 := by (try simp only [Nat.zero_add, Nat.add_zero, Nat.reduceAdd]) <;> rfl) (hcs2 : cs ++ new = cs2 := by (try simp only [List.nil_append, List.cons_append, List.append_nil]) <;> rfl) : TO P fid n post ops (⟨some d, .call ⟨.builtin .append, [x, y].toArray, [t, t'].toArray⟩, ty, pos, af, g⟩ :: rest) sf k ρ L := TO.appendO hw hd hx hy hzs hp hs h1 hb0 hb hs2 hcs2 h
end
end SL
