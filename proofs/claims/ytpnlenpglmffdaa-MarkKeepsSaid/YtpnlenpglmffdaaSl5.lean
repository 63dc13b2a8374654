/-
  Slices that the call owns (a block of their own, whatever spare capacity there is), append, literals of slices, make.
-/
import Derived.Test.YtpnlenpglmffdaaSl3
set_option linter.unusedVariables false
set_option linter.unusedSimpArgs false
namespace SL
open Go

/-- a type that is no integer's -/
class TNI (P : Program) (t : Nat) : Prop where
  und : ∃ dt, P.underlying t = some dt ∧ ∀ ik, dt ≠ .int ik
def notInt : TypeDesc → Bool
  | .int _ => false
  | _ => true
theorem TNI.mk' {P : Program} {t : Nat} (h : (P.underlying t).map notInt = some true) : TNI P t := by
  cases hu : P.underlying t with
  | none => simp [hu] at h
  | some d => exact ⟨⟨d, hu, fun ik e => by simp [hu, e, notInt] at h⟩⟩

/-- the slice value (a, n, cap) owns its block; its n elements of sz cells are cs -/
def own (e sz : Nat) (a : Option Addr) (n cap : Nat) (cs : List Value) : HProp := fun h =>
  (a = none ∧ n = 0 ∧ cap = 0 ∧ cs = [] ∧ emp h) ∨
  (∃ (b : Nat) (extra : List Value), a = some ⟨b, 0, none⟩ ∧ cs.length = n * sz ∧ (cs ++ extra).length = cap * sz ∧ n ≤ cap ∧ blk b e (cs ++ extra) h)

theorem own_nil {e sz : Nat} {h : Hp} (he : emp h) : own e sz none 0 0 [] h := .inl ⟨rfl, rfl, rfl, rfl, he⟩
theorem own_blk {e sz b n cap : Nat} {cs extra : List Value} {h : Hp} (h1 : cs.length = n * sz) (h2 : (cs ++ extra).length = cap * sz) (h3 : n ≤ cap) (hb : blk b e (cs ++ extra) h) :
    own e sz (some ⟨b, 0, none⟩) n cap cs h := .inr ⟨b, extra, rfl, h1, h2, h3, hb⟩
theorem own_len {e sz n cap : Nat} {a : Option Addr} {cs : List Value} {h : Hp} (ho : own e sz a n cap cs h) : cs.length = n * sz := by
  rcases ho with ⟨_, rfl, _, rfl, _⟩ | ⟨_, _, _, h1, _⟩
  · simp
  · exact h1

variable {w0 w : World} {L L' r : List HProp} {F : HProp}

theorem Ent.own_nil {e sz : Nat} (h : Ent L L') : Ent L (own e sz none 0 0 [] :: L') := fun hp a =>
  sep_emp.1 (sep_mono (fun _ x => x) (fun _ x => x) (by
    refine sep_emp.2 ?_
    refine ⟨fun _ => none, hp, fun _ => .inl rfl, (emp_join (fun _ => rfl)).symm, SL.own_nil (fun _ => rfl), h _ a⟩))
theorem Ent.own_blk {e sz b n cap : Nat} {cs cs' extra : List Value} (k : Pick L (blk b e cs') r) (hc : cs' = cs ++ extra) (h1 : cs.length = n * sz) (h2 : (cs ++ extra).length = cap * sz) (h3 : n ≤ cap) (h : Ent r L') :
    Ent L (own e sz (some ⟨b, 0, none⟩) n cap cs :: L') := fun hp a => by
  subst hc
  exact sep_mono (fun _ x => SL.own_blk h1 h2 h3 x) (fun _ x => h _ x) ((k hp).1 a)

/-- in every world of L the first m elements of y are new -/
def Src (P : Program) (L : List HProp) (sz m : Nat) (y : Value) (new : List Value) : Prop :=
  new.length = m * sz ∧ ∀ (w0 : World) (F : HProp) (w : World), Sat w0 L F w → (Builtin.firstCells sz m y).run P w = .ok new.toArray w ∧ (Builtin.lenOf y).run P w = .ok m w

theorem Src.nil {P : Program} {sz c : Nat} : Src P L sz 0 (.slice none 0 c) [] :=
  ⟨by simp, fun _ _ w _ => ⟨by simp [Builtin.firstCells], by simp [Builtin.lenOf]⟩⟩
theorem Src.blk {P : Program} {b T off sz m c : Nat} {cs new : List Value} (k : Pick L (blk b T cs) r) (h : Cut cs off (m * sz) new) : Src P L sz m (.slice (some ⟨b, off, none⟩) m c) new :=
  ⟨h.1, fun _ _ w s => ⟨by simp only [Builtin.firstCells]; exact s.loads k h, by simp [Builtin.lenOf]⟩⟩

theorem Sat.owned {P : Program} {e sz n cap : Nat} {a : Option Addr} {cs : List Value} (s : Sat w0 L F w) (k : Pick L (own e sz a n cap cs) r) :
    (a = none ∧ n = 0 ∧ cap = 0 ∧ cs = [] ∧ Sat w0 r F w) ∨ ∃ (b : Nat) (extra : List Value), a = some ⟨b, 0, none⟩ ∧ cs.length = n * sz ∧ (cs ++ extra).length = cap * sz ∧ n ≤ cap ∧ Sat w0 (SL.blk b e (cs ++ extra) :: r) F w := by
  obtain ⟨hp, hs, h1, h2, d, rfl, x, y⟩ := s.heap
  obtain ⟨h3, h4, d', rfl, p, q⟩ := (k _).1 x
  rcases p with ⟨e1, e2, e3, e4, e5⟩ | ⟨b, extra, e1, e2, e3, e4, e5⟩
  · refine .inl ⟨e1, e2, e3, e4, s.os, s.tape, s.out, _, hs, join h3 h4, h2, d, rfl, ?_, y⟩
    rw [emp_join e5]; exact q
  · exact .inr ⟨b, extra, e1, e2, e3, e4, s.os, s.tape, s.out, _, hs, join h3 h4, h2, d, rfl, ⟨h3, h4, d', rfl, e5, q⟩, y⟩

theorem Src.own {P : Program} {e sz m c : Nat} {a : Option Addr} {new : List Value} (k : Pick L (own e sz a m c new) r) (hl : new.length = m * sz) : Src P L sz m (.slice a m c) new :=
  ⟨hl, fun _ _ w s => by
    rcases s.owned (P := P) k with ⟨rfl, rfl, rfl, rfl, _⟩ | ⟨b, extra, rfl, h1, h2, h3, s'⟩
    · exact ⟨by simp [Builtin.firstCells], by simp [Builtin.lenOf]⟩
    · refine ⟨?_, by simp [Builtin.lenOf]⟩
      simp only [Builtin.firstCells]
      refine s'.loads Pick.head ⟨h1, fun j v hj => ?_⟩
      have : j < new.length := (List.getElem?_eq_some_iff.1 hj).1
      rw [Nat.zero_add, List.getElem?_append_left this]; exact hj⟩
theorem Src.orig {P : Program} {v : World} {b off sz m c : Nat} {new : List Value} (k : Pick L (orig v) r) (hl : new.length = m * sz) (h : ∀ j x, new[j]? = some x → v.cell? ⟨b, off + j, none⟩ = some x) :
    Src P L sz m (.slice (some ⟨b, off, none⟩) m c) new :=
  ⟨hl, fun _ _ w s => ⟨by
    simp only [Builtin.firstCells]
    rw [← hl]
    refine run_loadCells_list w _ new fun j x hj => ?_
    have ha : (⟨b, off, Option.none⟩ : Addr).add j = ⟨b, off + j, Option.none⟩ := by
      unfold Addr.add; split <;> simp_all
    rw [ha]
    have hc := h j x hj
    unfold World.cell? at hc ⊢
    simp only at hc ⊢
    cases hb : v.heap[b]? with
    | none => simp [hb] at hc
    | some o => rw [s.readOrig k hb]; simpa [hb] using hc, by simp [Builtin.lenOf]⟩⟩

/-- a chunk is forgotten -/
theorem Sat.drop {p : HProp} (s : Sat w0 L F w) (k : Pick L p r) : Sat w0 r F w := by
  obtain ⟨hp, hs, h1, h2, d, rfl, x, y⟩ := s.heap
  obtain ⟨h3, h4, d', rfl, p, q⟩ := (k _).1 x
  have dd := disj_join.1 d
  refine ⟨s.os, s.tape, s.out, join h4 h2, ?_, h4, h2, dd.2, rfl, q, y⟩
  intro b o hb
  refine hs b o ?_
  rcases d' b with e | e
  · simp only [join, e] at hb ⊢
    exact hb
  · simp only [join, e] at hb
    rcases dd.1 b with e' | e'
    · simp only [join, e', e]; exact hb
    · rw [e'] at hb; cases hb

theorem Src.sl {P : Program} {b T off lo hi cap sz : Nat} {cs new : List Value} (k : Pick L (SL.blk b T cs) r) (h1 : lo ≤ hi) (h2 : hi ≤ cap) (h : Cut cs (off + lo * sz) ((hi - lo) * sz) new) :
    Src P L sz (hi - lo) (sl (some ⟨b, off, none⟩) lo hi cap sz) new := by
  by_cases hc : lo < cap
  · rw [sl_in hc]
    exact Src.blk k h
  · have e1 : hi - lo = 0 := by omega
    have e2 : cap = lo := by omega
    have e3 : new = [] := by
      apply List.eq_nil_of_length_eq_zero
      rw [h.1, e1]; simp
    subst e3 e2
    refine ⟨by simp [e1], fun w0 F w s => ⟨?_, ?_⟩⟩
    · unfold SL.sl
      simp [e1, Builtin.firstCells, loadCells, loadCellsFrom]
    · unfold SL.sl
      simp [Builtin.lenOf]

section
variable {P : Program} {fid : Fm} {n : Nat} {post : Post} {k : List Item} {ρ ρ' : Env} {ops rest : List Oper} {g : Option (Nat × Bool)} {ty : TypeId} {pos : String} {af : Array Edge} {d : Nat} {sf : Option (List Bool × List HProp)}

/-- an owned slice that has an element: its block -/
theorem TK.ownPos {e sz m cap : Nat} {a : Option Addr} {cs : List Value} (hp : Pick L (own e sz a m cap cs) r) (hn : 0 < m)
    (h : ∀ (b : Nat) (extra : List Value), a = some ⟨b, 0, none⟩ → cs.length = m * sz → (cs ++ extra).length = cap * sz → m ≤ cap → TK P fid n post k ρ (blk b e (cs ++ extra) :: r)) : TK P fid n post k ρ L := by
  intro w0 F a' w cs' g st
  rcases st.owned (P := P) hp with ⟨_, rfl, _⟩ | ⟨b', extra, h1, h2, h3, h4, s'⟩
  · omega
  · exact h b' extra h1 h2 h3 h4 w0 F a' w cs' g s'
theorem TO.ownPos {e sz m cap : Nat} {a : Option Addr} {cs : List Value} {l : List Oper} (hp : Pick L (own e sz a m cap cs) r) (hn : 0 < m)
    (h : ∀ (b : Nat) (extra : List Value), a = some ⟨b, 0, none⟩ → cs.length = m * sz → (cs ++ extra).length = cap * sz → m ≤ cap → TO P fid n post ops l sf k ρ (blk b e (cs ++ extra) :: r)) : TO P fid n post ops l sf k ρ L := by
  intro w0 F a' w is s g st hi hs
  rcases st.owned (P := P) hp with ⟨_, rfl, _⟩ | ⟨b', extra, h1, h2, h3, h4, s'⟩
  · omega
  · exact h b' extra h1 h2 h3 h4 w0 F a' w is s g s' hi hs
theorem TK.ownLen {e sz m cap : Nat} {a : Option Addr} {cs : List Value} (hp : Pick L (own e sz a m cap cs) r) (h : cs.length = m * sz → m ≤ cap → TK P fid n post k ρ L) : TK P fid n post k ρ L := by
  intro w0 F a' w cs' g st
  rcases st.owned (P := P) hp with ⟨_, rfl, rfl, rfl, _⟩ | ⟨b', extra, h1, h2, h3, h4, s'⟩
  · exact h (by simp) (Nat.le_refl _) w0 F a' w cs' g st
  · exact h h2 h4 w0 F a' w cs' g st

theorem TK.ownNone {e sz m cap : Nat} {cs : List Value} (hp : Pick L (own e sz none m cap cs) r) (h : m = 0 → cap = 0 → cs = [] → TK P fid n post k ρ r) : TK P fid n post k ρ L := by
  intro w0 F a' w cs' g st
  rcases st.owned (P := P) hp with ⟨_, h1, h2, h3, s'⟩ | ⟨b', extra, h1, h2, h3, h4, s'⟩
  · exact h h1 h2 h3 w0 F a' w cs' g s'
  · cases h1

theorem zeroCells_length (z : Array Value) (m : Nat) : (Builtin.zeroCells z m).size = m * z.size := by simp [Builtin.zeroCells]

theorem TO.append {x y : Operand} {t t' e sz by_ m m' cap : Nat} {a : Option Addr} {cs new cs2 : List Value} {s2 : Nat} {yv z : Value} [ht : TSl P t e sz by_] [hz : TZe P e z] [hni' : TNI P t']
    (hw : wants ops ρ g = some true) (hd : Nat.blt d n = true) (hx : ev ρ x = some (.slice a m cap)) (hy : ev ρ y = some yv) (hzs : z.cells.size = sz)
    (hp : Pick L (own e sz a m cap cs) r) (hs : Src P L sz m' yv new) (h1 : ∀ v ∈ new, v.oneCell' = true) (hb0 : by_ ≠ 0) (hb : (m + m') * by_ ≤ 140737488355328)
    (hs2 : m + m' = s2) (hcs2 : cs ++ new = cs2)
    (h : ∀ (a' : Option Addr) (cap' : Nat), TO P fid n post ops rest sf k ((d, .slice a' s2 cap') :: ρ) (own e sz a' s2 cap' cs2 :: r)) :
    TO P fid n post ops (⟨some d, .call ⟨.builtin .append, [x, y].toArray, [t, t'].toArray⟩, ty, pos, af, g⟩ :: rest) sf k ρ L :=
  TO.val hw hd fun w0 F act w gr st => by
    subst hs2 hcs2
    obtain ⟨hnl, hsr⟩ := hs
    obtain ⟨hsr1, hsr2⟩ := hsr w0 F w st
    obtain ⟨dt, hdt, hni⟩ := hni'.und
    have hzero : (underlying t').run P w = .ok dt w := run_und hdt w
    have hnm : (dt matches .int _) = false := by
      cases dt <;> first | rfl | exact absurd rfl (hni _)
    -- what the append's first steps come to
    have hhead : ∀ (f : Value → Result Next), True := fun _ => trivial
    by_cases hfit : m + m' ≤ cap
    · -- it fits
      rcases st.owned (P := P) hp with ⟨rfl, rfl, rfl, rfl, s'⟩ | ⟨b, extra, rfl, e1, e2, e3, s'⟩
      · have hm0 : m' = 0 := by omega
        subst hm0
        have : new = [] := by simpa using hnl
        subst this
        refine ⟨.slice none 0 0, own e sz none 0 0 [] :: r, w, ?_, s'.map (fun h x => ⟨fun _ => Option.none, h, fun _ => .inl rfl, (emp_join (fun _ => rfl)).symm, SL.own_nil (fun _ => rfl), x⟩), ?_⟩
        · simp [execOp, resolve, invoke, builtin, gr.eval hx, gr.eval hy, Builtin.append_, run_und ht.und, ht.size, hzero, hnm, hsr1, hsr2]
        · have := h none 0
          simp only [Nat.zero_add, List.append_nil] at this
          exact this
      · obtain ⟨w', hr, st'⟩ := Sat.stores (P := P) new (cs ++ extra) (m * sz) 0 _ r w s' Pick.head h1 (by
          rw [e2, hnl]
          have : (m + m') * sz ≤ cap * sz := Nat.mul_le_mul_right _ hfit
          rw [Nat.add_mul] at this
          omega)
        have ha : (⟨b, 0, Option.none⟩ : Addr).add (m * sz) = ⟨b, m * sz, Option.none⟩ := by
          unfold Addr.add; split <;> simp_all
        refine ⟨.slice (some ⟨b, 0, Option.none⟩) (m + m') cap, own e sz (some ⟨b, 0, Option.none⟩) (m + m') cap (cs ++ new) :: r, w', ?_, st'.map ?_, h _ cap⟩
        · simp [execOp, resolve, invoke, builtin, gr.eval hx, gr.eval hy, Builtin.append_, run_und ht.und, ht.size, hzero, hnm, hsr1, hsr2, hfit, ha, hr]
        · intro hp' a
          refine sep_mono (fun h' x => ?_) (fun _ x => x) a
          have hcs : (cs ++ extra).take (m * sz + 0) = cs := by rw [Nat.add_zero, ← e1, List.take_left]
          rw [hcs] at x
          refine SL.own_blk (extra := (cs ++ extra).drop (m * sz + 0 + new.length)) (by simp [e1, hnl, Nat.add_mul]) ?_ hfit x
          have hle : m * sz + 0 + new.length ≤ (cs ++ extra).length := by
            rw [e2, hnl]
            have : (m + m') * sz ≤ cap * sz := Nat.mul_le_mul_right _ hfit
            rw [Nat.add_mul] at this
            omega
          simp only [List.length_append, List.length_drop] at *
          omega
    · -- it grows
      have hgrow : ¬ Builtin.nextslicecap (m + m') cap * ((P.info? e).getD default).bytes > 281474976710656 := by
        rw [ht.bytes]
        have := growslice_fits (need := m + m') (old := cap) (bytes := by_) (by omega) hb
        omega
      have hc : Question.forced (.appendCap (m + m') cap e) = false := rfl
      have hbne : ((P.info? e).getD default).bytes ≠ 0 := by rw [ht.bytes]; exact hb0
      obtain ⟨hcsl, hold⟩ : cs.length = m * sz ∧ (Builtin.firstCells sz m (.slice a m cap)).run P w.drew = .ok cs.toArray w.drew := by
        rcases (show Sat w0 L F w.drew from st.drawn (w.drawn + 1)).owned (P := P) hp with ⟨rfl, rfl, rfl, rfl, s'⟩ | ⟨b, extra, rfl, e1, e2, e3, s'⟩
        · exact ⟨by simp, by simp [Builtin.firstCells]⟩
        · refine ⟨e1, ?_⟩
          simp only [Builtin.firstCells]
          refine s'.loads Pick.head ⟨e1, fun j v hj => ?_⟩
          have : j < cs.length := (List.getElem?_eq_some_iff.1 hj).1
          rw [Nat.zero_add, List.getElem?_append_left this]; exact hj
      obtain ⟨hsr1', hsr2'⟩ := hsr w0 F w.drew (st.drawn _)
      -- the drawn capacity
      let nc := (Question.appendCap (m + m') cap e).cut (w.tape w.drawn (.appendCap (m + m') cap e))
      have hnc : m + m' ≤ nc := Nat.le_add_right _ _
      have hst := (st.drawn (w.drawn + 1)).new (o := .cells (cs.toArray ++ new.toArray ++ Builtin.zeroCells z.cells (nc - (m + m'))) e)
      refine ⟨.slice (some ⟨w.heap.size, 0, Option.none⟩) (m + m') nc, own e sz (some ⟨w.heap.size, 0, Option.none⟩) (m + m') nc (cs ++ new) :: r,
        { w with drawn := w.drawn + 1, heap := w.heap.push (.cells (cs.toArray ++ new.toArray ++ Builtin.zeroCells z.cells (nc - (m + m'))) e) }, ?_, ?_, h _ nc⟩
      · simp [execOp, resolve, invoke, builtin, gr.eval hx, gr.eval hy, Builtin.append_, run_und ht.und, ht.size, hzero, hnm, hsr1', hsr2, hfit, ht.info, hgrow, hc, hold, hz.run, newRow, hbne]
        refine ⟨rfl, ?_⟩
        have ea : cs.toArray ++ (new.toArray ++ Builtin.zeroCells z.cells ((Question.appendCap (m + m') cap e).cut (w.tape w.drawn (Question.appendCap (m + m') cap e)) - (m + m'))) =
            (cs ++ new).toArray ++ Builtin.zeroCells z.cells (nc - (m + m')) := by
          apply Array.ext'
          simp [nc]
        rw [ea]
        rfl
      · -- the old block is forgotten
        refine Sat.map (L' := own e sz (some ⟨w.heap.size, 0, Option.none⟩) (m + m') nc (cs ++ new) :: r) (s := (?_ : Sat w0 (blk w.heap.size e ((cs ++ new) ++ (Builtin.zeroCells z.cells (nc - (m + m'))).toList) :: r) F _)) ?_
        · have e1 : (cs.toArray ++ new.toArray ++ Builtin.zeroCells z.cells (nc - (m + m'))) = ((cs ++ new) ++ (Builtin.zeroCells z.cells (nc - (m + m'))).toList).toArray := by
            apply Array.ext'
            simp
          rw [e1] at hst ⊢
          exact hst.drop (Pick.tail hp)
        · intro hp' x
          refine sep_mono (fun h' x => ?_) (fun _ x => x) x
          refine SL.own_blk (by simp [hcsl, hnl, Nat.add_mul]) ?_ hnc x
          have : nc * sz = (m + m') * sz + (nc - (m + m')) * sz := by rw [← Nat.add_mul]; congr 1; omega
          simp [zeroCells_length, hzs, hcsl, hnl, this, Nat.add_mul]
          omega

end
end SL
