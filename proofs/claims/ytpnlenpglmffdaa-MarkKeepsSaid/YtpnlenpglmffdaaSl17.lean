/-
  Blocks that are only read from now on (RO); append to a slice that has no room, and of nothing.
-/
import Derived.Test.YtpnlenpglmffdaaSl16
set_option linter.unusedVariables false
set_option linter.unusedSimpArgs false
namespace SL
open Go
/-- just the blocks of g -/
def RO (g : Hp) : HProp := fun h => h = g
/-- what g holds, g' holds -/
def HLe (g g' : Hp) : Prop := ∀ b o, g b = some o → g' b = some o
theorem HLe.refl (g : Hp) : HLe g g := fun _ _ h => h
theorem HLe.trans {a b c : Hp} (h : HLe a b) (k : HLe b c) : HLe a c := fun x o e => k x o (h x o e)
def cellG (g : Hp) (q : Addr) : Option Value := match g q.block with
  | some (.cells c _ _) => if q.spot.isSome then none else c[q.off]?
  | _ => none
theorem cellG_le {g g' : Hp} {q : Addr} {v : Value} (h : HLe g g') (e : cellG g q = some v) : cellG g' q = some v := by
  unfold cellG at e ⊢
  cases hb : g q.block with
  | none => simp [hb] at e
  | some o => rw [h _ _ hb]; rw [hb] at e; exact e
/-- the elements of a slice at a are cs -/
def RdG (g : Hp) (a : Option Addr) (cs : List Value) : Prop := (a = none → cs = []) ∧ ∀ q, a = some q → ∀ (j : Nat) x, cs[j]? = some x → cellG g (q.add j) = some x
theorem RdG.le {g g' : Hp} {a : Option Addr} {cs : List Value} (h : HLe g g') (e : RdG g a cs) : RdG g' a cs := ⟨e.1, fun q hq j x hx => cellG_le h (e.2 q hq j x hx)⟩
theorem RdG.none {g : Hp} : RdG g none [] := ⟨fun _ => rfl, fun _ h => by cases h⟩
theorem join_le_right {h1 h2 : Hp} (d : Disj h1 h2) : HLe h2 (join h1 h2) := by
  intro b o e
  unfold join
  rcases d b with c | c
  · rw [c]; exact e
  · rw [c] at e; cases e
theorem join_le_left {h1 h2 : Hp} : HLe h1 (join h1 h2) := by
  intro b o e
  unfold join
  rw [e]
/-- a slice's block is only read from now on -/
theorem ro_own {e sz : Nat} {a : Option Addr} {n cap : Nat} {cs : List Value} {g h : Hp} (hs : seps [own e sz a n cap cs, RO g] h) : ∃ g', HLe g g' ∧ RdG g' a cs ∧ RO g' h := by
  obtain ⟨h1, h2, d, rfl, ho, hr⟩ := hs
  obtain ⟨h3, h4, d', rfl, hg, he⟩ := hr
  have hg' : h3 = g := hg
  subst hg'
  have e34 : join h3 h4 = h3 := by
    funext b
    unfold join
    cases hb : h3 b with
    | none => exact he b
    | some o => simp
  rw [e34] at d ⊢
  refine ⟨join h1 h3, join_le_right d, ?_, rfl⟩
  rcases ho with ⟨rfl, rfl, rfl, rfl, _⟩ | ⟨b, extra, rfl, e1, e2, e3, hb⟩
  · exact RdG.none
  · refine ⟨fun c => (by cases c), fun q hq j x hx => ?_⟩
    cases hq
    have hb0 : h1 b = some (.cells (cs ++ extra).toArray e (0, 0)) := by have := hb b; simpa using this
    have ha : (⟨b, 0, Option.none⟩ : Addr).add j = ⟨b, j, Option.none⟩ := by unfold Addr.add; split <;> simp_all
    have hlt : j < cs.length := (List.getElem?_eq_some_iff.1 hx).1
    have hx' : (cs ++ extra)[j]? = some x := by rw [List.getElem?_append_left hlt]; exact hx
    unfold cellG
    rw [ha]
    simp only [join_le_left _ _ hb0]
    simpa using hx'
theorem ro_blk {e b : Nat} {cs : List Value} {g h : Hp} (hs : seps [blk b e cs, RO g] h) : ∃ g', HLe g g' ∧ RdG g' (some ⟨b, 0, none⟩) cs ∧ RO g' h := by
  obtain ⟨h1, h2, d, rfl, hb, hr⟩ := hs
  obtain ⟨h3, h4, d', rfl, hg, he⟩ := hr
  have hg' : h3 = g := hg
  subst hg'
  have e34 : join h3 h4 = h3 := by
    funext b
    unfold join
    cases hb : h3 b with
    | none => exact he b
    | some o => simp
  rw [e34] at d ⊢
  refine ⟨join h1 h3, join_le_right d, ⟨fun c => (by cases c), fun q hq j x hx => ?_⟩, rfl⟩
  cases hq
  have hb0 : h1 b = some (.cells cs.toArray e (0, 0)) := by have := hb b; simpa using this
  have ha : (⟨b, 0, Option.none⟩ : Addr).add j = ⟨b, j, Option.none⟩ := by unfold Addr.add; split <;> simp_all
  unfold cellG
  rw [ha]
  simp only [join_le_left _ _ hb0]
  simpa using hx
/-- nothing, to begin with -/
def HE : Hp := fun _ => none
theorem ro_new {L : List HProp} : EntD L (RO HE :: L) := by
  refine EntD.of_ent fun h x => ⟨HE, h, fun _ => .inl rfl, ?_, rfl, x⟩
  funext b
  rfl

variable {w0 w : World} {L L' r : List HProp} {F : HProp}
theorem Sat.readRO {g : Hp} (s : Sat w0 L F w) (k : Pick L (RO g) r) {b : Nat} {o : Obj} (hb : g b = some o) : w.heap[b]? = some o := by
  obtain ⟨h, hs, hsep⟩ := s.heap
  obtain ⟨h1, h2, d, rfl, a, _⟩ := hsep
  obtain ⟨h3, h4, d', rfl, p, _⟩ := (k _).1 a
  have p' : h3 = g := p
  subst p'
  refine hs b o ?_
  simp [join, hb]
theorem Sat.cellRO {g : Hp} (s : Sat w0 L F w) (k : Pick L (RO g) r) {q : Addr} {v : Value} (hv : cellG g q = some v) : w.cell? q = some v := by
  unfold cellG at hv
  unfold World.cell?
  cases hb : g q.block with
  | none => simp [hb] at hv
  | some o => rw [s.readRO k hb]; rw [hb] at hv; exact hv
/-- the first elements of y are new, wherever y lies -/
theorem Src.ro {P : Program} {g : Hp} {sz m c : Nat} {a : Option Addr} {new : List Value} (k : Pick L (RO g) r) (hl : new.length = m * sz) (hn : a = none → m = 0) (h : RdG g a new) : Src P L sz m (.slice a m c) new := by
  cases a with
  | none =>
    have hm := hn rfl
    subst hm
    have : new = [] := by simpa using hl
    subst this
    exact Src.nil
  | some q =>
    refine ⟨hl, fun _ _ w s => ⟨?_, by simp [Builtin.lenOf]⟩⟩
    simp only [Builtin.firstCells]
    rw [← hl]
    exact run_loadCells_list w _ new fun j x hj => s.cellRO k (h.2 q rfl j x hj)
/-- bytes that are only read -/
theorem Rd.ro {g : Hp} {a : Option Addr} {cap : Nat} {bs : List UInt8} (h : RdG g a (bs.map byteV)) : Rd (RO g) a cap bs :=
  ⟨fun e => by have := h.1 e; simpa using this, fun P L r k => Src.ro k (by simp) (fun e => by have := h.1 e; simp at this; simp [this]) h⟩
/-- no element -/
theorem Src.zero {P : Program} {sz c : Nat} {a : Option Addr} : Src P L sz 0 (.slice a 0 c) [] := by
  cases a with
  | none => exact Src.nil
  | some q =>
    refine ⟨by simp, fun _ _ w s => ⟨?_, by simp [Builtin.lenOf]⟩⟩
    simp only [Builtin.firstCells]
    rw [Nat.zero_mul]
    exact run_loadCells_list w _ [] fun j x hj => by simp at hj
section
variable {P : Program} {fid : Fm} {n : Nat} {post : Post} {k : List Item} {ρ : Env} {ops rest : List Oper} {ty : TypeId} {pos : String} {af : Array Edge} {g : Option (Nat × Bool)} {sf : Option (List Bool × List HProp)} {d : Nat}
/-- a load of what is only read -/
theorem TO.loadRO {G : Hp} {x : Operand} {t : Nat} {q : Addr} {v : Value} [ht : TSc P t] (hw : wants ops ρ g = some true) (hd : Nat.blt d n = true) (hx : ev ρ x = some (.pointer (some q)))
    (hp : Pick L (RO G) r) (hv : cellG G q = some v) (h : TO P fid n post ops rest sf k ((d, v) :: ρ) L) : TO P fid n post ops (⟨some d, .load t x, ty, pos, af, g⟩ :: rest) sf k ρ L :=
  TO.val hw hd fun w0 F a w gr st => ⟨v, L, w, by
    have hc := st.cellRO hp hv
    simp [execOp, gr.eval hx, Instr.loadAt, Instr.sureAddr, loadVar, (ht.run w).1, hc], st, h⟩
/-- append where there is no room: a new block; the old one stays -/
theorem TO.appendNew {x y : Operand} {t t' e sz by_ m m' cap : Nat} {a : Option Addr} {cs new cs2 : List Value} {s2 : Nat} {yv z : Value} [ht : TSl P t e sz by_] [hz : TZe P e z] [hni' : TNI P t']
    (hw : wants ops ρ g = some true) (hd : Nat.blt d n = true) (hx : ev ρ x = some (.slice a m cap)) (hy : ev ρ y = some yv) (hzs : z.cells.size = sz)
    (ho : Src P L sz m (.slice a m cap) cs) (hs : Src P L sz m' yv new) (h1 : ∀ v ∈ new, v.oneCell' = true) (hb0 : by_ ≠ 0) (hb : (m + m') * by_ ≤ 140737488355328) (hfit : ¬ m + m' ≤ cap)
    (hs2 : m + m' = s2) (hcs2 : cs ++ new = cs2)
    (h : ∀ (b' cap' : Nat), TO P fid n post ops rest sf k ((d, .slice (some ⟨b', 0, none⟩) s2 cap') :: ρ) (own e sz (some ⟨b', 0, none⟩) s2 cap' cs2 :: L)) :
    TO P fid n post ops (⟨some d, .call ⟨.builtin .append, [x, y].toArray, [t, t'].toArray⟩, ty, pos, af, g⟩ :: rest) sf k ρ L :=
  TO.val hw hd fun w0 F act w gr st => by
    subst hs2 hcs2
    obtain ⟨hnl, hsr⟩ := hs
    obtain ⟨hsr1, hsr2⟩ := hsr w0 F w st
    obtain ⟨hcl, hor⟩ := ho
    obtain ⟨dt, hdt, hni⟩ := hni'.und
    have hzero : (underlying t').run P w = .ok dt w := run_und hdt w
    have hnm : (dt matches .int _) = false := by
      cases dt <;> first | rfl | exact absurd rfl (hni _)
    have hgrow : ¬ Builtin.nextslicecap (m + m') cap * ((P.info? e).getD default).bytes > 281474976710656 := by
      rw [ht.bytes]
      have := growslice_fits (need := m + m') (old := cap) (bytes := by_) (by omega) hb
      omega
    have hc : Question.forced (.appendCap (m + m') cap e) = false := rfl
    have hbne : ((P.info? e).getD default).bytes ≠ 0 := by rw [ht.bytes]; exact hb0
    have hold : (Builtin.firstCells sz m (.slice a m cap)).run P w.drew = .ok cs.toArray w.drew := (hor w0 F w.drew (st.drawn _)).1
    obtain ⟨hsr1', hsr2'⟩ := hsr w0 F w.drew (st.drawn _)
    let nc := (Question.appendCap (m + m') cap e).cut (w.tape w.drawn (.appendCap (m + m') cap e))
    have hnc : m + m' ≤ nc := Nat.le_add_right _ _
    have hst := (st.drawn (w.drawn + 1)).new (o := .cells (cs.toArray ++ new.toArray ++ Builtin.zeroCells z.cells (nc - (m + m'))) e)
    refine ⟨.slice (some ⟨w.heap.size, 0, Option.none⟩) (m + m') nc, own e sz (some ⟨w.heap.size, 0, Option.none⟩) (m + m') nc (cs ++ new) :: L,
      { w with drawn := w.drawn + 1, heap := w.heap.push (.cells (cs.toArray ++ new.toArray ++ Builtin.zeroCells z.cells (nc - (m + m'))) e) }, ?_, ?_, h _ nc⟩
    · simp [execOp, resolve, invoke, builtin, gr.eval hx, gr.eval hy, Builtin.append_, run_und ht.und, ht.size, hzero, hnm, hsr1', hsr2, hfit, ht.info, hgrow, hc, hold, hz.run, newRow, hbne]
      refine ⟨rfl, ?_⟩
      have ea : cs.toArray ++ (new.toArray ++ Builtin.zeroCells z.cells ((Question.appendCap (m + m') cap e).cut (w.tape w.drawn (Question.appendCap (m + m') cap e)) - (m + m'))) =
          (cs ++ new).toArray ++ Builtin.zeroCells z.cells (nc - (m + m')) := by
        apply Array.ext'
        simp [nc]
      rw [ea]
      rfl
    · refine Sat.map (L' := own e sz (some ⟨w.heap.size, 0, Option.none⟩) (m + m') nc (cs ++ new) :: L) (s := (?_ : Sat w0 (blk w.heap.size e ((cs ++ new) ++ (Builtin.zeroCells z.cells (nc - (m + m'))).toList) :: L) _ _)) ?_
      · have e1 : (cs.toArray ++ new.toArray ++ Builtin.zeroCells z.cells (nc - (m + m'))) = ((cs ++ new) ++ (Builtin.zeroCells z.cells (nc - (m + m'))).toList).toArray := by
          apply Array.ext'
          simp
        rw [e1] at hst ⊢
        exact hst
      · intro hp' x
        refine sep_mono (fun h' x => ?_) (fun _ x => x) x
        refine SL.own_blk (by simp [hcl, hnl, Nat.add_mul]) ?_ hnc x
        have : nc * sz = (m + m') * sz + (nc - (m + m')) * sz := by rw [← Nat.add_mul]; congr 1; omega
        simp [zeroCells_length, hzs, hcl, hnl, this, Nat.add_mul]
        omega
/-- append of nothing -/
theorem TO.appendNil {x y : Operand} {t t' e sz by_ m cap : Nat} {a : Option Addr} {yv : Value} [ht : TSl P t e sz by_] [hni' : TNI P t']
    (hw : wants ops ρ g = some true) (hd : Nat.blt d n = true) (hx : ev ρ x = some (.slice a m cap)) (hy : ev ρ y = some yv) (hs : Src P L sz 0 yv []) (hmc : m ≤ cap)
    (h : TO P fid n post ops rest sf k ((d, .slice a m cap) :: ρ) L) :
    TO P fid n post ops (⟨some d, .call ⟨.builtin .append, [x, y].toArray, [t, t'].toArray⟩, ty, pos, af, g⟩ :: rest) sf k ρ L :=
  TO.val hw hd fun w0 F act w gr st => by
    obtain ⟨hnl, hsr⟩ := hs
    obtain ⟨hsr1, hsr2⟩ := hsr w0 F w st
    obtain ⟨dt, hdt, hni⟩ := hni'.und
    have hzero : (underlying t').run P w = .ok dt w := run_und hdt w
    have hnm : (dt matches .int _) = false := by
      cases dt <;> first | rfl | exact absurd rfl (hni _)
    refine ⟨.slice a m cap, L, w, ?_, st, h⟩
    cases a with
    | none => simp [execOp, resolve, invoke, builtin, gr.eval hx, gr.eval hy, Builtin.append_, run_und ht.und, ht.size, hzero, hnm, hsr1, hsr2, hmc]
    | some q => simp [execOp, resolve, invoke, builtin, gr.eval hx, gr.eval hy, Builtin.append_, run_und ht.und, ht.size, hzero, hnm, hsr1, hsr2, hmc, storeCells]
end
/-! slices that are own, or have neither elements nor room -/
def ownZ (e sz : Nat) (a : Option Addr) (n cap : Nat) (cs : List Value) : HProp := fun h => (n = 0 ∧ cap = 0 ∧ cs = [] ∧ emp h) ∨ own e sz a n cap cs h
theorem ownZ_own {e sz n cap : Nat} {a : Option Addr} {cs : List Value} {h : Hp} (x : own e sz a n cap cs h) : ownZ e sz a n cap cs h := .inr x
theorem Ent.ownZ0 {e sz : Nat} {a : Option Addr} (h : Ent L L') : Ent L (ownZ e sz a 0 0 [] :: L') :=
  fun hp x => ⟨fun _ => Option.none, hp, fun _ => .inl rfl, (emp_join (fun _ => rfl)).symm, .inl ⟨rfl, rfl, rfl, fun _ => rfl⟩, h _ x⟩
theorem Sat.casesZ {e sz n cap : Nat} {a : Option Addr} {cs : List Value} (s : Sat w0 L F w) (k : Pick L (ownZ e sz a n cap cs) r) : (n = 0 ∧ cap = 0 ∧ cs = [] ∧ Sat w0 r F w) ∨ Sat w0 (own e sz a n cap cs :: r) F w := by
  obtain ⟨h, hs, hsep⟩ := s.heap
  obtain ⟨h1, h2, d, rfl, x, f⟩ := hsep
  obtain ⟨h3, h4, d', rfl, p, q⟩ := (k _).1 x
  rcases p with ⟨rfl, rfl, rfl, he⟩ | p
  · left
    rw [emp_join he] at d hs
    exact ⟨rfl, rfl, rfl, s.os, s.tape, s.out, _, hs, h4, h2, d, rfl, q, f⟩
  · right
    exact ⟨s.os, s.tape, s.out, _, hs, _, h2, d, rfl, ⟨h3, h4, d', rfl, p, q⟩, f⟩
section
variable {P : Program} {fid : Fm} {n : Nat} {post : Post} {k : List Item} {ρ : Env} {ops : List Oper} {sf : Option (List Bool × List HProp)}
theorem TO.casesZ {e sz m cap : Nat} {a : Option Addr} {cs : List Value} {l : List Oper} (hp : Pick L (ownZ e sz a m cap cs) r) (h1 : m = 0 → cap = 0 → cs = [] → TO P fid n post ops l sf k ρ r) (h2 : TO P fid n post ops l sf k ρ (own e sz a m cap cs :: r)) :
    TO P fid n post ops l sf k ρ L := fun w0 F a' w is s gr st hi hs => by
  rcases st.casesZ hp with ⟨e1, e2, e3, s'⟩ | s'
  · exact h1 e1 e2 e3 w0 F a' w is s gr s' hi hs
  · exact h2 w0 F a' w is s gr s' hi hs
theorem TK.casesZ {e sz m cap : Nat} {a : Option Addr} {cs : List Value} (hp : Pick L (ownZ e sz a m cap cs) r) (h1 : m = 0 → cap = 0 → cs = [] → TK P fid n post k ρ r) (h2 : TK P fid n post k ρ (own e sz a m cap cs :: r)) :
    TK P fid n post k ρ L := fun w0 F a' w css gr st => by
  rcases st.casesZ hp with ⟨e1, e2, e3, s'⟩ | s'
  · exact h1 e1 e2 e3 w0 F a' w css gr s'
  · exact h2 w0 F a' w css gr s'
/-- append to what is own, or empty without room: own -/
theorem TO.appendZ {x y : Operand} {t t' e sz by_ m m' cap : Nat} {a : Option Addr} {cs new cs2 : List Value} {s2 : Nat} {yv z : Value} [ht : TSl P t e sz by_] [hz : TZe P e z] [hni' : TNI P t'] {d : Nat} {rest : List Oper} {ty : TypeId} {pos : String} {af : Array Edge} {g : Option (Nat × Bool)}
    (hw : wants ops ρ g = some true) (hd : Nat.blt d n = true) (hx : ev ρ x = some (.slice a m cap)) (hy : ev ρ y = some yv) (hzs : z.cells.size = sz)
    (hp : Pick L (ownZ e sz a m cap cs) r) (hs : Src P r sz m' yv new) (hs' : ∀ c, Src P (c :: r) sz m' yv new) (h1 : ∀ v ∈ new, v.oneCell' = true) (hb0 : by_ ≠ 0) (hb : (m + m') * by_ ≤ 140737488355328) (hm' : 0 < m')
    (hs2 : m + m' = s2) (hcs2 : cs ++ new = cs2)
    (h : ∀ (a' : Option Addr) (cap' : Nat), TO P fid n post ops rest sf k ((d, .slice a' s2 cap') :: ρ) (own e sz a' s2 cap' cs2 :: r)) :
    TO P fid n post ops (⟨some d, .call ⟨.builtin .append, [x, y].toArray, [t, t'].toArray⟩, ty, pos, af, g⟩ :: rest) sf k ρ L := by
  refine TO.casesZ hp (fun e1 e2 e3 => ?_) ?_
  · subst e1 e2 e3
    exact TO.appendNew hw hd hx hy hzs Src.zero hs h1 hb0 hb (by omega) hs2 hcs2 fun b' c' => h _ c'
  · exact TO.append hw hd hx hy hzs Pick.head (hs' _) h1 hb0 hb hs2 hcs2 h
end
/-! operations -/
section
variable {P : Program} {n : Nat} {ρ : Env} {ty : TypeId} {pos : String} {af : Array Edge} {g : Option (Nat × Bool)}
theorem PV.andNot {dst : Option Nat} {x y : Operand} {kd : IntKind} {i j r : Int} {t u : TypeId} (hx : ev ρ x = some (.int kd i)) (hy : ev ρ y = some (.int kd j)) (hr : andNotI kd i j = r) : PV P n ρ ⟨dst, .binOp .andNot t x y u, ty, pos, af, g⟩ (.int kd r) := fun a w gr => by unfold andNotI at hr; simp [execOp, eqGuard, binOp, gr.eval hx, gr.eval hy, Op.intBits, ← hr]
end
theorem or128 (n : Int) : orI .u8 (IntKind.u8.wrap n) 128 = (((n % 128).toNat + 128 : Nat) : Int) := by
  have key : ∀ x : Fin 256, orI .u8 ((x : Nat) : Int) 128 = (((x : Nat) % 128 + 128 : Nat) : Int) := by decide +kernel
  have hw : IntKind.u8.wrap n = (((n % 256).toNat : Nat) : Int) := by
    show n % 256 = _
    omega
  have := key ⟨(n % 256).toNat, by omega⟩
  rw [hw, this]
  simp only
  omega
theorem andNot128 (c : UInt8) : andNotI .u8 (c.toNat : Int) 128 = ((c.toNat % 128 : Nat) : Int) := by
  have key : ∀ x : Fin 256, andNotI .u8 ((x : Nat) : Int) 128 = (((x : Nat) % 128 : Nat) : Int) := by decide +kernel
  exact key ⟨c.toNat, UInt8.toNat_lt c⟩
theorem shl7 {c i : Nat} (hi : i ≤ 9) (h : c * 128 ^ i < 18446744073709551616) : shlI .u64 (c : Int) (7 * (i : Int)) = ((c * 128 ^ i : Nat) : Int) := by
  unfold shlI
  have e : min (7 * (i : Int)).toNat IntKind.u64.bits = 7 * i := by simp only [IntKind.bits]; omega
  rw [e]
  have h128 : (128 : Nat) ^ i = 2 ^ (7 * i) := by rw [Nat.pow_mul]
  have e2 : (c : Int) * 2 ^ (7 * i) = ((c * 128 ^ i : Nat) : Int) := by
    rw [h128, Int.natCast_mul, Int.natCast_pow]
    rfl
  rw [e2]
  obtain ⟨m, hm⟩ : ∃ m, m = c * 128 ^ i := ⟨_, rfl⟩
  rw [← hm] at h ⊢
  exact wrap_u64 (by omega)
theorem or_add {a c i : Nat} (ha : a < 128 ^ i) (h : a + c * 128 ^ i < 18446744073709551616) : orI .u64 (a : Int) ((c * 128 ^ i : Nat) : Int) = ((a + c * 128 ^ i : Nat) : Int) := by
  unfold orI
  have h128 : (128 : Nat) ^ i = 2 ^ (7 * i) := by rw [Nat.pow_mul]
  obtain ⟨m, hm⟩ : ∃ m, m = c * 128 ^ i := ⟨_, rfl⟩
  have hor : a ||| m = a + m := by
    rw [h128] at ha hm
    rw [hm, Nat.mul_comm, Nat.or_comm, ← Nat.two_pow_add_eq_or_of_lt ha, Nat.add_comm]
  rw [← hm] at h ⊢
  have e : (BitVec.ofInt IntKind.u64.bits (a : Int) ||| BitVec.ofInt IntKind.u64.bits (m : Int)).toNat = a + m := by
    rw [BitVec.toNat_or]
    have e1 : ∀ x : Nat, x < 18446744073709551616 → (BitVec.ofInt IntKind.u64.bits (x : Int)).toNat = x := by
      intro x hx
      simp only [BitVec.toNat_ofInt, IntKind.bits]
      omega
    rw [e1 _ (by omega), e1 _ (by omega), hor]
  rw [e]
  clear e hor hm h128 ha
  exact wrap_u64 (by omega)
theorem shr7 (m : Nat) : shrI .u64 (m : Int) 7 = ((m / 128 : Nat) : Int) := by
  unfold shrI
  have e : min (7 : Int).toNat IntKind.u64.bits = 7 := by decide
  rw [e, Int.fdiv_eq_ediv_of_nonneg _ (by decide)]
  norm_cast
/-! a row of bytes that may be read in a chunk -/
structure RdB (X : HProp) (a : Option Addr) (bs : List UInt8) : Prop where
  none_ : a = none → bs = []
  at_ : ∀ q, a = some q → RdA X q (bs.map byteV)
theorem RdA.at {X : HProp} {q : Addr} {vs : List Value} {j : Nat} {v : Value} (h : RdA X q vs) (hv : vs[j]? = some v) : RdA X (q.add j) [v] := fun w0 L r F w s k i x hx => by
  have hi : i = 0 := by
    have := (List.getElem?_eq_some_iff.1 hx).1
    simp at this; omega
  subst hi
  simp at hx
  subst hx
  rw [add_add]
  exact h w0 L r F w s k j v hv
theorem RdA.ro {g : Hp} {q : Addr} {vs : List Value} (h : RdG g (some q) vs) : RdA (RO g) q vs := fun w0 L r F w s k j v hv => s.cellRO k (h.2 q rfl j v hv)
theorem RdB.ro {g : Hp} {a : Option Addr} {bs : List UInt8} (h : RdG g a (bs.map byteV)) : RdB (RO g) a bs :=
  ⟨fun e => by have := h.1 e; simpa using this, fun q hq => RdA.ro (by rw [← hq]; exact h)⟩
theorem RdB.rd {X : HProp} {a : Option Addr} {cap : Nat} {bs : List UInt8} (h : RdB X a bs) : Rd X a cap bs :=
  ⟨h.none_, fun P L r k => by
    cases a with
    | none =>
      have := h.none_ rfl
      subst this
      exact Src.nil
    | some q =>
      refine ⟨by simp, fun w0 F w s => ⟨?_, by simp [Builtin.lenOf]⟩⟩
      simp only [Builtin.firstCells]
      have e : bs.length * 1 = (bs.map byteV).length := by simp
      rw [e]
      exact run_loadCells_list w _ _ fun j x hj => h.at_ q rfl w0 L r F w s k j x hj⟩
theorem RdB.byte {X : HProp} {q : Addr} {bs : List UInt8} {i : Nat} (h : RdB X (some q) bs) (hi : i < bs.length) : RdA X (q.add (i * 1)) [byteV bs[i]] := by
  rw [Nat.mul_one]
  exact (h.at_ q rfl).at (by simp [hi])
theorem RdB.drop {X : HProp} {a : Option Addr} {bs : List UInt8} (h : RdB X a bs) (s : Nat) {a' : Option Addr} (ha : bs.drop s = [] ∨ a' = a.map (·.add s)) (hn : a' = none → a = none) : RdB X a' (bs.drop s) := by
  refine ⟨fun e => by rw [h.none_ (hn e)]; simp, fun q hq => ?_⟩
  rcases ha with ha | ha
  · rw [ha]
    intro w0 L r F w st k j v hv
    simp at hv
  · cases a with
    | none => subst hq; simp at ha
    | some p =>
      subst hq
      simp at ha
      subst ha
      intro w0 L r F w st k j v hv
      rw [add_add]
      exact h.at_ p rfl w0 L r F w st k (s + j) v (by simpa [List.getElem?_drop] using hv)
theorem RdB.take {X : HProp} {a : Option Addr} {bs : List UInt8} (h : RdB X a bs) (s : Nat) : RdB X a (bs.take s) := by
  refine ⟨fun e => by rw [h.none_ e]; simp, fun q hq w0 L r F w st k j v hv => ?_⟩
  refine h.at_ q hq w0 L r F w st k j v ?_
  rw [List.map_take, List.getElem?_take] at hv
  split at hv
  · exact hv
  · cases hv
theorem RdB.own {e n cap : Nat} {a : Option Addr} {bs : List UInt8} (h0 : a = none → bs = []) : RdB (SL.own e 1 a n cap (bs.map byteV)) a bs := by
  refine ⟨h0, fun q hq w0 L r F w s k j v hj => ?_⟩
  rcases s.owned (P := default) k with ⟨h1, _⟩ | ⟨b', extra, h1, h2, h3, h4, s'⟩
  · rw [hq] at h1; cases h1
  · rw [hq] at h1
    cases h1
    have ha : (⟨b', 0, Option.none⟩ : Addr).add j = ⟨b', j, Option.none⟩ := by unfold Addr.add; split <;> simp_all
    rw [ha]
    refine s'.cell Pick.head ?_
    have : j < (bs.map byteV).length := (List.getElem?_eq_some_iff.1 hj).1
    rw [List.getElem?_append_left this]
    exact hj
theorem RdB.orig {W : World} {a : Option Addr} {bs : List UInt8} (h0 : a = none → bs = []) (h : ∀ q, a = some q → ∀ (j : Nat) x, bs[j]? = some x → W.cell? (q.add j) = some (byteV x)) : RdB (SL.orig W) a bs :=
  ⟨h0, fun q hq => RdA.orig fun j v hj => by
    simp only [List.getElem?_map, Option.map_eq_some_iff] at hj
    obtain ⟨x, h1, rfl⟩ := hj
    exact h q hq j x h1⟩
theorem bytes_one (bs : List UInt8) : ∀ v ∈ bs.map byteV, v.oneCell' = true := by
  intro v hv
  simp only [List.mem_map] at hv
  obtain ⟨x, _, rfl⟩ := hv
  rfl
end SL
