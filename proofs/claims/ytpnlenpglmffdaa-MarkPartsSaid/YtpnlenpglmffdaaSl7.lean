/-
  More rules: append within the capacity, clear, bytes to a string, results in cells, existential chunks.
-/
import Derived.Test.YtpnlenpglmffdaaSl6
set_option linter.unusedVariables false
set_option linter.unusedSimpArgs false
namespace SL
open Go

variable {w0 w : World} {L L' r : List HProp} {F : HProp}

theorem Ent.mapHead {p q : HProp} {l l' : List HProp} (k : Pick l p r) (hpq : ∀ h, p h → q h) (h : Ent r l') : Ent l (q :: l') := fun hp a =>
  sep_mono (fun _ x => hpq _ x) (fun _ x => h _ x) ((k hp).1 a)
theorem Ent.ofSeps {l m l' : List HProp} (k : Pick l (seps m) r) (h : Ent (m ++ r) l') : Ent l l' := fun hp a =>
  h _ (seps_append.2 ((k hp).1 a))
theorem Ent.toSeps {l m l' rest : List HProp} (f : Frm l m rest) (h : Ent rest l') : Ent l (seps m :: l') := fun hp a =>
  sep_mono (fun _ x => x) (fun _ x => h _ x) (f hp a)
theorem Ent.ex {α : Type} {p : α → HProp} {l l' : List HProp} (x : α) (k : Pick l (p x) r) (h : Ent r l') : Ent l (SL.ex p :: l') := fun hp a =>
  sep_mono (fun _ y => ⟨x, y⟩) (fun _ y => h _ y) ((k hp).1 a)

section
variable {P : Program} {fid : Fm} {n : Nat} {post : Post} {k : List Item} {ρ ρ' : Env} {ops rest : List Oper} {g : Option (Nat × Bool)} {ty : TypeId} {pos : String} {af : Array Edge} {d : Nat} {sf : Option (List Bool × List HProp)}

theorem TK.exC {α : Type} {p : α → HProp} (hp : Pick L (ex p) r) (h : ∀ x, TK P fid n post k ρ (p x :: r)) : TK P fid n post k ρ L :=
  TK.openEx (L' := fun x => p x :: r) (fun hh a => by
    obtain ⟨h1, h2, d, rfl, ⟨x, px⟩, y⟩ := (hp hh).1 a
    exact ⟨x, h1, h2, d, rfl, px, y⟩) h
theorem TO.exC {α : Type} {p : α → HProp} {l : List Oper} (hp : Pick L (ex p) r) (h : ∀ x, TO P fid n post ops l sf k ρ (p x :: r)) : TO P fid n post ops l sf k ρ L :=
  TO.openEx (L' := fun x => p x :: r) (fun hh a => by
    obtain ⟨h1, h2, d, rfl, ⟨x, px⟩, y⟩ := (hp hh).1 a
    exact ⟨x, h1, h2, d, rfl, px, y⟩) h
theorem TK.sepsC {m : List HProp} (hp : Pick L (seps m) r) (h : TK P fid n post k ρ (m ++ r)) : TK P fid n post k ρ L :=
  TK.ent (fun hh a => seps_append.2 ((hp hh).1 a)) h
theorem TO.sepsC {m : List HProp} {l : List Oper} (hp : Pick L (seps m) r) (h : TO P fid n post ops l sf k ρ (m ++ r)) : TO P fid n post ops l sf k ρ L :=
  TO.ent (fun hh a => seps_append.2 ((hp hh).1 a)) h
theorem TK.drop {p : HProp} (hp : Pick L p r) (h : TK P fid n post k ρ r) : TK P fid n post k ρ L :=
  fun w0 F a w cs g st => h w0 F a w cs g (st.drop hp)
theorem TO.drop {p : HProp} {l : List Oper} (hp : Pick L p r) (h : TO P fid n post ops l sf k ρ r) : TO P fid n post ops l sf k ρ L :=
  fun w0 F a w is s g st hi hs => h w0 F a w is s g (st.drop hp) hi hs

/-- the end, where the frame's chunks may be dropped -/
def EntD (l l' : List HProp) : Prop := ∀ (w0 : World) (F : HProp) (w : World), Sat w0 l F w → Sat w0 l' F w
theorem EntD.of_ent (h : Ent L L') : EntD L L' := fun w0 F w s => s.map h
theorem EntD.nil : EntD L [] := by
  intro w0 F w s
  refine ⟨s.os, s.tape, s.out, ?_⟩
  obtain ⟨hp, hs, h1, h2, d, rfl, x, y⟩ := s.heap
  refine ⟨h2, ?_, fun _ => none, h2, fun _ => .inl rfl, (emp_join (fun _ => rfl)).symm, fun _ => rfl, y⟩
  intro b o hb
  refine hs b o ?_
  rcases d b with e | e
  · simp only [join, e]; exact hb
  · rw [e] at hb; cases hb
theorem Frm.cons1 {p : HProp} {r : List HProp} : Frm (p :: r) r [p] := fun h a => by
  have := sep_comm a
  exact sep_mono (fun _ x => x) (fun _ x => sep_comm (sep_emp.2 x)) this
theorem EntD.cons {p : HProp} (k : Pick L p r) (h : EntD r L') : EntD L (p :: L') := by
  intro w0 F w s
  have s1 : Sat w0 (p :: r) F w := s.map fun _ a => (k _).1 a
  -- p becomes the frame's
  have s2 : Sat w0 r (sep (seps [p]) F) w := s1.frame (pre := r) (rest := [p]) Frm.cons1
  exact (h w0 _ w s2).unframe.map (fun _ a => by
    have := seps_append.1 a
    have h2 := sep_comm this
    exact sep_mono (fun _ x => by
      have := sep_comm x
      exact sep_emp.1 this) (fun _ x => x) h2)
theorem EntD.refl : EntD L L := fun _ _ _ s => s
theorem EntD.trans {A B C : List HProp} (h : EntD A B) (h' : EntD B C) : EntD A C := fun w0 F w s => h' w0 F w (h w0 F w s)
theorem EntD.frm {pre rest : List HProp} {q : HProp} (f : Frm L pre rest) (hq : ∀ h, seps pre h → q h) (h : EntD rest L') : EntD L (q :: L') :=
  fun w0 F w s => EntD.cons Pick.head h w0 F w (s.map fun _ a => sep_mono (fun _ x => hq _ x) (fun _ x => x) (f _ a))
theorem EntD.frmL {pre rest m : List HProp} (f : Frm L pre rest) (hq : ∀ h, seps pre h → seps m h) (h : EntD rest L') : EntD L (m ++ L') :=
  fun w0 F w s => (EntD.frm (q := seps m) f hq h w0 F w s).map fun _ a => seps_append.2 a
theorem EntD.all {pre rest m : List HProp} (f : Frm L pre rest) (hq : ∀ h, seps pre h → seps m h) : EntD L m :=
  EntD.trans (EntD.frmL f hq EntD.nil) (by rw [List.append_nil]; exact EntD.refl)
theorem EntD.fact {φ : Prop} (hφ : φ) (h : EntD L L') : EntD L (SL.fact φ :: L') := fun w0 F w s => (h w0 F w s).map fun _ a => sep_fact.2 ⟨hφ, a⟩
theorem EntD.drop {p : HProp} (k : Pick L p r) (h : EntD r L') : EntD L L' := fun w0 F w s => h w0 F w (s.drop k)

theorem TK.entD (e : EntD L L') (h : TK P fid n post k ρ L') : TK P fid n post k ρ L :=
  fun w0 F a w cs g st => h w0 F a w cs g (e w0 F w st)
theorem TO.entD {l : List Oper} (e : EntD L L') (h : TO P fid n post ops l sf k ρ L') : TO P fid n post ops l sf k ρ L :=
  fun w0 F a w is s g st hi hs => h w0 F a w is s g (e w0 _ w st) hi hs
theorem TK.retD {fn : Func} {v : Value} (hf : P.funcs[fid.fn]? = some fn) (hr : Res P n ρ L fn v) (hp : post v L') (he : EntD L L') (hn : fid.plain := by exact ⟨rfl, rfl⟩) : TK P fid n post (.code .ret :: k) ρ L := by
  intro w0 F a w cs g st
  refine ⟨v, w, L', hp, he w0 F w st, ?_⟩
  unfold Ends
  rw [hn.1]
  refine ⟨{ fid.at a (.code .ret :: k) with mode := .returning }, .one (stepR_ret (b := fid.frame) (a := fid.act a) hn.1), rfl, rfl, ?_, rfl, fn, hf, hr w0 F a w g st⟩
  show fid.marks.map mkD = []
  rw [hn.2]; rfl
theorem TK.finD {fn : Func} {v : Value} (hf : P.funcs[fid.fn]? = some fn) (hr : Res P n ρ L fn v) (hp : post v L') (he : EntD L L') (hn : fid.plain := by exact ⟨rfl, rfl⟩) : TK P fid n post [] ρ L := by
  intro w0 F a w cs g st
  refine ⟨v, w, L', hp, he w0 F w st, ?_⟩
  unfold Ends
  rw [hn.1]
  refine ⟨{ fid.at a [] with mode := .returning }, .one (stepR_end (b := fid.frame) (a := fid.act a) hn.1), rfl, rfl, ?_, rfl, fn, hf, hr w0 F a w g st⟩
  show fid.marks.map mkD = []
  rw [hn.2]; rfl
theorem Spec.postD {f : Nat} {args : List Value} {pre : List HProp} {post post' : Post} (h : Spec P f args pre post) (hp : ∀ v L, post v L → ∃ L', post' v L' ∧ EntD L L') :
    Spec P f args pre post' :=
  ⟨h.callable, fun w0 F w st => (h.runs w0 F w st).mono fun e w' ⟨v, L, he, hv, st'⟩ => let ⟨L', a, b⟩ := hp v L hv; ⟨v, L', he, a, b w0 F w' st'⟩⟩
theorem Spec.preD {f : Nat} {args : List Value} {pre pre' : List HProp} {post : Post} (h : Spec P f args pre post) (e : EntD pre' pre) : Spec P f args pre' post :=
  ⟨h.callable, fun w0 F w st => h.runs w0 F w (e w0 F w st)⟩
/-- a contract under an assertion that is opened -/
theorem Spec.openEx {α : Type} {f : Nat} {args : List Value} {pre : List HProp} {pre' : α → List HProp} {post : Post} (hne : Nonempty α) (e : ∀ h, seps pre h → ∃ x, seps (pre' x) h) (h : ∀ x, Spec P f args (pre' x) post) : Spec P f args pre post := by
  obtain ⟨x0⟩ := hne
  refine ⟨(h x0).callable, fun w0 F w st => ?_⟩
  obtain ⟨hp, hsub, h1, h2, d, rfl, x, y⟩ := st.heap
  obtain ⟨z, hz⟩ := e h1 x
  exact (h z).runs w0 F w ⟨st.os, st.tape, st.out, _, hsub, h1, h2, d, rfl, hz, y⟩

theorem TK.againD {c : Code} {Inv : Env → List HProp → Nat → Prop} {m : Nat}
    (ih : ∀ ρ' L' m', Inv ρ' L' m' → m' < m → TK P fid n post (.inLoop c :: k) ρ' L') {ρ1 : Env} {L1 : List HProp} {m1 : Nat}
    (h1 : Inv ρ1 L1 m1) (hρ : Sub ρ ρ1) (hL : EntD L L1) (hm : m1 < m) : TK P fid n post (.inLoop c :: k) ρ L :=
  TK.entD hL (TK.again ih h1 hρ Ent.refl hm)
theorem TK.loopD {c : Code} (Inv : Env → List HProp → Nat → Prop)
    (round : ∀ ρ L m, Inv ρ L m → (∀ ρ' L' m', Inv ρ' L' m' → m' < m → TK P fid n post (.inLoop c :: k) ρ' L') → TK P fid n post (.code c :: .inLoop c :: k) ρ L)
    {ρ0 : Env} {L0 : List HProp} {m0 : Nat} (h0 : Inv ρ0 L0 m0) (hρ : Sub ρ ρ0) (hL : EntD L L0) : TK P fid n post (.code (.loop c) :: k) ρ L :=
  TK.entD hL (TK.loop Inv round h0 hρ Ent.refl)
/-- a contract beside further chunks -/
theorem Spec.framed {f : Nat} {args : List Value} {pre pre' : List HProp} {post : Post} (h : Spec P f args pre post) (rest : List HProp) (fr : Frm pre' pre rest) :
    Spec P f args pre' (fun v L => ∃ L1, post v L1 ∧ L = L1 ++ rest) :=
  ⟨h.callable, fun w0 F w st => (h.runs w0 _ w (st.frame fr)).mono fun e w' ⟨v, L, he, hv, st'⟩ => ⟨v, L ++ rest, he, ⟨L, hv, rfl⟩, st'.unframe⟩⟩
theorem Spec.openP {α : Type} {φ : α → Prop} {f : Nat} {args : List Value} {pre : List HProp} {pre' : α → List HProp} {post : Post} (hc : ∀ (xs : Array Value) (w : World), (callFunc f xs).run P w = .ok (.enter f xs) w)
    (e : ∀ h, seps pre h → ∃ x, φ x ∧ seps (pre' x) h) (h : ∀ x, φ x → Spec P f args (pre' x) post) : Spec P f args pre post := by
  refine ⟨hc, fun w0 F w st => ?_⟩
  obtain ⟨hp, hsub, h1, h2, d, rfl, x, y⟩ := st.heap
  obtain ⟨z, hφ, hz⟩ := e h1 x
  exact (h z hφ).runs w0 F w ⟨st.os, st.tape, st.out, _, hsub, h1, h2, d, rfl, hz, y⟩

/-! results that lie in cells -/
theorem Res.cellA {fn : Func} {t u T b sz : Nat} {cs vs : List Value} [ht : TAg P u sz] (h : fn.results = #[.cell t u]) (hv : look t ρ = some (.pointer (some ⟨b, 0, Option.none⟩))) (hp : Pick L (blk b T cs) r) (hc : Cut cs 0 sz vs) :
    Res P n ρ L fn (.agg vs.toArray) := fun w0 F a w gr st => by
  have e := gr.at_ t _ hv
  have hl := st.loads (P := P) hp hc
  simp [results, h, Array.getD_eq_getD_getElem?, e, asAddr, loadVar, (ht.run w).1, (ht.run w).2, hl]
theorem Res.cellAT {fn : Func} {t u T b sz s : Nat} {cs vs : List Value} {v : Value} [ht : TAg P u sz] (h : fn.results = #[.cell t u, .tmp s]) (hv : look t ρ = some (.pointer (some ⟨b, 0, Option.none⟩))) (hs : look s ρ = some v) (hp : Pick L (blk b T cs) r) (hc : Cut cs 0 sz vs) :
    Res P n ρ L fn (.tuple #[.agg vs.toArray, v]) := fun w0 F a w gr st => by
  have e := gr.at_ t _ hv
  have e2 := gr.at_ s _ hs
  have hl := st.loads (P := P) hp hc
  simp [results, h, Array.getD_eq_getD_getElem?, e, e2, asAddr, loadVar, (ht.run w).1, (ht.run w).2, hl]
theorem Res.cellS {fn : Func} {t u T b : Nat} {cs : List Value} {v : Value} [ht : TSc P u] (h : fn.results = #[.cell t u]) (hv : look t ρ = some (.pointer (some ⟨b, 0, Option.none⟩))) (hp : Pick L (blk b T cs) r) (hc : nth cs 0 = some v) :
    Res P n ρ L fn v := fun w0 F a w gr st => by
  have e := gr.at_ t _ hv
  have hl := st.cell hp (o := 0) (v := v) (by rw [← nth_eq]; exact hc)
  simp [results, h, Array.getD_eq_getD_getElem?, e, asAddr, loadVar, (ht.run w).1, (ht.run w).2, hl]

/-- a slot's value is spelled otherwise -/
theorem TO.slot {d : Nat} {v v' : Value} {l : List Oper} (h : look d ρ = some v) (e : v = v') (ht : TO P fid n post ops l sf k ((d, v') :: ρ) L) : TO P fid n post ops l sf k ρ L :=
  TO.weak (Sub.cons h e (Sub.refl _)) Ent.refl ht
theorem TK.slot {d : Nat} {v v' : Value} (h : look d ρ = some v) (e : v = v') (ht : TK P fid n post k ((d, v') :: ρ) L) : TK P fid n post k ρ L :=
  TK.weak (Sub.cons h e (Sub.refl _)) Ent.refl ht

/-- append where there is room: the block is written -/
theorem TO.appendFit {x y : Operand} {t t' e sz by_ m m' s2 cap b off : Nat} {cs cs' new : List Value} {yv : Value} [ht : TSl P t e sz by_] [hni' : TNI P t']
    (hw : wants ops ρ g = some true) (hd : Nat.blt d n = true) (hx : ev ρ x = some (.slice (some ⟨b, off, none⟩) m cap)) (hy : ev ρ y = some yv)
    (hp : Pick L (blk b e cs) r) (hs : Src P L sz m' yv new) (h1 : ∀ v ∈ new, v.oneCell' = true) (hfit : m + m' ≤ cap) (hv : PutAt cs (off + m * sz) new cs') (hs2 : m + m' = s2)
    (h : TO P fid n post ops rest sf k ((d, .slice (some ⟨b, off, none⟩) s2 cap) :: ρ) (blk b e cs' :: r)) :
    TO P fid n post ops (⟨some d, .call ⟨.builtin .append, [x, y].toArray, [t, t'].toArray⟩, ty, pos, af, g⟩ :: rest) sf k ρ L :=
  TO.val hw hd fun w0 F act w gr st => by
    subst hs2
    obtain ⟨hnl, hsr⟩ := hs
    obtain ⟨hsr1, hsr2⟩ := hsr w0 F w st
    obtain ⟨dt, hdt, hni⟩ := hni'.und
    have hzero : (underlying t').run P w = .ok dt w := run_und hdt w
    have hnm : (dt matches .int _) = false := by
      cases dt <;> first | rfl | exact absurd rfl (hni _)
    obtain ⟨w', hr, st'⟩ := Sat.stores (P := P) new cs (off + m * sz) 0 L r w st hp h1 (by simpa using hv.1)
    have ha : (⟨b, off, Option.none⟩ : Addr).add (m * sz) = ⟨b, off + m * sz, Option.none⟩ := by
      unfold Addr.add; split <;> simp_all
    refine ⟨.slice (some ⟨b, off, Option.none⟩) (m + m') cap, blk b e cs' :: r, w', ?_, ?_, h⟩
    · simp [execOp, resolve, invoke, builtin, gr.eval hx, gr.eval hy, Builtin.append_, run_und ht.und, ht.size, hzero, hnm, hsr1, hsr2, hfit, ha, hr]
    · have := hv.2
      simp only [Nat.add_zero] at st'
      rw [← this] at st'
      exact st'

/-- clear of a slice -/
theorem TO.clear {x : Operand} {t e sz by_ m cap b off : Nat} {cs cs' : List Value} {z : Value} [ht : TSl P t e sz by_] [hz : TZe P e z]
    (hw : wants ops ρ g = some true) (hx : ev ρ x = some (.slice (some ⟨b, off, none⟩) m cap)) (hzs : z.cells.size = sz) (h1 : ∀ v ∈ z.cells.toList, v.oneCell' = true)
    (hp : Pick L (blk b e cs) r) (hv : PutAt cs off (zeros z.cells.toList m) cs')
    (h : TO P fid n post ops rest sf k ρ (blk b e cs' :: r)) :
    TO P fid n post ops (⟨none, .call ⟨.builtin .clear, [x].toArray, [t].toArray⟩, ty, pos, af, g⟩ :: rest) sf k ρ L := by
  have hz1 : ∀ m, ∀ v ∈ zeros z.cells.toList m, v.oneCell' = true := by
    intro m
    induction m with
    | zero => simp [zeros]
    | succ m ih => intro v hv; simp only [zeros, List.mem_append] at hv; rcases hv with hv | hv; exact h1 v hv; exact ih v hv
  refine TO.val (o := ⟨none, .call ⟨.builtin .clear, [x].toArray, [t].toArray⟩, ty, pos, af, g⟩) hw rfl fun w0 F act w gr st => ?_
  obtain ⟨w', hr, st'⟩ := Sat.stores (P := P) (zeros z.cells.toList m) cs off 0 L r w st hp (hz1 m) (by simpa using hv.1)
  have e2 : (Builtin.zeroCells z.cells m).toList = zeros z.cells.toList m := by
    have := zeros_eq z m
    unfold Builtin.zeroCells
    rw [this]
  refine ⟨.tuple #[], blk b e cs' :: r, w', ?_, ?_, h⟩
  · cases m with
    | zero =>
      simp only [zeros, storeCells] at hr
      simp at hr
      subst hr
      simp [execOp, resolve, invoke, builtin, gr.eval hx, Builtin.clear_, run_und ht.und]
    | succ m =>
      simp [execOp, resolve, invoke, builtin, gr.eval hx, Builtin.clear_, run_und ht.und, hz.run, e2, hr]
  · have := hv.2
    simp only [Nat.add_zero] at st'
    rw [← this] at st'
    exact st'

/-! bytes and strings -/
def byteV (b : UInt8) : Value := .int .u8 b.toNat
theorem nth_bytes {bs : List UInt8} {ex : List Value} {i : Nat} (h : i < bs.length) : nth (bs.map byteV ++ ex) i = some (byteV bs[i]) := by
  rw [nth_eq, List.getElem?_append_left (by simpa using h)]
  simp [h]
theorem put_byte {bs : List UInt8} {ex : List Value} {i : Nat} (h : i < bs.length) (c : UInt8) : PutAt (bs.map byteV ++ ex) i [byteV c] ((bs.set i c).map byteV ++ ex) := by
  refine PutAt.intro (by simp; omega) ?_
  have hl : i < (bs.map byteV).length := by simpa using h
  rw [List.take_append_of_le_length (by omega), List.drop_append_of_le_length (by simp; omega), ← List.append_assoc]
  congr 1
  rw [List.map_set, List.set_eq_take_append_cons_drop, if_pos hl]
  simp
def flipB (b : UInt8) (r : Nat) : UInt8 := b ^^^ UInt8.ofNat (2 ^ r)
theorem wrap_u8_toNat (c : UInt8) : IntKind.u8.wrap (c.toNat : Int) = c.toNat := wrap_u8 ⟨by omega, by have := c.toNat_lt; omega⟩
theorem xorI_u8 (b c : UInt8) : xorI .u8 b.toNat c.toNat = ((b ^^^ c).toNat : Int) := by
  have h : ∀ x : UInt8, BitVec.ofInt IntKind.u8.bits (x.toNat : Int) = x.toBitVec := by
    intro x
    apply BitVec.eq_of_toNat_eq
    have := x.toNat_lt
    simp [IntKind.bits, BitVec.toNat_ofInt]
  unfold xorI
  rw [h, h]
  exact wrap_u8_toNat (b ^^^ c)
theorem shlI_one {r : Nat} (h : r < 8) : shlI .u8 1 (r : Int) = ((UInt8.ofNat (2 ^ r)).toNat : Int) := by
  have : r = 0 ∨ r = 1 ∨ r = 2 ∨ r = 3 ∨ r = 4 ∨ r = 5 ∨ r = 6 ∨ r = 7 := by omega
  rcases this with rfl | rfl | rfl | rfl | rfl | rfl | rfl | rfl <;> decide
theorem flip_u8 (b : UInt8) {q : Nat} : xorI .u8 b.toNat (shlI .u8 1 ((q : Int) % 8)) = ((flipB b (q % 8)).toNat : Int) := by
  rw [show (q : Int) % 8 = ((q % 8 : Nat) : Int) from by omega, shlI_one (by omega), xorI_u8]
  rfl
def strOf (bs : List UInt8) : ByteArray := ⟨bs.toArray⟩
theorem strOf_toList (bs : List UInt8) : (strOf bs).toList = bs := by
  rw [ByteArray.toList_eq]
  simp [strOf]
theorem foldl_push (bs : List UInt8) : ∀ (s : ByteArray), ((bs.map fun b => (b.toNat : Int)).foldl (fun (r : ByteArray) n => r.push (UInt8.ofNat n.toNat)) s) = ⟨s.data ++ bs.toArray⟩ := by
  induction bs with
  | nil => intro s; simp
  | cons b bs ih =>
    intro s
    simp only [List.map_cons, List.foldl_cons, ih]
    congr 1
    apply Array.ext'
    simp [ByteArray.push]

theorem TO.bytesToStr {x : Operand} {s t m cap e by_ : Nat} {p : Option Addr} {bs : List UInt8} [hs' : TSl P s e 1 by_] (hu : P.underlying t = some .string) (hu8 : P.underlying e = some (.int .u8)) (hw : wants ops ρ g = some true) (hd : Nat.blt d n = true)
    (hx : ev ρ x = some (.slice p m cap)) (hs : Src P L 1 m (.slice p m cap) (bs.map byteV))
    (h : TO P fid n post ops rest sf k ((d, .string (strOf bs)) :: ρ) L) : TO P fid n post ops (⟨some d, .convert s t x, ty, pos, af, g⟩ :: rest) sf k ρ L :=
  TO.val hw hd fun w0 F a w gr st => by
    refine ⟨.string (strOf bs), L, w, ?_, st, h⟩
    obtain ⟨hl, hr⟩ := hs
    obtain ⟨h1, h2⟩ := hr w0 F w st
    have hc : (Conv.bytesToString (.slice p m cap)).run P w = .ok (.string (strOf bs)) w := by
      cases p with
      | none =>
        have : bs = [] := by
          simp [Builtin.firstCells] at h1
          first | exact h1 | exact h1.symm
        subst this
        rfl
      | some q =>
        have h3 : (loadCells q m).run P w = .ok ((bs.map fun b => (b.toNat : Int)).map (Value.int .u8)).toArray w := by
          simp only [Builtin.firstCells, Nat.mul_one] at h1
          rw [h1]
          simp [byteV, Function.comp_def]
        rw [run_bytesToString w q m cap _ h3, foldl_push]
        simp [strOf, ByteArray.empty, ByteArray.emptyWithCapacity]
        try rfl
    simp only [execOp, gr.eval hx, Sem.run_bind, run_convert_bytes_string w s t e p m cap hs'.und hu8 hu, hc, Result.andThen_ok, Sem.run_pure]

theorem PV.eqStr {dst : Option Nat} {x y : Operand} {a b : ByteArray} {t u : TypeId} (hx : ev ρ x = some (.string a)) (hy : ev ρ y = some (.string b)) :
    PV P n ρ ⟨dst, .binOp .eql t x y u, ty, pos, af, g⟩ (.bool (decide (a.toList = b.toList))) := fun a' w gr => by
  simp [execOp, eqGuard, binOp, gr.eval hx, gr.eval hy, Op.stringOp]
  by_cases h : a.toList = b.toList <;> simp [h]
end
/-- a chunk in which the bytes of a slice may be read -/
def Rd (X : HProp) (a : Option Addr) (cap : Nat) (bs : List UInt8) : Prop :=
  (a = none → bs = []) ∧ ∀ (P : Program) (L r : List HProp), Pick L X r → Src P L 1 bs.length (.slice a bs.length cap) (bs.map byteV)
theorem Rd.src {P : Program} {L r : List HProp} {X : HProp} {a : Option Addr} {cap m : Nat} {bs : List UInt8} (h : Rd X a cap bs) (hm : m = bs.length) (k : Pick L X r) : Src P L 1 m (.slice a m cap) (bs.map byteV) := by
  subst hm
  exact h.2 P L r k
theorem Rd.orig {v : World} {a : Option Addr} {cap : Nat} {bs : List UInt8} (h0 : a = none → bs = [])
    (h : ∀ b off, a = some ⟨b, off, none⟩ → ∀ (j : Nat) (x : UInt8), bs[j]? = some x → v.cell? ⟨b, off + j, none⟩ = some (byteV x)) (hz : ∀ q, a = some q → q.spot = none) : Rd (orig v) a cap bs := by
  refine ⟨h0, fun P L r k => ?_⟩
  cases a with
  | none => rw [h0 rfl]; exact Src.nil
  | some q =>
    obtain ⟨b, off, z⟩ := q
    have := hz _ rfl
    simp only at this
    subst this
    refine Src.orig k (by simp) fun j x hj => ?_
    rw [List.getElem?_map] at hj
    cases hb : bs[j]? with
    | none => simp [hb] at hj
    | some y => simp [hb] at hj; subst hj; exact h b off rfl j y hb
end SL
