/-
  Contracts and rules for what the last text proves.
-/
import Derived.Test.YtkkibkdjkmghiaaGreatDoorPk4
import Derived.RangeFuncRecord
section
set_option linter.unusedVariables false
set_option linter.unusedSimpArgs false
namespace SL
open Go
section
variable {P : Program} {fid : Fm} {n : Nat} {post : Post} {k : List Item} {ρ : Env} {L L' r : List HProp} {ops rest : List Oper} {ty : TypeId} {pos : String} {af : Array Edge} {g : Option (Nat × Bool)} {sf : Option (List Bool × List HProp)}
theorem TK.bk {i : Nat} {c : Code} (h : TK P fid n post (.code (.block i c) :: k) ρ L) : TK P fid n post (.code (.block i c) :: k) ρ L := h
theorem TK.atR {id : Nat} {o : Array Oper} {dr : Bool} {y : Code} (h : TK P fid n post (.code (.seq (.region id o dr) y) :: k) ρ L) : TK P fid n post (.code (.seq (.region id o dr) y) :: k) ρ L := h
theorem TK.rf {x : Operand} {ps : Array Tmp} {a b : Code} (h : TK P fid n post (.code (.rangeFunc x ps a b) :: k) ρ L) : TK P fid n post (.code (.rangeFunc x ps a b) :: k) ρ L := h
end
theorem own_of_blk {e sz b n cap : Nat} {cs extra : List Value} (h1 : cs.length = n * sz) (h2 : (cs ++ extra).length = cap * sz) (h3 : n ≤ cap) :
    ∀ h, seps [blk b e (cs ++ extra)] h → own e sz (some ⟨b, 0, none⟩) n cap cs h := fun h x => own_blk h1 h2 h3 (sep_emp.1 (sep_comm x))
section
variable {w0 w : World} {F : HProp}
def RdA (X : HProp) (q : Addr) (vs : List Value) : Prop := ∀ (w0 : World) (L r : List HProp) (F : HProp) (w : World), Sat w0 L F w → Pick L X r → ∀ (j : Nat) (v : Value), vs[j]? = some v → w.cell? (q.add j) = some v
theorem RdA.orig {W : World} {q : Addr} {vs : List Value} (h : ∀ (j : Nat) (v : Value), vs[j]? = some v → W.cell? (q.add j) = some v) : RdA (SL.orig W) q vs := fun w0 L r F w s k j v hj => s.cellO k (h j v hj)
theorem RdA.blk {b T off : Nat} {cs vs : List Value} (h : Cut cs off vs.length vs) : RdA (SL.blk b T cs) ⟨b, off, none⟩ vs := fun w0 L r F w s k j v hj => by
  have e : (⟨b, off, none⟩ : Addr).add j = ⟨b, off + j, none⟩ := by unfold Addr.add; split <;> simp_all
  rw [e]
  exact s.cell k (h.2 j v hj)
theorem RdA.own {e sz b n cap off : Nat} {cs vs : List Value} (h : Cut cs off vs.length vs) : RdA (SL.own e sz (some ⟨b, 0, none⟩) n cap cs) ⟨b, off, none⟩ vs := fun w0 L r F w s k j v hj => by
  rcases s.owned (P := default) k with ⟨h1, _⟩ | ⟨b', extra, h1, h2, h3, h4, s'⟩
  · cases h1
  · cases h1
    have e : (⟨b, off, none⟩ : Addr).add j = ⟨b, off + j, none⟩ := by unfold Addr.add; split <;> simp_all
    rw [e]
    have := h.2 j v hj
    have hlt := (List.getElem?_eq_some_iff.1 this).1
    exact s'.cell Pick.head (by rw [List.getElem?_append_left hlt]; exact this)
variable {P : Program} {fid : Fm} {n : Nat} {post : Post} {k : List Item} {ρ ρ' : Env} {ops rest : List Oper} {g : Option (Nat × Bool)} {ty : TypeId} {pos : String} {af : Array Edge} {d : Nat} {sf : Option (List Bool × List HProp)} {L L' r : List HProp}
theorem W.loadX {X : HProp} {x : Operand} {t : Nat} {q : Addr} {v : Value} {vs : List Value} [ht : TSc P t] (hX : RdA X q vs) (hv : vs[0]? = some v) (h : TO P fid n post ops rest sf k ((d, v) :: ρ) L)
    (hw : wants ops ρ g = some true := by rfl) (hd : Nat.blt d n = true := by rfl) (hx : ev ρ x = some (.pointer (some q)) := by rfl) (hp : Pick L X r := by first | ((repeat (first | exact SL.Pick.head | apply SL.Pick.tail)); done) | fail) :
    TO P fid n post ops (⟨some d, .load t x, ty, pos, af, g⟩ :: rest) sf k ρ L :=
  TO.val hw hd fun w0 F a w gr st => ⟨v, L, w, by
    have hc := hX _ _ _ _ _ st hp 0 v hv
    have e : q.add 0 = q := by simp [Addr.add]
    rw [e] at hc
    simp [execOp, gr.eval hx, Instr.loadAt, Instr.sureAddr, loadVar, (ht.run w).1, hc], st, h⟩
theorem W.loadXA {X : HProp} {x : Operand} {t sz : Nat} {q : Addr} {vs : List Value} [ht : TAg P t sz] (hX : RdA X q vs) (hl : vs.length = sz) (h : TO P fid n post ops rest sf k ((d, .agg vs.toArray) :: ρ) L)
    (hw : wants ops ρ g = some true := by rfl) (hd : Nat.blt d n = true := by rfl) (hx : ev ρ x = some (.pointer (some q)) := by rfl) (hp : Pick L X r := by first | ((repeat (first | exact SL.Pick.head | apply SL.Pick.tail)); done) | fail) :
    TO P fid n post ops (⟨some d, .load t x, ty, pos, af, g⟩ :: rest) sf k ρ L :=
  TO.val hw hd fun w0 F a w gr st => ⟨.agg vs.toArray, L, w, by
    have hc : (loadCells q vs.length).run P w = .ok vs.toArray w := run_loadCells_list w q vs fun j v hj => hX _ _ _ _ _ st hp j v hj
    subst hl
    simp [execOp, gr.eval hx, Instr.loadAt, Instr.sureAddr, loadVar, (ht.run w).1, (ht.run w).2, hc], st, h⟩
end
section
variable {P : Program} {fid : Fm} {n : Nat} {post : Post} {k : List Item} {ρ : Env} {L L' r : List HProp}
def mk (b : Nat) : HProp := pt b (.deferred (some []))
def RK (P : Program) (fid : Fm) (n : Nat) (post : Post) (ρ : Env) (L : List HProp) : Prop :=
  ∀ (w0 : World) (F : HProp) (a : Act) (w : World) (k : List Item) (cs : List Frame), Agree n ρ a → Sat w0 L F w →
    ∃ v w' L', post v L' ∧ Sat w0 L' F w' ∧ ∃ fr, Steps P (lone { fid.at a k with mode := .returning } cs w) (lone fr cs w') ∧ fr.fn = fid.fn ∧ fr.leaving P w' (.returned v)
theorem RK.done {f : Nat} {fn : Func} {v : Value} (hf : P.funcs[f]? = some fn) (hr : Res P n ρ L fn v) (hp : post v L') (he : EntD L L') : RK P ⟨f, none, []⟩ n post ρ L := by
  intro w0 F a w k cs g st
  exact ⟨v, w, L', hp, he w0 F w st, { (⟨f, none, []⟩ : Fm).at a k with mode := .returning }, Steps.refl _ _, rfl, rfl, rfl, rfl, fn, hf, hr w0 F a w g st⟩
theorem RK.mark {f m : Nat} {ms : List Nat} (hp : Pick L (mk m) r) (h : RK P ⟨f, none, ms⟩ n post ρ r) : RK P ⟨f, none, m :: ms⟩ n post ρ L := by
  intro w0 F a w k cs g st
  have hm := st.read hp
  have st2 := (st.write hp (o' := .deferred none)).drop Pick.head
  obtain ⟨v, w', L', h1, h2, fr, h3, h4, h5⟩ := h w0 F a _ k cs g st2
  refine ⟨v, w', L', h1, h2, fr, .head ?_ h3, h4, h5⟩
  refine step_lone_go ?_
  have e := run_takeDeferred (P := P) hm
  simp only [stepG, unwind, Fm.at, List.map_cons, mkD]
  simp [Sem.runT_eq, e, World.putObj]
theorem TK.retR {f : Nat} {ms : List Nat} (h : RK P ⟨f, none, ms⟩ n post ρ L) : TK P ⟨f, none, ms⟩ n post (.code .ret :: k) ρ L := by
  intro w0 F a w cs g st
  obtain ⟨v, w', L', h1, h2, fr, h3, h4, h5⟩ := h w0 F a w (.code .ret :: k) cs g st
  exact ⟨v, w', L', h1, h2, fr, .head (stepR_ret (b := (⟨f, none, ms⟩ : Fm).frame) (a := (⟨f, none, ms⟩ : Fm).act a) rfl) h3, h4, h5⟩
def lpr (l : Nat) (st : LoopState) (pd : Option Code) (fn : Nat) (tmps : Array Value) (ps : Array Tmp) (as bd : Code) (df : Nat) : HProp := pt l (.loop ⟨st, pd, fn, tmps, ps, as, bd, df⟩)
theorem TK.rangeFunc {f fx : Nat} {ms : List Nat} {x : Operand} {ps : Array Tmp} {as bd : Code} {first cap : List Value} {args : Value → List Value}
    (hg : ev ρ x = some (.func (.func fx) first.toArray cap.toArray)) (ha : args = fun y => first ++ [y] ++ cap)
    (h : ∀ (l m : Nat) (tmps : Array Value), Agree n ρ ⟨tmps, []⟩ → ∃ pre rst post', EntD (lpr l .ready none f tmps ps as bd m :: mk m :: L) (pre ++ rst) ∧ Spec P fx (args (.func (.yield l) #[] #[])) pre post' ∧
      ∀ v L', post' v L' → TK P ⟨f, none, m :: ms⟩ n post (.endRangeFunc l :: k) ρ (L' ++ rst)) :
    TK P ⟨f, none, ms⟩ n post (.code (.rangeFunc x ps as bd) :: k) ρ L := by
  intro w0 F a w cs g st
  subst ha
  have st1 := (st.new (o := .deferred (some []))).new (o := .loop ⟨.ready, none, f, a.tmps, ps, as, bd, w.heap.size⟩)
  have e1 : (w.heap.push (.deferred (some []))).size = w.heap.size + 1 := by simp
  simp only [e1] at st1
  have g0 : Agree n ρ ⟨a.tmps, []⟩ := ⟨rfl, g.size, g.at_⟩
  obtain ⟨pre, rst, post', he, hs, hk⟩ := h (w.heap.size + 1) w.heap.size a.tmps g0
  have st2 := he w0 F _ st1
  have st3 : Sat w0 pre (sep (seps rst) F) _ := st2.frame (fun h a => seps_append.1 a)
  have henter := run_enterLoop_outer (P := P) (w := w) f a.tmps ps as bd
  have hres : (resolve ((⟨f, none, ms⟩ : Fm).act a).eval (rangeCall x (w.heap.size + 1)) 0).run P ((w.alloc (.deferred (some []))).alloc (.loop ⟨.ready, none, f, a.tmps, ps, as, bd, w.heap.size⟩)) =
      .ok { target := .fn (.func fx) cap.toArray, args := first.toArray ++ #[.func (.yield (w.heap.size + 1)) #[] #[]] } ((w.alloc (.deferred (some []))).alloc (.loop ⟨.ready, none, f, a.tmps, ps, as, bd, w.heap.size⟩)) := by
    have ex := g.eval hg
    rw [Fm.eval]
    have ec : a.eval (.const (.func (.yield (w.heap.size + 1)) #[] #[])) = .func (.yield (w.heap.size + 1)) #[] #[] := rfl
    simp [resolve, rangeCall, Sem.run_bind, ex, ec, Deferred.ofValue, Result.andThen]
  have hinv : (invoke (.fn (.func fx) cap.toArray) (first.toArray ++ #[.func (.yield (w.heap.size + 1)) #[] #[]])).run P ((w.alloc (.deferred (some []))).alloc (.loop ⟨.ready, none, f, a.tmps, ps, as, bd, w.heap.size⟩)) =
      .ok (.enter fx (first ++ [Value.func (.yield (w.heap.size + 1)) #[] #[]] ++ cap).toArray) ((w.alloc (.deferred (some []))).alloc (.loop ⟨.ready, none, f, a.tmps, ps, as, bd, w.heap.size⟩)) := by
    simp only [invoke]
    rw [hs.callable]
    simp
  have hstep := stepR_rangeFunc (b := (⟨f, none, ms⟩ : Fm).frame) (a := (⟨f, none, ms⟩ : Fm).act a) (k := k) (cs := cs) (ps := ps) (assign := as) (body := bd) (by exact henter) hres hinv
  obtain ⟨e, w3, fr, ⟨v, L3, rfl, hp3, s3⟩, hsteps, _, hleave⟩ := hs.runs w0 (sep (seps rst) F) _ st3 ((⟨f, none, w.heap.size :: ms⟩ : Fm).at a (.inRangeFunc (w.heap.size + 1) :: k) :: cs)
  obtain ⟨v2, w4, L4, hp4, s4, he4⟩ := hk v L3 hp3 w0 F a w3 cs g s3.unframe
  refine ⟨v2, w4, L4, hp4, s4, ?_⟩
  have hback : Go.step P (lone fr ((⟨f, none, w.heap.size :: ms⟩ : Fm).at a (.inRangeFunc (w.heap.size + 1) :: k) :: cs) w3) = Stepped.next (lone ((⟨f, none, w.heap.size :: ms⟩ : Fm).at a (.endRangeFunc (w.heap.size + 1) :: k)) cs w3) := by
    have := step_leave_returned (c := (⟨f, none, w.heap.size :: ms⟩ : Fm).at a (.inRangeFunc (w.heap.size + 1) :: k)) (cs := cs) hleave
    rw [this, Fm.at_eq, finish_atR_inRangeFunc]
    rfl
  exact Ends.of_steps (fm := ⟨f, none, ms⟩) (.head hstep (Steps.trans hsteps (.one hback))) he4
theorem TK.endRange {l : Nat} {st : LoopState} {f : Nat} {tmps : Array Value} {ps : Array Tmp} {as bd : Code} {df : Nat} (hp : Pick L (lpr l st none f tmps ps as bd df) r) (hs : st ≠ .busy)
    (h : TK P fid n post k ρ r) : TK P fid n post (.endRangeFunc l :: k) ρ L := by
  intro w0 F a w cs g st'
  have hm := st'.read hp
  have st2 := (st'.write hp (o' := .loop ⟨.exhausted, none, f, tmps, ps, as, bd, df⟩)).drop Pick.head
  obtain ⟨v, w', L', h1, h2, h3⟩ := h w0 F a _ cs g st2
  refine ⟨v, w', L', h1, h2, h3.of_steps (.one ?_)⟩
  have := stepR_endRangeFunc (b := fid.frame) (a := fid.act a) (k := k) (cs := cs) (run_endLoop (P := P) hm (by exact hs))
  exact this
structure Yld (P : Program) (l : Nat) (args : List Value) (pre : List HProp) (post : Post) : Prop where
  run : ∀ (w0 : World) (F : HProp) (w : World), Sat w0 pre F w → ∃ f tmps as bd, (Instr.yield l args.toArray).run P w = .ok (.round l f tmps as bd) w ∧ Rnds P l f tmps as bd w fun v w' => ∃ L', post v L' ∧ Sat w0 L' F w'
theorem Yld.mono {l : Nat} {args : List Value} {pre : List HProp} {post post' : Post} (h : Yld P l args pre post) (hp : ∀ v L, post v L → ∃ L', post' v L' ∧ EntD L L') : Yld P l args pre post' :=
  ⟨fun w0 F w s => let ⟨f, tmps, as, bd, h1, h2⟩ := h.run w0 F w s; ⟨f, tmps, as, bd, h1, h2.mono fun v w' ⟨L1, a, b⟩ => let ⟨L2, c, d⟩ := hp v L1 a; ⟨L2, c, d w0 F w' b⟩⟩⟩
theorem Yld.preD {l : Nat} {args : List Value} {pre pre' : List HProp} {post : Post} (h : Yld P l args pre post) (e : EntD pre' pre) : Yld P l args pre' post :=
  ⟨fun w0 F w s => h.run w0 F w (e w0 F w s)⟩
theorem Yld.openEx {α : Type} {l : Nat} {args : List Value} {pre : List HProp} {pre' : α → List HProp} {post : Post} (e : ∀ h, seps pre h → ∃ x, seps (pre' x) h) (h : ∀ x, Yld P l args (pre' x) post) : Yld P l args pre post :=
  ⟨fun w0 F w s => by
    obtain ⟨hp, hs, h1, h2, d, rfl, x, y⟩ := s.heap
    obtain ⟨z, hz⟩ := e h1 x
    exact (h z).run w0 F w ⟨s.os, s.tape, s.out, _, hs, h1, h2, d, rfl, hz, y⟩⟩
def parE : List (Nat × Value) → Env → Env
  | [], ρ => ρ
  | p :: z, ρ => parE z (p :: ρ)
theorem agree_par {n : Nat} : ∀ (z : List (Nat × Value)) {ρ : Env} {tmps : Array Value}, Agree n ρ ⟨tmps, []⟩ → (z.all fun p => Nat.blt p.1 n) = true →
    Agree n (parE z ρ) ⟨z.foldl (fun (tmps : Array Value) p => tmps.setIfInBounds p.1 p.2) tmps, []⟩
  | [], _, _, g, _ => g
  | p :: z, _, tmps, g, h => by
    simp only [List.all_cons, Bool.and_eq_true] at h
    exact agree_par z (g.put h.1 p.2) h.2
theorem Yld.of_TK {l : Nat} {args : List Value} {pre rest : List HProp} {post : Post} {f n m : Nat} {tmps : Array Value} {ps : List Tmp} {as bd : Code} {ρ ρ' : Env}
    (hp : Pick pre (lpr l .ready none f tmps ps.toArray as bd m) rest) (hl : args.length = ps.length) (hg : Agree n ρ ⟨tmps, []⟩) (hn : ((ps.zip args).all fun p => Nat.blt p.1 n) = true) (hρ : parE (ps.zip args) ρ = ρ')
    (h : TK P ⟨f, some l, []⟩ n post [.code as, .beginRound, .code bd] ρ' pre) : Yld P l args pre post := by
  refine ⟨fun w0 F w s => ?_⟩
  have hm := s.read hp
  have hy := run_yield (P := P) (args := args.toArray) hm (by simpa using hl)
  refine ⟨_, _, _, _, hy, fun c cs => ?_⟩
  have g1 := agree_par (ps.zip args) hg hn
  rw [hρ] at g1
  have e : (((ps.toArray).zip args.toArray).foldl (fun (tmps : Array Value) (x : Tmp × Value) => match x with | (t, a) => tmps.setIfInBounds t a) tmps) = (ps.zip args).foldl (fun (tmps : Array Value) p => tmps.setIfInBounds p.1 p.2) tmps := by
    rw [List.zip_toArray, List.foldl_toArray]
  obtain ⟨v, w', L', h1, h2, h3⟩ := h w0 F _ w (c :: cs) g1 s
  refine ⟨v, w', ⟨L', h1, h2⟩, ?_⟩
  have := h3 c cs rfl
  simp only [e]
  exact this
theorem TK.beginRound {f l m : Nat} {tmps : Array Value} {ps : Array Tmp} {as bd : Code} {fn : Nat} (hp : Pick L (lpr l .ready none fn tmps ps as bd m) r) (h : TK P ⟨f, some l, []⟩ n post k ρ (lpr l .busy none fn tmps ps as bd m :: r)) :
    TK P ⟨f, some l, []⟩ n post (.beginRound :: k) ρ L := by
  intro w0 F a w cs g st
  have hm := st.read hp
  have st2 := st.write hp (o' := .loop ⟨.busy, none, fn, tmps, ps, as, bd, m⟩)
  obtain ⟨v, w', L', h1, h2, h3⟩ := h w0 F a _ cs g st2
  exact ⟨v, w', L', h1, h2, h3.of_steps (.one (stepR_beginRound (b := (⟨f, some l, []⟩ : Fm).frame) (a := (⟨f, some l, []⟩ : Fm).act a) rfl (run_beginRound (P := P) hm rfl)))⟩
theorem TK.endRound {f l m : Nat} {tmps : Array Value} {ps : Array Tmp} {as bd : Code} {fn : Nat} {st : LoopState} {pd : Option Code} (hp : Pick L (lpr l st pd fn tmps ps as bd m) r) (hq : post (.bool true) L') (he : EntD (lpr l .ready none fn tmps ps as bd m :: r) L') :
    TK P ⟨f, some l, []⟩ n post [] ρ L := by
  intro w0 F a w cs g s
  have hm := s.read hp
  have st2 := s.write hp (o' := .loop ⟨.ready, none, fn, tmps, ps, as, bd, m⟩)
  refine ⟨.bool true, _, L', hq, he w0 F _ st2, ?_⟩
  rintro c cs' rfl
  exact .one (stepR_round_end (b := (⟨f, some l, []⟩ : Fm).frame) (a := (⟨f, some l, []⟩ : Fm).act a) rfl rfl (run_endRound (P := P) none hm))
theorem TK.retRound {f l m : Nat} {tmps : Array Value} {ps : Array Tmp} {as bd : Code} {fn : Nat} {st : LoopState} {pd : Option Code} (hp : Pick L (lpr l st pd fn tmps ps as bd m) r) (hq : post (.bool false) L') (he : EntD (lpr l .done (some .ret) fn tmps ps as bd m :: r) L') :
    TK P ⟨f, some l, []⟩ n post (.code .ret :: k) ρ L := by
  intro w0 F a w cs g s
  have hm := s.read hp
  have st2 := s.write hp (o' := .loop ⟨.done, some .ret, fn, tmps, ps, as, bd, m⟩)
  refine ⟨.bool false, _, L', hq, he w0 F _ st2, ?_⟩
  rintro c cs' rfl
  exact .one (stepR_round_ret (b := (⟨f, some l, []⟩ : Fm).frame) (a := (⟨f, some l, []⟩ : Fm).act a) rfl rfl (run_endRound (P := P) (some .ret) hm))
theorem TK.endRangeJump {l : Nat} {st : LoopState} {f : Nat} {tmps : Array Value} {ps : Array Tmp} {as bd c : Code} {df : Nat} (hp : Pick L (lpr l st (some c) f tmps ps as bd df) r) (hs : st ≠ .busy)
    (h : TK P fid n post (.code c :: k) ρ r) : TK P fid n post (.endRangeFunc l :: k) ρ L := by
  intro w0 F a w cs g st'
  have hm := st'.read hp
  have st2 := (st'.write hp (o' := .loop ⟨.exhausted, some c, f, tmps, ps, as, bd, df⟩)).drop Pick.head
  obtain ⟨v, w', L', h1, h2, h3⟩ := h w0 F a _ cs g st2
  refine ⟨v, w', L', h1, h2, h3.of_steps (.one ?_)⟩
  have := stepR_endRangeFunc (b := fid.frame) (a := fid.act a) (k := k) (cs := cs) (run_endLoop (P := P) hm (by exact hs))
  exact this
end
section
variable {P : Program} {fid : Fm} {n : Nat} {post : Post} {k : List Item} {ρ : Env} {L L' r : List HProp} {ops rest : List Oper} {ty : TypeId} {pos : String} {af : Array Edge} {sf : Option (List Bool × List HProp)}
theorem TO.callYield {dst : Option Nat} {l : Nat} {fv : Operand} {xs : List Operand} {tys : Array TypeId} {g : Option (Nat × Bool)}
    {vs : List Value} {pre rst : List HProp} {post' : Post} (hs : Yld P l vs pre post') (hfv : ev ρ fv = some (.func (.yield l) #[] #[]))
    (hw : wants ops ρ g = some true) (hd : dstOk n dst = true) (he : EvAll ρ xs vs) (hfr : Frm L pre rst) (h : ∀ v L', post' v L' → TO P fid n post ops rest sf k (putE dst v ρ) (L' ++ rst)) :
    TO P fid n post ops (⟨dst, .call ⟨.value fv, xs.toArray, tys⟩, ty, pos, af, g⟩ :: rest) sf k ρ L := by
  intro w0 F a w is s gr st hi hsf
  obtain ⟨i, is', rfl, ho, hi'⟩ := idx_cons hi
  obtain ⟨f, tmps, as, bd, hy, hr⟩ := hs.run w0 (sep (seps rst) (frF sf F)) w (st.frame hfr)
  have hrun : (execOp a.eval (⟨dst, .call ⟨.value fv, xs.toArray, tys⟩, ty, pos, af, g⟩ : Oper)).run P w = .ok (.round l f tmps as bd) w := by
    have e1 := gr.eval hfv
    have e2 := EvAll.map gr he
    simp only [execOp, resolve, Sem.run_bind, List.map_toArray, e1, e2, Deferred.ofValue, Sem.run_pure, Result.andThen_ok, invoke]
    simpa using hy
  have hwt := wanted_eq (o := (⟨dst, .call ⟨.value fv, xs.toArray, tys⟩, ty, pos, af, g⟩ : Oper)) gr hw
  simp only [List.cons_append, wpI, ho, hwt, if_true]
  simp only [upS, hrun]
  refine hr.mono ?_
  rintro v w1 ⟨L1, hp1, st1⟩
  exact ⟨fun _ => .inl ⟨_, st1.unframe⟩, h v L1 hp1 w0 F _ w1 is' s (gr.putE hd v) st1.unframe hi' hsf⟩
theorem W.callY {d l : Nat} {fv : Operand} {xs : List Operand} {tys : Array TypeId} {g : Option (Nat × Bool)} {vs : List Value} {pre rst : List HProp} {post' : Post} (hs : Yld P l vs pre post')
    (h : ∀ v L', post' v L' → TO P fid n post ops rest sf k ((d, v) :: ρ) (L' ++ rst)) (hfv : ev ρ fv = some (.func (.yield l) #[] #[]) := by rfl) (hw : wants ops ρ g = some true := by rfl) (hd : Nat.blt d n = true := by rfl)
    (he : EvAll ρ xs vs := by first | ((repeat (first | exact SL.EvAll.nil | (apply SL.EvAll.cons; rfl))); done) | fail) (hfr : Frm L pre rst := by first | ((repeat (first | exact SL.Frm.nil | exact SL.Frm.refl | (apply SL.Frm.cons; repeat (first | exact SL.Pick.head | apply SL.Pick.tail)))); done) | fail) : TO P fid n post ops (⟨some d, .call ⟨.value fv, xs.toArray, tys⟩, ty, pos, af, g⟩ :: rest) sf k ρ L := TO.callYield (dst := some d) hs hfv hw hd he hfr h
theorem ex_open {α : Type} {f : α → List HProp} : ∀ h, seps [SL.ex fun x => seps (f x)] h → ∃ x, seps (f x) h := by
  rintro h hh
  obtain ⟨h1, h2, d, e, ⟨x, hx⟩, he⟩ := hh
  have : h = h1 := by
    rw [e, join_comm d]
    exact emp_join he
  subst this
  exact ⟨x, hx⟩
section
variable {P : Program} {fid : Fm} {n : Nat} {post : Post} {k : List Item} {ρ : Env} {L r : List HProp} {κ : Type} {kv : κ → Value} {m : Nat} {l : List (κ × Value)}
theorem TK.mpNodup (hp : Pick L (mpI kv m l none) r) (h : (l.map (·.1)).Nodup → TK P fid n post k ρ L) : TK P fid n post k ρ L := by
  intro w0 F a w cs g st
  obtain ⟨bs, c, gd, _⟩ := st.openMp hp
  exact h gd.keys w0 F a w cs g st
end
theorem flt_lt {S : List (Int × Value)} {done : List Int} {q : Int} {v : Value} (h : (q, v) ∈ S) (hn : q ∉ done) :
    S.countP (fun p => !(q :: done).contains p.1) < S.countP (fun p => !done.contains p.1) := by
  have mono : ∀ S : List (Int × Value), S.countP (fun p => !(q :: done).contains p.1) ≤ S.countP (fun p => !done.contains p.1) := fun S =>
    List.countP_mono_left fun x _ hx => by
      simp only [List.contains_cons, Bool.not_or, Bool.and_eq_true] at hx
      exact hx.2
  induction S with
  | nil => simp at h
  | cons p S ih =>
    rw [List.countP_cons, List.countP_cons]
    rcases List.mem_cons.1 h with h | h
    · subst h
      have := mono S
      simp [hn]
      simp at this
      omega
    · have := ih h
      have h1 : (if (!(q :: done).contains p.1) = true then 1 else 0) ≤ (if (!done.contains p.1) = true then 1 else 0) := by
        by_cases hd : done.contains p.1 = true
        · have : (q :: done).contains p.1 = true := by rw [List.contains_cons, hd]; simp
          rw [hd, this]
          simp
        · have hd' : done.contains p.1 = false := by simpa using hd
          rw [hd']
          split <;> simp
      omega
theorem len_le_of {α : Type} [DecidableEq α] : ∀ {ks keys : List α}, ks.Nodup → (∀ x ∈ ks, x ∈ keys) → ks.length ≤ keys.length
  | [], _, _, _ => Nat.zero_le _
  | x :: ks, keys, h, hs => by
    have h' := List.nodup_cons.1 h
    have hx := hs x (by simp)
    have ih := len_le_of (ks := ks) (keys := keys.erase x) h'.2 fun y hy => (List.mem_erase_of_ne (fun e => h'.1 (by rw [← e]; exact hy))).2 (hs y (by simp [hy]))
    rw [List.length_erase_of_mem hx] at ih
    have := List.length_pos_of_mem hx
    simp only [List.length_cons]
    omega
theorem perm_nodup {α : Type} [DecidableEq α] : ∀ {ks keys : List α}, ks.Nodup → keys.Nodup → (∀ x, x ∈ ks ↔ x ∈ keys) → ks.Perm keys
  | [], keys, _, _, h => by
    have : keys = [] := List.eq_nil_iff_forall_not_mem.2 fun x hx => by have := (h x).2 hx; simp at this
    subst this; exact .refl _
  | x :: ks, keys, h1, h2, h => by
    have h' := List.nodup_cons.1 h1
    have hx := (h x).1 (by simp)
    have ih : ks.Perm (keys.erase x) := perm_nodup h'.2 (h2.erase x) fun y => by
      rw [h2.mem_erase_iff]
      constructor
      · intro hy; exact ⟨fun e => h'.1 (by rw [← e]; exact hy), (h y).1 (by simp [hy])⟩
      · rintro ⟨hne, hy⟩
        rcases List.mem_cons.1 ((h y).2 hy) with e | e
        · exact absurd e hne
        · exact e
    exact (ih.cons x).trans (List.perm_cons_erase hx).symm
def asOf : Code → Code
  | .rangeFunc _ _ a _ => a
  | _ => .skip
def bdOf : Code → Code
  | .rangeFunc _ _ _ b => b
  | _ => .skip
def Iter (P : Program) (f : Nat) (args : Value → List Value) {α : Type} (enc : α → List Value) (own own' : HProp) (Ok : List α → α → Prop) (Φ : List α → Prop) : Prop :=
  ∀ (l : Nat) (J : List α → HProp), (∀ done x, Ok done x → Yld P l (enc x) [J done] (fun r L => r = .bool true ∧ L = [J (done ++ [x])])) →
    Spec P f (args (.func (.yield l) #[] #[])) [own, J []] (fun r L => ∃ ks, Φ ks ∧ L = [own', J ks])
end
structure Stop (p : Prop) : Prop where
  out : p
section
variable {P : Program} {fid : Fm} {n : Nat} {post : Post} {k : List Item} {ρ ρ' : Env} {L L' : List HProp}
theorem TK.join {x y : Code} (h1 : TK P fid n post (.code y :: k) ρ' L') (h2 : TK P fid n post (.code y :: k) ρ' L' → TK P fid n post (.code (.seq x y) :: k) ρ L) : TK P fid n post (.code (.seq x y) :: k) ρ L := h2 h1
end
end SL
end
