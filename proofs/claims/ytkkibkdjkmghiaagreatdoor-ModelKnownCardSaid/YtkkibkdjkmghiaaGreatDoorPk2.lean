/-
  Contracts and rules for what the last text proves.
-/
import Derived.Test.YtkkibkdjkmghiaaGreatDoorPk1
import Derived.RangeFuncIn
section
set_option linter.unusedVariables false
namespace SL
open Go
theorem beq_ne {t d : Nat} (h : t ≠ d) : Nat.beq t d = false := by
  cases hb : Nat.beq t d
  · rfl
  · exact absurd (Nat.eq_of_beq_eq_true hb) h
abbrev Env := List (Nat × Value)
def look (t : Nat) : Env → Option Value
  | [] => none
  | (s, v) :: r => bif Nat.beq t s then some v else look t r
structure Agree (n : Nat) (ρ : Env) (a : Act) : Prop where
  defers : a.defers = []
  size : a.tmps.size = n
  at_ : ∀ t v, look t ρ = some v → a.tmps[t]? = some v
def ev (ρ : Env) : Operand → Option Value
  | .tmp t => look t ρ
  | .const v => some v
  | .global g => some (.pointer (some ⟨g, 0, none⟩))
  | .func f => some (.func (.func f) #[] #[])
theorem Agree.eval {n : Nat} {ρ : Env} {a : Act} (g : Agree n ρ a) {x : Operand} {v : Value} (h : ev ρ x = some v) : a.eval x = v := by
  cases x with
  | tmp t =>
    have := g.at_ t v h
    simp [Act.eval, Array.getD_eq_getD_getElem?, this]
  | const c => simpa [ev, Act.eval] using h
  | global b => simpa [ev, Act.eval] using h
  | func f => simpa [ev, Act.eval] using h
theorem Agree.put {n : Nat} {ρ : Env} {a : Act} (g : Agree n ρ a) {d : Nat} (hd : Nat.blt d n = true) (v : Value) : Agree n ((d, v) :: ρ) (a.put (some d) v) := by
  have hd' : d < n := by simpa using hd
  refine ⟨g.defers, by simpa [Act.put] using g.size, fun t u h => ?_⟩
  simp only [look] at h
  by_cases e : t = d
  · subst e
    simp at h
    subst h
    simp [Act.put, g.size, hd']
  · have : Nat.beq t d = false := beq_ne e
    rw [this] at h
    have := g.at_ t u (by simpa using h)
    simp only [Act.put]
    rw [Array.getElem?_setIfInBounds_ne (fun c => e c.symm)]
    exact this
def Sub (ρ ρ' : Env) : Prop := ∀ t v, look t ρ' = some v → look t ρ = some v
theorem Sub.nil {ρ : Env} : Sub ρ [] := fun t v h => by simp [look] at h
theorem Sub.cons {ρ ρ' : Env} {t : Nat} {v v' : Value} (h : look t ρ = some v') (e : v' = v) (s : Sub ρ ρ') : Sub ρ ((t, v) :: ρ') := by
  intro t' u hu
  simp only [look] at hu
  by_cases x : t' = t
  · subst x; subst e; simp at hu; subst hu; exact h
  · have : Nat.beq t' t = false := beq_ne x
    rw [this] at hu
    exact s _ _ (by simpa using hu)
theorem Sub.refl (ρ : Env) : Sub ρ ρ := fun _ _ h => h
theorem Agree.sub {n : Nat} {ρ ρ' : Env} {a : Act} (g : Agree n ρ a) (s : Sub ρ ρ') : Agree n ρ' a := ⟨g.defers, g.size, fun t v h => g.at_ t v (s t v h)⟩
abbrev Post := Value → List HProp → Prop
structure Fm where
  fn : Nat
  round : Option Nat
  marks : List Nat
instance instFm {n : Nat} : OfNat Fm n := ⟨⟨n, none, []⟩⟩
def mkD (r : Nat) : Deferred := { target := .collected r, args := #[] }
def Fm.at (fm : Fm) (a : Act) (k : List Item) : Frame := { fn := fm.fn, tmps := a.tmps, todo := k, defers := fm.marks.map mkD, mode := .run, kind := .normal, roundOf := fm.round }
def Fm.frame (fm : Fm) : Frame := { (default : Frame) with fn := fm.fn, kind := .normal, roundOf := fm.round }
def Fm.act (fm : Fm) (a : Act) : Act := ⟨a.tmps, fm.marks.map mkD⟩
theorem Fm.at_eq (fm : Fm) (a : Act) (k : List Item) : fm.at a k = fm.frame.atR (fm.act a) k := rfl
theorem Fm.eval (fm : Fm) (a : Act) : (fm.act a).eval = a.eval := by
  funext x
  cases x <;> rfl
def Ends (P : Program) (fm : Fm) (m : Machine) (cs : List Frame) (v : Value) (w' : World) : Prop := match fm.round with
  | none => ∃ fr, Steps P m (lone fr cs w') ∧ fr.fn = fm.fn ∧ fr.leaving P w' (.returned v)
  | some _ => ∀ c cs', cs = c :: cs' → Steps P m (lone (c.finish v) cs' w')
theorem Ends.of_steps {P : Program} {fm : Fm} {m m' : Machine} {cs : List Frame} {v : Value} {w' : World} (h : Steps P m m') (e : Ends P fm m' cs v w') : Ends P fm m cs v w' := by
  unfold Ends at *
  cases hr : fm.round with
  | none => simp only [hr] at e ⊢; obtain ⟨fr, a, b, c⟩ := e; exact ⟨fr, Steps.trans h a, b, c⟩
  | some l => simp only [hr] at e ⊢; exact fun c cs' hc => Steps.trans h (e c cs' hc)
def TK (P : Program) (fid : Fm) (n : Nat) (post : Post) (k : List Item) (ρ : Env) (L : List HProp) : Prop :=
  ∀ (w0 : World) (F : HProp) (a : Act) (w : World) (cs : List Frame), Agree n ρ a → Sat w0 L F w →
    ∃ v w' L', post v L' ∧ Sat w0 L' F w' ∧ Ends P fid (lone (fid.at a k) cs w) cs v w'
structure Spec (P : Program) (f : Nat) (args : List Value) (pre : List HProp) (post : Post) : Prop where
  callable : ∀ (as : Array Value) (w : World), (callFunc f as).run P w = .ok (.enter f as) w
  runs : ∀ (w0 : World) (F : HProp) (w : World), Sat w0 pre F w →
    Calls P f args.toArray w fun e w' => ∃ v L', e = .returned v ∧ post v L' ∧ Sat w0 L' F w'
section
variable {P : Program} {fid : Fm} {n : Nat} {post : Post} {k : List Item} {ρ ρ' : Env} {L L' : List HProp}
theorem TK.weak (s : Sub ρ ρ') (e : Ent L L') (h : TK P fid n post k ρ' L') : TK P fid n post k ρ L :=
  fun w0 F a w cs g st => h w0 F a w cs (g.sub s) (st.map e)
theorem TK.ent (e : Ent L L') (h : TK P fid n post k ρ L') : TK P fid n post k ρ L := TK.weak (Sub.refl _) e h
theorem TK.env (s : Sub ρ ρ') (h : TK P fid n post k ρ' L) : TK P fid n post k ρ L := TK.weak s Ent.refl h
theorem TK.openEx {α : Type} {L' : α → List HProp} (e : ∀ h, seps L h → ∃ x, seps (L' x) h) (h : ∀ x, TK P fid n post k ρ (L' x)) : TK P fid n post k ρ L := by
  intro w0 F a w cs g st
  obtain ⟨hp, hs, h1, h2, d, rfl, x, y⟩ := st.heap
  obtain ⟨z, hz⟩ := e h1 x
  exact h z w0 F a w cs g ⟨st.os, st.tape, st.out, _, hs, h1, h2, d, rfl, hz, y⟩
theorem TK.fact {φ : Prop} {r : List HProp} (hp : Pick L (SL.fact φ) r) (h : φ → TK P fid n post k ρ r) : TK P fid n post k ρ L := by
  intro w0 F a w cs g st
  have := st.pickFact hp
  exact h this.1 w0 F a w cs g this.2
theorem TK.step {k' : List Item} (hs : ∀ (b : Frame) (a' a : Act) (cs : List Frame) (w : World), Agree n ρ a → a'.eval = a.eval → step P (lone (b.atR a' k) cs w) = .next (lone (b.atR a' k') cs w))
    (h : TK P fid n post k' ρ L) : TK P fid n post k ρ L := by
  intro w0 F a w cs g st
  obtain ⟨v, w', L', hp, st', he⟩ := h w0 F a w cs g st
  exact ⟨v, w', L', hp, st', .of_steps (.one (hs fid.frame (fid.act a) a cs w g (fid.eval a))) he⟩
theorem TK.seq {x y : Code} (h : TK P fid n post (.code x :: .code y :: k) ρ L) : TK P fid n post (.code (.seq x y) :: k) ρ L := TK.step (fun _ _ _ _ _ _ _ => stepR_seq) h
theorem TK.skip (h : TK P fid n post k ρ L) : TK P fid n post (.code .skip :: k) ρ L := TK.step (fun _ _ _ _ _ _ _ => stepR_skip) h
theorem TK.label {l : Nat} (h : TK P fid n post k ρ L) : TK P fid n post (.code (.label l) :: k) ρ L := TK.step (fun _ _ _ _ _ _ _ => stepR_label) h
theorem TK.block {id : Nat} {c : Code} (h : TK P fid n post (.code c :: .inBlock id :: k) ρ L) : TK P fid n post (.code (.block id c) :: k) ρ L := TK.step (fun _ _ _ _ _ _ _ => stepR_block) h
theorem TK.inBlock {id : Nat} (h : TK P fid n post k ρ L) : TK P fid n post (.inBlock id :: k) ρ L := TK.step (fun _ _ _ _ _ _ _ => stepR_inBlock) h
theorem TK.inLoop {c : Code} (h : TK P fid n post (.code c :: .inLoop c :: k) ρ L) : TK P fid n post (.inLoop c :: k) ρ L := TK.step (fun _ _ _ _ _ _ _ => stepR_inLoop) h
theorem TK.scope {c : Code} (h : TK P fid n post (.code c :: .inScope c :: k) ρ L) : TK P fid n post (.code (.scope c) :: k) ρ L :=
  TK.step (fun b a' a cs w _ _ => step_lone_go (by simp [stepG, stepG.exec, Frame.atR])) h
theorem TK.inScope {c : Code} (h : TK P fid n post k ρ L) : TK P fid n post (.inScope c :: k) ρ L :=
  TK.step (fun b a' a cs w _ _ => step_lone_go (by simp [stepG, stepG.exec, Frame.atR])) h
theorem TK.exit {id : Nat} {k' : List Item} (he : exitTo id k = some k') (h : TK P fid n post k' ρ L) : TK P fid n post (.code (.exit id) :: k) ρ L :=
  TK.step (fun _ _ _ _ _ _ _ => stepR_exit he) h
theorem exitTo_here {id : Nat} {k : List Item} : exitTo id (.inBlock id :: k) = some k := by simp [exitTo]
theorem exitTo_code {id : Nat} {c : Code} {k k' : List Item} (h : exitTo id k = some k') : exitTo id (.code c :: k) = some k' := h
theorem exitTo_loop {id : Nat} {c : Code} {k k' : List Item} (h : exitTo id k = some k') : exitTo id (.inLoop c :: k) = some k' := h
theorem exitTo_scope {id : Nat} {c : Code} {k k' : List Item} (h : exitTo id k = some k') : exitTo id (.inScope c :: k) = some k' := h
theorem exitTo_block {id id' : Nat} {k k' : List Item} (hn : (id' == id) = false) (h : exitTo id k = some k') : exitTo id (.inBlock id' :: k) = some k' := by simp [exitTo, hn, h]
theorem TK.condT {c : Operand} {x y : Code} (hc : ev ρ c = some (.bool true)) (h : TK P fid n post (.code x :: k) ρ L) : TK P fid n post (.code (.cond c x y) :: k) ρ L :=
  TK.step (k' := .code x :: k) (fun b a' a cs w g e => stepR_cond (t := true) (by rw [e]; exact g.eval hc)) h
theorem TK.condF {c : Operand} {x y : Code} (hc : ev ρ c = some (.bool false)) (h : TK P fid n post (.code y :: k) ρ L) : TK P fid n post (.code (.cond c x y) :: k) ρ L :=
  TK.step (k' := .code y :: k) (fun b a' a cs w g e => stepR_cond (t := false) (by rw [e]; exact g.eval hc)) h
theorem TK.condP {c : Operand} {x y : Code} {p : Prop} [Decidable p] (hc : ev ρ c = some (.bool (decide p)))
    (ht : p → TK P fid n post (.code x :: k) ρ L) (hf : ¬ p → TK P fid n post (.code y :: k) ρ L) : TK P fid n post (.code (.cond c x y) :: k) ρ L := by
  by_cases h : p
  · exact TK.condT (by rw [hc, decide_eq_true h]) (ht h)
  · exact TK.condF (by rw [hc, decide_eq_false h]) (hf h)
theorem TK.condB {c : Operand} {x y : Code} {t : Bool} (hc : ev ρ c = some (.bool t))
    (ht : t = true → TK P fid n post (.code x :: k) ρ L) (hf : t = false → TK P fid n post (.code y :: k) ρ L) : TK P fid n post (.code (.cond c x y) :: k) ρ L := by
  cases t
  · exact TK.condF hc (hf rfl)
  · exact TK.condT hc (ht rfl)
theorem TK.loop {c : Code} (Inv : Env → List HProp → Nat → Prop)
    (round : ∀ ρ L m, Inv ρ L m → (∀ ρ' L' m', Inv ρ' L' m' → m' < m → TK P fid n post (.inLoop c :: k) ρ' L') → TK P fid n post (.code c :: .inLoop c :: k) ρ L)
    {ρ0 : Env} {L0 : List HProp} {m0 : Nat} (h0 : Inv ρ0 L0 m0) (hρ : Sub ρ ρ0) (hL : Ent L L0) : TK P fid n post (.code (.loop c) :: k) ρ L := by
  refine TK.weak hρ hL (TK.step (fun _ _ _ _ _ _ _ => stepR_loop) ?_)
  have key : ∀ m, ∀ m1, m1 < m → ∀ ρ L, Inv ρ L m1 → TK P fid n post (.code c :: .inLoop c :: k) ρ L := by
    intro m
    induction m with
    | zero => intro m1 h; omega
    | succ m ih =>
      intro m1 hm ρ L hi
      exact round ρ L m1 hi fun ρ' L' m' hi' hlt => TK.inLoop (ih m' (by omega) ρ' L' hi')
  exact key (m0 + 1) m0 (by omega) ρ0 L0 h0
theorem TK.again {c : Code} {Inv : Env → List HProp → Nat → Prop} {m : Nat}
    (ih : ∀ ρ' L' m', Inv ρ' L' m' → m' < m → TK P fid n post (.inLoop c :: k) ρ' L') {ρ1 : Env} {L1 : List HProp} {m1 : Nat}
    (h1 : Inv ρ1 L1 m1) (hρ : Sub ρ ρ1) (hL : Ent L L1) (hm : m1 < m) : TK P fid n post (.inLoop c :: k) ρ L :=
  TK.weak hρ hL (ih _ _ _ h1 hm)
def Res (P : Program) (n : Nat) (ρ : Env) (L : List HProp) (fn : Func) (v : Value) : Prop :=
  ∀ (w0 : World) (F : HProp) (a : Act) (w : World), Agree n ρ a → Sat w0 L F w → (results fn a.tmps).run P w = .ok v w
def Fm.plain (fm : Fm) : Prop := fm.round = none ∧ fm.marks = []
theorem TK.ret {fn : Func} {v : Value} (hf : P.funcs[fid.fn]? = some fn) (hr : Res P n ρ L fn v) (hp : post v L') (he : Ent L L') (hn : fid.plain := by exact ⟨rfl, rfl⟩) : TK P fid n post (.code .ret :: k) ρ L := by
  intro w0 F a w cs g st
  refine ⟨v, w, L', hp, st.map he, ?_⟩
  unfold Ends
  rw [hn.1]
  refine ⟨{ fid.at a (.code .ret :: k) with mode := .returning }, .one (stepR_ret (b := fid.frame) (a := fid.act a) hn.1), rfl, rfl, ?_, rfl, fn, hf, hr w0 F a w g st⟩
  show fid.marks.map mkD = []
  rw [hn.2]; rfl
theorem TK.fin {fn : Func} {v : Value} (hf : P.funcs[fid.fn]? = some fn) (hr : Res P n ρ L fn v) (hp : post v L') (he : Ent L L') (hn : fid.plain := by exact ⟨rfl, rfl⟩) : TK P fid n post [] ρ L := by
  intro w0 F a w cs g st
  refine ⟨v, w, L', hp, st.map he, ?_⟩
  unfold Ends
  rw [hn.1]
  refine ⟨{ fid.at a [] with mode := .returning }, .one (stepR_end (b := fid.frame) (a := fid.act a) hn.1), rfl, rfl, ?_, rfl, fn, hf, hr w0 F a w g st⟩
  show fid.marks.map mkD = []
  rw [hn.2]; rfl
theorem Res.none {fn : Func} (h : fn.results = #[]) : Res P n ρ L fn (.tuple #[]) :=
  fun _ _ a w _ _ => by simp [results, h]
theorem Res.one {fn : Func} {t : Nat} {v : Value} (h : fn.results = #[.tmp t]) (hv : look t ρ = some v) : Res P n ρ L fn v :=
  fun _ _ a w g _ => by have := g.at_ t v hv; simp [results, h, Array.getD_eq_getD_getElem?, this]
theorem Res.two {fn : Func} {t u : Nat} {v x : Value} (h : fn.results = #[.tmp t, .tmp u]) (hv : look t ρ = some v) (hx : look u ρ = some x) : Res P n ρ L fn (.tuple #[v, x]) :=
  fun _ _ a w g _ => by
    have e1 := g.at_ t v hv
    have e2 := g.at_ u x hx
    simp [results, h, Array.getD_eq_getD_getElem?, e1, e2]
theorem Res.three {fn : Func} {t u s : Nat} {v x y : Value} (h : fn.results = #[.tmp t, .tmp u, .tmp s]) (hv : look t ρ = some v) (hx : look u ρ = some x) (hy : look s ρ = some y) :
    Res P n ρ L fn (.tuple #[v, x, y]) :=
  fun _ _ a w g _ => by
    have e1 := g.at_ t v hv
    have e2 := g.at_ u x hx
    have e3 := g.at_ s y hy
    simp [results, h, Array.getD_eq_getD_getElem?, e1, e2, e3]
def argsEnv : Nat → List Value → Env
  | _, [] => []
  | i, v :: r => (i, v) :: argsEnv (i + 1) r
theorem look_argsEnv (l : List Value) : ∀ (i t : Nat) (v : Value), look t (argsEnv i l) = some v → i ≤ t ∧ l[t - i]? = some v := by
  induction l with
  | nil => intro i t v h; simp [argsEnv, look] at h
  | cons x l ih =>
    intro i t v h
    simp only [argsEnv, look] at h
    by_cases e : t = i
    · subst e; simp at h; subst h; simp
    · have : Nat.beq t i = false := beq_ne e
      rw [this] at h
      obtain ⟨a, b⟩ := ih (i + 1) t v (by simpa using h)
      refine ⟨by omega, ?_⟩
      rw [show t - i = (t - (i + 1)) + 1 from by omega]
      simpa using b
theorem Spec.of_TK {f : Nat} {fn : Func} {c : Code} {args : List Value} {pre : List HProp} (hf : P.funcs[f]? = some fn) (hb : fn.body = some c) (hn : fn.ntmps = n)
    (hcall : ∀ (as : Array Value) (w : World), (callFunc f as).run P w = .ok (.enter f as) w) (hlen : Nat.ble args.length n = true)
    (h : TK P ⟨f, none, []⟩ n post [.code c] (argsEnv 0 args) pre) : Spec P f args pre post := by
  refine ⟨hcall, fun w0 F w st => ?_⟩
  intro cs
  have henter : Frame.enter P f args.toArray .normal =
      (⟨f, none, []⟩ : Fm).at { tmps := args.toArray ++ Array.replicate (fn.ntmps - args.toArray.size) undef, defers := [] } [.code c] := by
    simp [Frame.enter, Fm.at, hf, hb]
  have hlen' : args.length ≤ n := by simpa using hlen
  have g : Agree n (argsEnv 0 args) { tmps := args.toArray ++ Array.replicate (fn.ntmps - args.toArray.size) undef, defers := [] } := by
    refine ⟨rfl, by simp [hn]; omega, fun t v ht => ?_⟩
    obtain ⟨_, hv⟩ := look_argsEnv args 0 t v ht
    have hlt : t < args.length := by
      have := (List.getElem?_eq_some_iff.1 hv).1
      simpa using this
    show (args.toArray ++ _)[t]? = some v
    rw [Array.getElem?_append_left (by simpa using hlt)]
    simpa using hv
  obtain ⟨v, w', L', hp, st', hst⟩ := h w0 F _ w cs g st
  rw [← henter] at hst
  obtain ⟨fr, h0, h1, h2⟩ := hst
  exact ⟨.returned v, w', fr, ⟨v, L', rfl, hp, st'⟩, h0, h1, h2⟩
theorem Spec.mono {f : Nat} {args : List Value} {pre : List HProp} {post post' : Post} (h : Spec P f args pre post) (hp : ∀ v L, post v L → ∃ L', post' v L' ∧ Ent L L') :
    Spec P f args pre post' :=
  ⟨h.callable, fun w0 F w st => (h.runs w0 F w st).mono fun e w' ⟨v, L, he, hv, st'⟩ => let ⟨L', a, b⟩ := hp v L hv; ⟨v, L', he, a, st'.map b⟩⟩
theorem Spec.pre {f : Nat} {args : List Value} {pre pre' : List HProp} (h : Spec P f args pre post) (e : Ent pre' pre) : Spec P f args pre' post :=
  ⟨h.callable, fun w0 F w st => h.runs w0 F w (st.map e)⟩
def nth {α : Type} : List α → Nat → Option α
  | [], _ => none
  | a :: _, 0 => some a
  | _ :: l, n + 1 => nth l n
theorem nth_eq {α : Type} (l : List α) : ∀ n, nth l n = l[n]? := by
  induction l with
  | nil => intro n; simp [nth]
  | cons a l ih => intro n; cases n <;> simp [nth, ih]
def binds (e : Edge) : Bool := match e.ground with
  | .textOnly _ => false
  | .gcOnly _ => false
  | _ => true
def nthB : List Bool → Nat → Bool
  | [], _ => false
  | a :: _, 0 => a
  | _ :: l, n + 1 => nthB l n
def edgesOk (ls : List Bool) : List Edge → Bool
  | [] => true
  | e :: r => bif binds e then (bif nthB ls e.on then edgesOk ls r else false) else edgesOk ls r
def enab (ls : List Bool) : List Oper → Nat → List Nat
  | [], _ => []
  | o :: r, i => bif nthB ls i then enab ls r (i + 1) else bif edgesOk ls o.after.toList then i :: enab ls r (i + 1) else enab ls r (i + 1)
def setB : List Bool → Nat → List Bool
  | [], _ => []
  | _ :: l, 0 => true :: l
  | a :: l, n + 1 => a :: setB l n
def Val (ops : List Oper) : List Bool → List Nat → Prop
  | ls, [] => enab ls ops 0 = []
  | ls, i :: s => i ∈ enab ls ops 0 ∧ Val ops (setB ls i) s
def QK (P : Program) (fid : Fm) (post : Post) (k : List Item) (w0 : World) (F : HProp) : Act → World → Prop := fun a w =>
  ∀ (cs : List Frame), ∃ v w' L', post v L' ∧ Sat w0 L' F w' ∧ Ends P fid (lone (fid.at a k) cs w) cs v w'
def Rnds (P : Program) (l f : Nat) (tmps : Array Value) (assign body : Code) (w : World) (R : Value → World → Prop) : Prop :=
  ∀ (c : Frame) (cs : List Frame), ∃ v w', R v w' ∧ Steps P (lone (Frame.round l f tmps assign body .normal) (c :: cs) w) (lone (c.finish v) cs w')
theorem Rnds.mono {P : Program} {l f : Nat} {tmps : Array Value} {assign body : Code} {w : World} {R R' : Value → World → Prop} (h : Rnds P l f tmps assign body w R) (hr : ∀ v w', R v w' → R' v w') : Rnds P l f tmps assign body w R' :=
  fun c cs => let ⟨v, w', r, s⟩ := h c cs; ⟨v, w', hr _ _ r, s⟩
def edgeTo (i : Nat) : List Edge → Bool
  | [] => false
  | e :: r => bif Nat.beq e.on i then (bif binds e then true else edgeTo i r) else edgeTo i r
def edge2 (ops : List Oper) (i : Nat) : List Edge → Bool
  | [] => false
  | e :: r => bif binds e then (bif Nat.beq e.on i then true else match nth ops e.on with
    | some o => bif edgeTo i o.after.toList then true else edge2 ops i r
    | none => edge2 ops i r) else edge2 ops i r
def edge3 (ops : List Oper) (i : Nat) : List Edge → Bool
  | [] => false
  | e :: r => bif binds e then (bif Nat.beq e.on i then true else match nth ops e.on with
    | some o => bif edge2 ops i o.after.toList then true else edge3 ops i r
    | none => edge3 ops i r) else edge3 ops i r
def edgeL (ops : List Oper) (i : Nat) (es : List Edge) : Bool := bif edge2 ops i es then true else edge3 ops i es
def pureOp : Op → Bool
  | .move _ | .assign _ | .pick .. | .nilCheck _ | .binOp .. | .unOp .. | .makeFunc .. | .fieldAddr .. | .field .. | .indexAddr .. | .index .. | .extract .. | .build .. | .slice .. => true
  | .call ⟨.builtin b, _, _⟩ => match b with
    | .len | .cap | .min | .max => true
    | _ => false
  | _ => false
def storeOp : Op → Bool
  | .store .. => true
  | .mapUpdate .. => true
  | _ => false
def loudEdges (all : List Oper) (es : List Edge) (j : Nat) : List Oper → Nat → Bool
  | [], _ => true
  | o :: r, i => bif Nat.beq i j then loudEdges all es j r (i + 1) else bif pureOp o.op then loudEdges all es j r (i + 1) else bif storeOp o.op then loudEdges all es j r (i + 1) else
    bif edgeL all i es then loudEdges all es j r (i + 1) else false
def isLate (ops : List Oper) (j : Nat) : Bool := match nth ops j with
  | some o => loudEdges ops o.after.toList j ops 0
  | none => false
def restLate (all : List Oper) (ls : List Bool) : List Oper → Nat → Bool
  | [], _ => true
  | _ :: r, i => bif nthB ls i then restLate all ls r (i + 1) else bif isLate all i then restLate all ls r (i + 1) else false
def sfx (ops : List Oper) : Option (List Bool × List HProp) → List Nat → Prop
  | none, s => s = []
  | some p, s => Val ops p.1 s
def frF : Option (List Bool × List HProp) → HProp → HProp
  | none, F => F
  | some p, F => sep (seps p.2) F
def upS (P : Program) (o : Oper) (a : Act) (next : Act → World → Prop) : Result Next → Prop
  | .ok (.value v) w' => next (a.put o.dst v) w'
  | .ok .skip w' => next (a.put o.dst undef) w'
  | .ok (.enter f args) w' => Calls P f args w' fun e w'' => ∃ v, e = .returned v ∧ next (a.put o.dst v) w''
  | .ok (.row row args) w' => Rows P row args w' fun v w'' => next (a.put o.dst v) w''
  | .ok (.round l f tmps assign body) w' => Rnds P l f tmps assign body w' fun v w'' => next (a.put o.dst v) w''
  | _ => False
def wpI (P : Program) (ops : List Oper) (I : World → Prop) (Q : Act → World → Prop) : List Nat → Act → World → Prop
  | [], a, w => Q a w
  | i :: rest, a, w =>
    match ops[i]? with
    | none => wpI P ops I Q rest a w
    | some o => if Region.wanted o (yielded ops.toArray a.tmps) then upS P o a (fun a' w' => (isLate ops i = false → I w' ∨ w' = w) ∧ wpI P ops I Q rest a' w') ((execOp a.eval o).run P w)
      else wpI P ops I Q rest (a.put o.dst undef) w
theorem upS_mono {P : Program} {o : Oper} {a : Act} {X Y : Act → World → Prop} (h : ∀ a w, X a w → Y a w) : ∀ {r : Result Next}, upS P o a X r → upS P o a Y r := by
  intro r hr
  unfold upS at hr ⊢
  split at hr
  · exact h _ _ hr
  · exact h _ _ hr
  · exact hr.mono fun e w' ⟨v, e1, e2⟩ => ⟨v, e1, h _ _ e2⟩
  · exact Rows.mono hr fun x w' hx => h _ _ hx
  · exact Rnds.mono hr fun x w' hx => h _ _ hx
  · exact hr.elim
theorem upS_sem {P : Program} {o : Oper} {a : Act} {w : World} {X : Act → World → Prop} (h : upS P o a X ((execOp a.eval o).run P w)) (ro : Option Nat) : o.semAt ro a.eval = execOp a.eval o := by
  refine Oper.semAt_eq ro a.eval o fun c hc => ?_
  have : ∃ s : Sem Deferred, execOp a.eval o = (do pure (.defer (← s))) := ⟨resolve a.eval c o.type, by simp only [execOp, hc]⟩
  obtain ⟨s, hs⟩ := this
  rw [hs, Sem.run_bind] at h
  cases hr : s.run P w with
  | ok d w' => simp [hr, upS] at h
  | halt e w' => simp [hr, upS] at h
theorem wpI_sound {P : Program} (fm : Fm) {ops : List Oper} {I : World → Prop} {Q : Act → World → Prop} : ∀ (s : List Nat) (a : Act) (w : World), wpI P ops I Q s a w → ∀ (k : List Item) (cs : List Frame),
    ∃ a' w', Q a' w' ∧ Steps P (lone (fm.at a (.inRegion ops.toArray s :: k)) cs w) (lone (fm.at a' k) cs w')
  | [], a, w, h, k, cs => ⟨a, w, h, .one (stepR_region_end (b := fm.frame) (a := fm.act a))⟩
  | i :: s, a, w, h, k, cs => by
    simp only [wpI] at h
    have hput : ∀ d v, (fm.act a).put d v = fm.act (a.put d v) := by intro d v; cases d <;> rfl
    cases ho : ops[i]? with
    | none =>
      have ho' : ops.toArray[i]? = none := by simpa using ho
      simp only [ho] at h
      obtain ⟨a', w', hq, hst⟩ := wpI_sound fm s a w h k cs
      have hs := stepR_op_skip (P := P) (b := fm.frame) (a := fm.act a) (k := k) (cs := cs) (w := w) (ops := ops.toArray) (i := i) (rest := s) (by simp [ho])
      simp only [ho', Option.bind_none, Act.put] at hs
      exact ⟨a', w', hq, Steps.trans (.one hs) hst⟩
    | some o =>
      have ho' : ops.toArray[i]? = some o := by simpa using ho
      simp only [ho] at h
      by_cases hw : Region.wanted o (yielded ops.toArray a.tmps) = true
      · rw [if_pos hw] at h
        have hsem := upS_sem h fm.round
        have hg := stepGR_op (P := P) (b := fm.frame) (a := fm.act a) (k := k) (cs := cs) (w := w) (rest := s) ho' hw
        rw [Fm.eval, show fm.frame.roundOf = fm.round from rfl, hsem] at hg
        have hfin : ∀ v, (fm.frame.atR (fm.act a) (.inRegion ops.toArray (i :: s) :: k)).finish v = fm.at (a.put o.dst v) (.inRegion ops.toArray s :: k) := by
          intro v; rw [Frame.finish_atR, ho', Option.bind_some, hput]; rfl
        unfold upS at h
        split at h
        · rename_i v w' hr
          obtain ⟨a', w2, hq, hst⟩ := wpI_sound fm s _ _ h.2 k cs
          refine ⟨a', w2, hq, Steps.trans (.one (step_lone_go ?_)) hst⟩
          rw [Fm.at_eq, hg, ← hfin]; simp [stepG.apply, hr]
        · rename_i w' hr
          obtain ⟨a', w2, hq, hst⟩ := wpI_sound fm s _ _ h.2 k cs
          refine ⟨a', w2, hq, Steps.trans (.one (step_lone_go ?_)) hst⟩
          rw [Fm.at_eq, hg, ← hfin]; simp [stepG.apply, hr]
        · rename_i f args w' hr
          obtain ⟨e, w2, fr, ⟨v, rfl, hR⟩, hsteps, _, hleave⟩ := h (fm.at a (.inRegion ops.toArray (i :: s) :: k) :: cs)
          have henter : step P (lone (fm.at a (.inRegion ops.toArray (i :: s) :: k)) cs w) =
              .next (lone (Frame.enter P f args .normal) (fm.at a (.inRegion ops.toArray (i :: s) :: k) :: cs) w') :=
            step_lone_go (by rw [Fm.at_eq, hg]; simp [stepG.apply, hr, Frame.atR])
          obtain ⟨a', w3, hq, hst⟩ := wpI_sound fm s _ _ hR.2 k cs
          refine ⟨a', w3, hq, .head henter (Steps.trans hsteps (.head ?_ hst))⟩
          rw [← hfin]; exact step_leave_returned hleave
        · rename_i row args w' hr
          obtain ⟨v, w2, hR, hsteps⟩ := h (fm.at a (.inRegion ops.toArray (i :: s) :: k)) cs
          have henter : step P (lone (fm.at a (.inRegion ops.toArray (i :: s) :: k)) cs w) =
              .next (lone (Frame.ofRow P row args .normal) (fm.at a (.inRegion ops.toArray (i :: s) :: k) :: cs) w') :=
            step_lone_go (by rw [Fm.at_eq, hg]; simp [stepG.apply, hr, Frame.atR])
          obtain ⟨a', w3, hq, hst⟩ := wpI_sound fm s _ _ hR.2 k cs
          refine ⟨a', w3, hq, .head henter (Steps.trans hsteps ?_)⟩
          rw [Fm.at_eq, hfin]; exact hst
        · rename_i l f tmps assign body w' hr
          obtain ⟨v, w2, hR, hsteps⟩ := h (fm.at a (.inRegion ops.toArray (i :: s) :: k)) cs
          have henter : step P (lone (fm.at a (.inRegion ops.toArray (i :: s) :: k)) cs w) =
              .next (lone (Frame.round l f tmps assign body .normal) (fm.at a (.inRegion ops.toArray (i :: s) :: k) :: cs) w') :=
            step_lone_go (by rw [Fm.at_eq, hg]; simp [stepG.apply, hr, Frame.atR])
          obtain ⟨a', w3, hq, hst⟩ := wpI_sound fm s _ _ hR.2 k cs
          refine ⟨a', w3, hq, .head henter (Steps.trans hsteps ?_)⟩
          rw [Fm.at_eq, hfin]; exact hst
        · exact h.elim
      · rw [if_neg hw] at h
        obtain ⟨a', w', hq, hst⟩ := wpI_sound fm s _ w h k cs
        have hs := stepR_op_skip (P := P) (b := fm.frame) (a := fm.act a) (k := k) (cs := cs) (w := w) (ops := ops.toArray) (i := i) (rest := s) (by simp [ho]; show Region.wanted o (yielded ops.toArray a.tmps) = false; simpa using hw)
        rw [ho', Option.bind_some, hput] at hs
        exact ⟨a', w', hq, Steps.trans (.one hs) hst⟩
theorem wpI_mono {P : Program} {ops : List Oper} {I J : World → Prop} {Q : Act → World → Prop} : ∀ (s : List Nat) (a : Act) (w : World), (∀ i ∈ s, isLate ops i = false → ∀ w, I w → J w) → wpI P ops I Q s a w → wpI P ops J Q s a w
  | [], a, w, _, h => h
  | i :: s, a, w, hij, h => by
    have ih := fun a w => wpI_mono (P := P) (Q := Q) s a w (fun x hx => hij x (by simp [hx]))
    simp only [wpI] at h ⊢
    cases ho : ops[i]? with
    | none => simp only [ho] at h ⊢; exact ih a w h
    | some o =>
      simp only [ho] at h ⊢
      split
      · rename_i hw
        rw [if_pos hw] at h
        exact upS_mono (fun a' w' x => ⟨fun hl => (x.1 hl).imp (hij i (by simp) hl w') id, ih a' w' x.2⟩) h
      · rename_i hw
        rw [if_neg hw] at h
        exact ih _ w h
def IW (w0 : World) (F : HProp) (w : World) : Prop := ∃ L, Sat w0 L F w
def TO (P : Program) (fid : Fm) (n : Nat) (post : Post) (ops l : List Oper) (sf : Option (List Bool × List HProp)) (k : List Item) (ρ : Env) (L : List HProp) : Prop :=
  ∀ (w0 : World) (F : HProp) (a : Act) (w : World) (is s : List Nat), Agree n ρ a → Sat w0 L (frF sf F) w → is.map (fun i => ops[i]?) = l.map some → sfx ops sf s →
    wpI P ops (IW w0 (frF sf F)) (QK P fid post k w0 F) (is ++ s) a w
def TD (P : Program) (fid : Fm) (n : Nat) (post : Post) (ops : List Oper) (ls : List Bool) (R : List HProp) (k : List Item) (ρ : Env) (L : List HProp) : Prop :=
  ∀ (w0 : World) (F : HProp) (a : Act) (w : World) (s : List Nat), Agree n ρ a → Sat w0 L (sep (seps R) F) w → Val ops ls s →
    wpI P ops (IW w0 (sep (seps R) F)) (QK P fid post k w0 F) s a w
theorem of_wpOps {ops : List Oper} {I : World → Prop} {s : List Nat} {w0 : World} {F : HProp} {a : Act} {w : World} (cs : List Frame)
    (h : wpI P ops I (QK P fid post k w0 F) s a w) :
    ∃ v w' L', post v L' ∧ Sat w0 L' F w' ∧ Ends P fid (lone (fid.at a (.inRegion ops.toArray s :: k)) cs w) cs v w' := by
  obtain ⟨a', w', hq, hst⟩ := wpI_sound fid s a w h k cs
  obtain ⟨v, w2, L', hp, st, he⟩ := hq cs
  exact ⟨v, w2, L', hp, st, he.of_steps hst⟩
theorem TK.region {id : Nat} {ops : List Oper} (h : TO P fid n post ops ops none k ρ L) : TK P fid n post (.code (.region id ops.toArray false) :: k) ρ L := by
  intro w0 F a w cs g st
  have h1 := h w0 F a w (List.range ops.length) [] g st (by
    apply List.ext_getElem?
    intro i
    simp only [List.getElem?_map]
    by_cases hi : i < ops.length
    · simp [hi]
    · simp [hi]) rfl
  rw [List.append_nil] at h1
  obtain ⟨v, w2, L', hp, st', hst⟩ := of_wpOps cs h1
  refine ⟨v, w2, L', hp, st', .of_steps (.one (stepR_region (b := fid.frame) (a := fid.act a))) ?_⟩
  simpa [Fm.at_eq] using hst
theorem TO.nil {ops : List Oper} (h : TK P fid n post k ρ L) : TO P fid n post ops [] none k ρ L := by
  intro w0 F a w is s g st hi hs
  have : is = [] := by simpa using hi
  subst this
  have hs' : s = [] := hs
  subst hs'
  exact fun cs => h w0 F a w cs g st
theorem TO.nilD {ops : List Oper} {ls : List Bool} {R : List HProp} (h : TD P fid n post ops ls R k ρ L) : TO P fid n post ops [] (some (ls, R)) k ρ L := by
  intro w0 F a w is s g st hi hs
  have : is = [] := by simpa using hi
  subst this
  exact h w0 F a w s g st hs
theorem TD.fin {ops : List Oper} {ls : List Bool} {R : List HProp} (he : enab ls ops 0 = []) (h : TK P fid n post k ρ (L ++ R)) : TD P fid n post ops ls R k ρ L := by
  intro w0 F a w s g st hs
  cases s with
  | nil => exact fun cs => h w0 F a w cs g st.unframe
  | cons i s => simp [Val, he] at hs
theorem TD.freeze {ops : List Oper} {ls : List Bool} {R r : List HProp} {c : HProp} (hp : Pick L c r) (h : TD P fid n post ops ls (c :: R) k ρ r) : TD P fid n post ops ls R k ρ L := by
  intro w0 F a w s g st hs
  have e1 : ∀ h', sep (seps R) F h' → True := fun _ _ => trivial
  have st' : Sat w0 r (sep (seps (c :: R)) F) w := by
    refine ⟨st.os, st.tape, st.out, ?_⟩
    obtain ⟨hh, hsub, hx⟩ := st.heap
    refine ⟨hh, hsub, ?_⟩
    have x1 : sep (sep c (seps r)) (sep (seps R) F) hh := sep_mono (fun _ y => (hp _).1 y) (fun _ y => y) hx
    have x2 : sep (sep (seps r) c) (sep (seps R) F) hh := sep_mono (fun _ y => sep_comm y) (fun _ y => y) x1
    have x3 := sep_assoc.1 x2
    exact sep_mono (fun _ y => y) (fun _ y => sep_assoc.2 y) x3
  have := h w0 F a w s g st' hs
  refine wpI_mono s a w (fun i _ _ w' hw => ?_) this
  obtain ⟨L1, s1⟩ := hw
  refine ⟨c :: L1, s1.os, s1.tape, s1.out, ?_⟩
  obtain ⟨hh, hsub, hx⟩ := s1.heap
  refine ⟨hh, hsub, ?_⟩
  have x1 : sep (seps L1) (sep c (sep (seps R) F)) hh := sep_mono (fun _ y => y) (fun _ y => sep_assoc.1 y) hx
  have x2 := sep_assoc.2 x1
  exact sep_mono (fun _ y => sep_comm y) (fun _ y => y) x2
def wants (ops : List Oper) (ρ : Env) : Option (Nat × Bool) → Option Bool
  | none => some true
  | some (j, want) => match nth ops j with
    | some ⟨some d, _, _, _, _, _⟩ => match look d ρ with
      | some (.bool b) => some (bif want then b else !b)
      | some (.tuple _) => some false
      | _ => none
    | _ => none
theorem wanted_eq {ops : List Oper} {a : Act} {o : Oper} {b : Bool} (g : Agree n ρ a) (h : wants ops ρ o.guard = some b) :
    Region.wanted o (yielded ops.toArray a.tmps) = b := by
  unfold Region.wanted
  cases hg : o.guard with
  | none => simp [hg, wants] at h; simp [h]
  | some p =>
    obtain ⟨j, want⟩ := p
    simp only [hg, wants, nth_eq] at h
    cases ho : ops[j]? with
    | none => simp [ho] at h
    | some oj =>
      obtain ⟨dst, x1, x2, x3, x4, x5⟩ := oj
      cases dst with
      | none => simp [ho] at h
      | some d =>
        simp only [ho] at h
        cases hl : look d ρ with
        | none => simp [hl] at h
        | some v =>
          have hv := g.at_ d v hl
          simp only [hl] at h
          cases v <;> simp at h
          case bool b' => subst h; simp [yielded, ho, hv]; cases b' <;> cases want <;> rfl
          case tuple vs => subst h; simp [yielded, ho, hv]
def dstOk (n : Nat) : Option Nat → Bool
  | none => true
  | some d => Nat.blt d n
def putE (d : Option Nat) (v : Value) (ρ : Env) : Env := match d with
  | none => ρ
  | some d => (d, v) :: ρ
theorem Agree.putE {a : Act} (g : Agree n ρ a) {d : Option Nat} (hd : dstOk n d = true) (v : Value) : Agree n (putE d v ρ) (a.put d v) := by
  cases d with
  | none => exact g
  | some d => exact g.put hd v
variable {ops rest : List Oper} {o : Oper} {sf : Option (List Bool × List HProp)}
theorem TD.any {ls : List Bool} {R : List HProp} (h : ∀ i ∈ enab ls ops 0, ∃ o, nth ops i = some o ∧ TO P fid n post ops [o] (some (setB ls i, R)) k ρ L) (hne : enab ls ops 0 ≠ []) : TD P fid n post ops ls R k ρ L := by
  intro w0 F a w s g st hs
  cases s with
  | nil => exact absurd hs hne
  | cons i s =>
    obtain ⟨hi, hv⟩ := hs
    obtain ⟨o, ho, ht⟩ := h i hi
    exact ht w0 F a w [i] s g st (by rw [nth_eq] at ho; simp [ho]) hv
theorem TD.one {ls : List Bool} {R : List HProp} {i : Nat} (he : enab ls ops 0 = [i]) (ho : nth ops i = some o) (h : TO P fid n post ops [o] (some (setB ls i, R)) k ρ L) : TD P fid n post ops ls R k ρ L :=
  TD.any (by rw [he]; intro j hj; simp at hj; subst hj; exact ⟨o, ho, h⟩) (by rw [he]; simp)
theorem TD.two {ls : List Bool} {R : List HProp} {i j : Nat} {o' : Oper} (he : enab ls ops 0 = [i, j]) (ho : nth ops i = some o) (ho' : nth ops j = some o')
    (h : TO P fid n post ops [o] (some (setB ls i, R)) k ρ L) (h' : TO P fid n post ops [o'] (some (setB ls j, R)) k ρ L) : TD P fid n post ops ls R k ρ L :=
  TD.any (by
    rw [he]; intro x hx; simp at hx
    rcases hx with rfl | rfl
    · exact ⟨o, ho, h⟩
    · exact ⟨o', ho', h'⟩) (by rw [he]; simp)
theorem TD.three {ls : List Bool} {R : List HProp} {i j m : Nat} {o' o'' : Oper} (he : enab ls ops 0 = [i, j, m]) (ho : nth ops i = some o) (ho' : nth ops j = some o') (ho'' : nth ops m = some o'')
    (h : TO P fid n post ops [o] (some (setB ls i, R)) k ρ L) (h' : TO P fid n post ops [o'] (some (setB ls j, R)) k ρ L) (h'' : TO P fid n post ops [o''] (some (setB ls m, R)) k ρ L) : TD P fid n post ops ls R k ρ L :=
  TD.any (by
    rw [he]; intro x hx; simp at hx
    rcases hx with rfl | rfl | rfl
    · exact ⟨o, ho, h⟩
    · exact ⟨o', ho', h'⟩
    · exact ⟨o'', ho'', h''⟩) (by rw [he]; simp)
theorem idx_cons {is : List Nat} (hi : is.map (fun i => ops[i]?) = (o :: rest).map some) :
    ∃ i is', is = i :: is' ∧ ops[i]? = some o ∧ is'.map (fun i => ops[i]?) = rest.map some := by
  cases is with
  | nil => simp at hi
  | cons i is' =>
    simp only [List.map_cons, List.cons.injEq] at hi
    exact ⟨i, is', rfl, hi.1, hi.2⟩
theorem wpI_value {I : World → Prop} {Q : Act → World → Prop} {a : Act} {w w' : World} {i : Nat} {s : List Nat} {v : Value} (ho : ops[i]? = some o)
    (hw : Region.wanted o (yielded ops.toArray a.tmps) = true) (hr : (execOp a.eval o).run P w = .ok (.value v) w') (hI : I w' ∨ w' = w)
    (h : wpI P ops I Q s (a.put o.dst v) w') : wpI P ops I Q (i :: s) a w := by
  simp only [wpI, ho, hw, if_true]
  simp only [upS, hr]
  exact ⟨fun _ => hI, h⟩
theorem TO.val (hw : wants ops ρ o.guard = some true) (hd : dstOk n o.dst = true)
    (h : ∀ (w0 : World) (F : HProp) (a : Act) (w : World), Agree n ρ a → Sat w0 L F w →
      ∃ v L' w', (execOp a.eval o).run P w = .ok (.value v) w' ∧ Sat w0 L' F w' ∧ TO P fid n post ops rest sf k (putE o.dst v ρ) L') :
    TO P fid n post ops (o :: rest) sf k ρ L := by
  intro w0 F a w is s g st hi hs
  obtain ⟨i, is', rfl, ho, hi'⟩ := idx_cons hi
  obtain ⟨v, L', w', hr, st', ht⟩ := h w0 (frF sf F) a w g st
  exact wpI_value ho (wanted_eq g hw) hr (.inl ⟨L', st'⟩) (ht w0 F _ w' is' s (g.putE hd v) st' hi' hs)
theorem TO.unit (hw : wants ops ρ o.guard = some true) (hd : o.dst = none)
    (h : ∀ (w0 : World) (F : HProp) (a : Act) (w : World), Agree n ρ a → Sat w0 L F w →
      ∃ L' w', (execOp a.eval o).run P w = .ok .skip w' ∧ Sat w0 L' F w' ∧ TO P fid n post ops rest sf k ρ L') :
    TO P fid n post ops (o :: rest) sf k ρ L := by
  intro w0 F a w is s g st hi hs
  obtain ⟨i, is', rfl, ho, hi'⟩ := idx_cons hi
  obtain ⟨L', w', hr, st', ht⟩ := h w0 (frF sf F) a w g st
  have h1 := ht w0 F a w' is' s g st' hi' hs
  simp only [List.cons_append, wpI, ho, wanted_eq g hw, if_true]
  simp only [upS, hr, hd]
  exact ⟨fun _ => .inl ⟨L', st'⟩, h1⟩
theorem TO.passAny (hw : wants ops ρ o.guard = some false) (hd : dstOk n o.dst = true) (h : TO P fid n post ops rest sf k (putE o.dst undef ρ) L) :
    TO P fid n post ops (o :: rest) sf k ρ L := by
  intro w0 F a w is s g st hi hs
  obtain ⟨i, is', rfl, ho, hi'⟩ := idx_cons hi
  have h1 := h w0 F _ w is' s (g.putE hd undef) st hi' hs
  simp only [List.cons_append, wpI, ho, wanted_eq g hw, Bool.false_eq_true, if_false]
  exact h1
theorem TO.pass {d : Nat} {op : Op} {ty : TypeId} {pos : String} {af : Array Edge} {gd : Option (Nat × Bool)} (hw : wants ops ρ gd = some false) (hd : Nat.blt d n = true)
    (h : TO P fid n post ops rest sf k ((d, undef) :: ρ) L) : TO P fid n post ops (⟨some d, op, ty, pos, af, gd⟩ :: rest) sf k ρ L := TO.passAny hw hd h
theorem TO.pass0 {op : Op} {ty : TypeId} {pos : String} {af : Array Edge} {gd : Option (Nat × Bool)} (hw : wants ops ρ gd = some false)
    (h : TO P fid n post ops rest sf k ρ L) : TO P fid n post ops (⟨none, op, ty, pos, af, gd⟩ :: rest) sf k ρ L := TO.passAny hw rfl h
theorem TO.weak {ρ' : Env} {L' : List HProp} {l : List Oper} (s : Sub ρ ρ') (e : Ent L L') (h : TO P fid n post ops l sf k ρ' L') : TO P fid n post ops l sf k ρ L :=
  fun w0 F a w is x g st hi hs => h w0 F a w is x (g.sub s) (st.map e) hi hs
theorem TO.ent {L' : List HProp} {l : List Oper} (e : Ent L L') (h : TO P fid n post ops l sf k ρ L') : TO P fid n post ops l sf k ρ L := TO.weak (Sub.refl _) e h
theorem TO.openEx {α : Type} {L' : α → List HProp} {l : List Oper} (e : ∀ h, seps L h → ∃ x, seps (L' x) h) (h : ∀ x, TO P fid n post ops l sf k ρ (L' x)) : TO P fid n post ops l sf k ρ L := by
  intro w0 F a w is s g st hi hs
  obtain ⟨hp, hsub, h1, h2, d, rfl, x, y⟩ := st.heap
  obtain ⟨z, hz⟩ := e h1 x
  exact h z w0 F a w is s g ⟨st.os, st.tape, st.out, _, hsub, h1, h2, d, rfl, hz, y⟩ hi hs
theorem TO.fact {φ : Prop} {r : List HProp} {l : List Oper} (hp : Pick L (SL.fact φ) r) (h : φ → TO P fid n post ops l sf k ρ r) : TO P fid n post ops l sf k ρ L := by
  intro w0 F a w is s g st hi hs
  have := st.pickFact hp
  exact h this.1 w0 F a w is s g this.2 hi hs
def guardSlot (ops : List Oper) : Option (Nat × Bool) → Option Nat
  | some (j, _) => match nth ops j with
    | some ⟨some d, _, _, _, _, _⟩ => some d
    | _ => none
  | none => none
theorem TO.guardP {p : Prop} [Decidable p] {d : Nat} (hgd : guardSlot ops o.guard = some d) (hl : look d ρ = some (.bool (decide p)))
    (ht : p → TO P fid n post ops (o :: rest) sf k ((d, .bool true) :: ρ) L) (hf : ¬ p → TO P fid n post ops (o :: rest) sf k ((d, .bool false) :: ρ) L) :
    TO P fid n post ops (o :: rest) sf k ρ L := by
  by_cases h : p
  · exact TO.weak (Sub.cons (by rw [hl, decide_eq_true h]) rfl (Sub.refl _)) Ent.refl (ht h)
  · exact TO.weak (Sub.cons (by rw [hl, decide_eq_false h]) rfl (Sub.refl _)) Ent.refl (hf h)
theorem TO.guardB {t : Bool} {d : Nat} (hgd : guardSlot ops o.guard = some d) (hl : look d ρ = some (.bool t))
    (ht : t = true → TO P fid n post ops (o :: rest) sf k ((d, .bool true) :: ρ) L) (hf : t = false → TO P fid n post ops (o :: rest) sf k ((d, .bool false) :: ρ) L) :
    TO P fid n post ops (o :: rest) sf k ρ L := by
  cases t
  · exact TO.weak (Sub.cons hl rfl (Sub.refl _)) Ent.refl (hf rfl)
  · exact TO.weak (Sub.cons hl rfl (Sub.refl _)) Ent.refl (ht rfl)
def EvAll (ρ : Env) (xs : List Operand) (vs : List Value) : Prop := xs.map (ev ρ) = vs.map some
theorem EvAll.nil {ρ : Env} : EvAll ρ [] [] := rfl
theorem EvAll.cons {ρ : Env} {x : Operand} {v : Value} {xs : List Operand} {vs : List Value} (h : ev ρ x = some v) (t : EvAll ρ xs vs) : EvAll ρ (x :: xs) (v :: vs) := by
  unfold EvAll at *
  simp [h, t]
theorem EvAll.map {a : Act} (g : Agree n ρ a) : ∀ {xs : List Operand} {vs : List Value} (h : EvAll ρ xs vs), xs.map a.eval = vs
  | [], [], _ => rfl
  | [], _ :: _, h => by simp [EvAll] at h
  | _ :: _, [], h => by simp [EvAll] at h
  | x :: xs, v :: vs, h => by
    simp only [EvAll, List.map_cons, List.cons.injEq] at h
    simp only [List.map_cons, g.eval h.1, EvAll.map g h.2]
theorem TO.callAny {f : Nat} {dst : Option Nat} {ce : Callee} {xs : List Operand} {tys : Array TypeId} {ty : TypeId} {pos : String} {af : Array Edge} {g : Option (Nat × Bool)}
    {args vs first cap : List Value} {fv : Operand} {pre rst : List HProp} {post' : Post}
    (hs : Spec P f args pre post') (hce : ce = .value fv) (hfv : ev ρ fv = some (.func (.func f) first.toArray cap.toArray))
    (hw : wants ops ρ g = some true) (hd : dstOk n dst = true)
    (he : EvAll ρ xs vs) (ha : args = first ++ vs ++ cap) (hfr : Frm L pre rst) (h : ∀ v L', post' v L' → TO P fid n post ops rest sf k (putE dst v ρ) (L' ++ rst)) :
    TO P fid n post ops (⟨dst, .call ⟨ce, xs.toArray, tys⟩, ty, pos, af, g⟩ :: rest) sf k ρ L := by
  intro w0 F a w is s gr st hi hsf
  obtain ⟨i, is', rfl, ho, hi'⟩ := idx_cons hi
  have hrun : (execOp a.eval (⟨dst, .call ⟨ce, xs.toArray, tys⟩, ty, pos, af, g⟩ : Oper)).run P w = .ok (.enter f args.toArray) w := by
    have e1 := gr.eval hfv
    have e2 := EvAll.map gr he
    subst hce
    subst ha
    simp only [execOp, resolve, Sem.run_bind, List.map_toArray, e1, e2, Deferred.ofValue, Sem.run_pure, Result.andThen_ok, invoke]
    rw [hs.callable]
    simp
  have hwt := wanted_eq (o := (⟨dst, .call ⟨ce, xs.toArray, tys⟩, ty, pos, af, g⟩ : Oper)) gr hw
  simp only [List.cons_append, wpI, ho, hwt, if_true]
  simp only [upS, hrun]
  refine (hs.runs w0 (sep (seps rst) (frF sf F)) w (st.frame hfr)).mono ?_
  rintro e w1 ⟨v, L1, rfl, hp1, st1⟩
  exact ⟨v, rfl, fun _ => .inl ⟨_, st1.unframe⟩, h v L1 hp1 w0 F _ w1 is' s (gr.putE hd v) st1.unframe hi' hsf⟩
theorem TO.call {f : Nat} {d : Nat} {xs : List Operand} {tys : Array TypeId} {ty : TypeId} {pos : String} {af : Array Edge} {g : Option (Nat × Bool)}
    {vs : List Value} {pre rst : List HProp} {post' : Post}
    (hs : Spec P f vs pre post') (hw : wants ops ρ g = some true) (hd : Nat.blt d n = true)
    (he : EvAll ρ xs vs) (hfr : Frm L pre rst) (h : ∀ v L', post' v L' → TO P fid n post ops rest sf k ((d, v) :: ρ) (L' ++ rst)) :
    TO P fid n post ops (⟨some d, .call ⟨.value (.func f), xs.toArray, tys⟩, ty, pos, af, g⟩ :: rest) sf k ρ L :=
  TO.callAny (first := []) (cap := []) hs rfl rfl hw hd he (by simp) hfr h
theorem TO.call0 {f : Nat} {xs : List Operand} {tys : Array TypeId} {ty : TypeId} {pos : String} {af : Array Edge} {g : Option (Nat × Bool)}
    {vs : List Value} {pre rst : List HProp} {post' : Post}
    (hs : Spec P f vs pre post') (hw : wants ops ρ g = some true)
    (he : EvAll ρ xs vs) (hfr : Frm L pre rst) (h : ∀ v L', post' v L' → TO P fid n post ops rest sf k ρ (L' ++ rst)) :
    TO P fid n post ops (⟨none, .call ⟨.value (.func f), xs.toArray, tys⟩, ty, pos, af, g⟩ :: rest) sf k ρ L :=
  TO.callAny (first := []) (cap := []) hs rfl rfl hw rfl he (by simp) hfr h
theorem TO.callVal {f : Nat} {d : Nat} {fv : Operand} {xs : List Operand} {tys : Array TypeId} {ty : TypeId} {pos : String} {af : Array Edge} {g : Option (Nat × Bool)}
    {args vs cap : List Value} {pre rst : List HProp} {post' : Post}
    (hs : Spec P f args pre post') (hfv : ev ρ fv = some (.func (.func f) #[] cap.toArray)) (hw : wants ops ρ g = some true) (hd : Nat.blt d n = true)
    (he : EvAll ρ xs vs) (ha : args = vs ++ cap) (hfr : Frm L pre rst) (h : ∀ v L', post' v L' → TO P fid n post ops rest sf k ((d, v) :: ρ) (L' ++ rst)) :
    TO P fid n post ops (⟨some d, .call ⟨.value fv, xs.toArray, tys⟩, ty, pos, af, g⟩ :: rest) sf k ρ L :=
  TO.callAny (first := []) (cap := cap) hs rfl hfv hw hd he (by simpa using ha) hfr h
end
end SL
end
section
set_option linter.unusedVariables false
set_option linter.unusedSimpArgs false
namespace SL
open Go
theorem nthB_eq (l : List Bool) : ∀ i, nthB l i = l.getD i false := by
  induction l with
  | nil => intro i; simp [nthB]
  | cons a l ih => intro i; cases i <;> simp [nthB, ih]
theorem setB_eq (l : List Bool) : ∀ i, setB l i = l.set i true := by
  induction l with
  | nil => intro i; simp [setB]
  | cons a l ih => intro i; cases i <;> simp [setB, ih]
theorem nthB_setB (l : List Bool) (i j : Nat) (h : nthB l j = true) : nthB (setB l i) j = true := by
  rw [nthB_eq] at *
  rw [setB_eq]
  by_cases e : i = j
  · subst e
    by_cases hl : i < l.length
    · simp [hl]
    · simp [List.getD, List.getElem?_eq_none (Nat.le_of_not_lt hl)] at h
  · simpa [List.getD, List.getElem?_set_ne e] using h
theorem nthB_setB_ne (l : List Bool) {i j : Nat} (h : i ≠ j) : nthB (setB l i) j = nthB l j := by
  rw [nthB_eq, nthB_eq, setB_eq]
  simp [List.getD, List.getElem?_set_ne h]
theorem setB_comm (l : List Bool) (i j : Nat) : setB (setB l i) j = setB (setB l j) i := by
  simp only [setB_eq]
  by_cases e : i = j
  · subst e; rfl
  · rw [List.set_comm _ _ e]
theorem edgesOk_eq (ls : List Bool) (es : List Edge) : edgesOk ls es = es.all fun e => !binds e || nthB ls e.on := by
  induction es with
  | nil => rfl
  | cons e es ih => simp only [edgesOk, List.all_cons, ih]; cases binds e <;> cases nthB ls e.on <;> simp
def can (ls : List Bool) (ops : List Oper) (j : Nat) : Bool := !nthB ls j && ((ops[j]?).map fun o => edgesOk ls o.after.toList).getD false
theorem enab_eq (ls : List Bool) : ∀ (l : List Oper) (i : Nat), enab ls l i = (List.range' i l.length).filter fun j => !nthB ls j && ((l[j - i]?).map fun o => edgesOk ls o.after.toList).getD false
  | [], i => by simp [enab]
  | o :: l, i => by
    have ih := enab_eq ls l (i + 1)
    have e : ((List.range' (i + 1) l.length).filter fun j => !nthB ls j && (((o :: l)[j - i]?).map fun o => edgesOk ls o.after.toList).getD false) = enab ls l (i + 1) := by
      rw [ih]
      apply List.filter_congr
      intro j hj
      have hj' : i + 1 ≤ j := (List.mem_range'_1.1 hj).1
      rw [show j - i = (j - (i + 1)) + 1 from by omega]
      simp
    simp only [enab, List.length_cons, List.range'_succ, List.filter_cons, e, Nat.sub_self, List.getElem?_cons_zero, Option.map_some, Option.getD_some]
    cases nthB ls i <;> cases edgesOk ls o.after.toList <;> simp
theorem enab_can (ls : List Bool) (ops : List Oper) : enab ls ops 0 = (List.range ops.length).filter (can ls ops) := by
  rw [enab_eq, List.range_eq_range']
  rfl
theorem mem_enab {ls : List Bool} {ops : List Oper} {i : Nat} : i ∈ enab ls ops 0 ↔ i < ops.length ∧ can ls ops i = true := by
  rw [enab_can]
  simp
theorem can_mono {ls : List Bool} {ops : List Oper} {i j : Nat} (h : can ls ops i = true) (hne : j ≠ i) : can (setB ls j) ops i = true := by
  simp only [can, Bool.and_eq_true, Bool.not_eq_true'] at *
  refine ⟨by rw [nthB_setB_ne _ hne]; exact h.1, ?_⟩
  cases ho : ops[i]? with
  | none => simp [ho] at h
  | some o =>
    simp only [ho, Option.map_some, Option.getD_some, edgesOk_eq, List.all_eq_true, Bool.or_eq_true] at *
    intro e he
    exact (h.2 e he).imp id (nthB_setB _ _ _)
theorem count_set {ls : List Bool} {i : Nat} (hi : i < ls.length) (h : nthB ls i = false) : (setB ls i).count false + 1 = ls.count false := by
  rw [setB_eq]
  rw [nthB_eq] at h
  have hv : ls[i] = false := by simpa [List.getD, hi] using h
  rw [List.count_set hi, hv]
  have : 0 < ls.count false := List.count_pos_iff.2 (by rw [← hv]; exact List.getElem_mem hi)
  simp
  omega
theorem go_val (ops : List Oper) : ∀ (fuel t : Nat) (listed : Array Bool) (acc : List Nat), listed.size = ops.length → listed.toList.count false = fuel →
    ∃ s, Region.linearise.go .any ops.toArray fuel t listed acc = acc.reverse ++ s ∧ Val ops listed.toList s := by
  intro fuel
  induction fuel with
  | zero =>
    intro t listed acc hs hc
    refine ⟨[], by simp [Region.linearise.go], ?_⟩
    show enab listed.toList ops 0 = []
    rw [enab_can, List.filter_eq_nil_iff]
    intro j hj
    have hj' : j < listed.toList.length := by simp at hj ⊢; omega
    have : listed.toList[j] ≠ false := fun e => (List.count_eq_zero.1 hc) (by rw [← e]; exact List.getElem_mem hj')
    have hj2 : j < listed.size := by simpa using hj'
    have : nthB listed.toList j = true := by rw [nthB_eq]; simp [List.getD, hj2] at this ⊢; exact this
    simp [can, this]
  | succ fuel ih =>
    intro t listed acc hs hc
    have hrs : ((List.range ops.toArray.size).filter fun i =>
        !listed.getD i true && ((ops.toArray[i]?).map (·.after.all fun e => !Region.binds .any e || listed.getD e.on false)).getD false) = enab listed.toList ops 0 := by
      rw [enab_can, List.size_toArray]
      apply List.filter_congr
      intro i hi
      have hi' : i < listed.size := by simp at hi; omega
      have hi2 : i < ops.length := by simpa using hi
      have e1 : listed.getD i true = nthB listed.toList i := by rw [nthB_eq]; simp [Array.getD, hi', List.getD]
      have e2 : ∀ e : Edge, (!Region.binds .any e || listed.getD e.on false) = (!binds e || nthB listed.toList e.on) := by
        intro e
        have b1 : Region.binds .any e = binds e := by unfold Region.binds binds; cases e.ground <;> rfl
        have b2 : listed.getD e.on false = nthB listed.toList e.on := by
          rw [nthB_eq]
          by_cases h : e.on < listed.size
          · simp [Array.getD, h, List.getD]
          · simp [Array.getD, h, List.getD]
        rw [b1, b2]
      simp only [can, e1]
      congr 1
      simp only [List.getElem?_toArray, List.getElem?_eq_getElem hi2, Option.map_some, Option.getD_some, edgesOk_eq]
      rw [← Array.all_toList]
      congr 1
      funext e
      exact e2 e
    unfold Region.linearise.go
    simp only [hrs]
    cases hx : (enab listed.toList ops 0)[t % (enab listed.toList ops 0).length]? with
    | none =>
      refine ⟨[], by simp, ?_⟩
      show enab listed.toList ops 0 = []
      cases he : enab listed.toList ops 0 with
      | nil => rfl
      | cons a l =>
        rw [he] at hx
        have : t % (a :: l).length < (a :: l).length := Nat.mod_lt _ (by simp)
        rw [List.getElem?_eq_getElem this] at hx
        cases hx
    | some i =>
      have hmem : i ∈ enab listed.toList ops 0 := List.mem_of_getElem? hx
      obtain ⟨hi, hcan⟩ := mem_enab.1 hmem
      have hn : nthB listed.toList i = false := by simp [can] at hcan; exact hcan.1
      have hset : (listed.setIfInBounds i true).toList = setB listed.toList i := by rw [setB_eq]; simp
      obtain ⟨s, hs1, hs2⟩ := ih (t / (enab listed.toList ops 0).length) (listed.setIfInBounds i true) (i :: acc) (by simpa using hs) (by
        have := count_set (ls := listed.toList) (i := i) (by simp; omega) hn
        rw [hset]; omega)
      refine ⟨i :: s, ?_, hmem, by rw [← hset]; exact hs2⟩
      simp only [hs1]
      simp
def falses : List Oper → List Bool
  | [] => []
  | _ :: l => false :: falses l
theorem falses_eq (l : List Oper) : falses l = List.replicate l.length false := by
  induction l with
  | nil => rfl
  | cons a l ih => simp [falses, ih, List.replicate_succ]
theorem schedule_val (ops : List Oper) (t : Nat) : Val ops (falses ops) (Region.schedule true ops.toArray t) := by
  obtain ⟨s, h1, h2⟩ := go_val ops ops.length t (Array.replicate ops.length false) [] (by simp) (by simp)
  have e : Region.schedule true ops.toArray t = s := by
    simp only [Region.schedule, Bool.true_or, if_true, Region.linearise, List.size_toArray]
    simpa using h1
  rw [e, falses_eq]
  simpa using h2
section
variable {P : Program} {fid : Fm} {n : Nat} {post : Post} {k : List Item} {ρ ρ' : Env} {L L' : List HProp} {ops : List Oper}
theorem TK.regionD {id : Nat} {ls : List Bool} (hm : P.follows .mixedOrders = true) (hl : falses ops = ls) (h : TD P fid n post ops ls [] k ρ L) :
    TK P fid n post (.code (.region id ops.toArray true) :: k) ρ L := by
  subst hl
  intro w0 F a w cs g st
  have st2 : Sat w0 L (sep (seps []) F) { w with drawn := w.drawn + 1 } := by
    refine ⟨st.os, st.tape, st.out, ?_⟩
    obtain ⟨hh, hsub, hx⟩ := st.heap
    exact ⟨hh, hsub, sep_mono (fun _ y => y) (fun _ y => sep_emp.2 y) hx⟩
  have h1 := h w0 F a { w with drawn := w.drawn + 1 } _ g st2 (schedule_val ops (w.tape w.drawn (.order fid.fn id)))
  obtain ⟨v, w2, L', hp, st', hst⟩ := of_wpOps cs h1
  refine ⟨v, w2, L', hp, st', .of_steps (.one (stepR_region_draw (b := fid.frame) (a := fid.act a))) ?_⟩
  rw [hm]
  exact hst
def PV (P : Program) (n : Nat) (ρ : Env) (o : Oper) (v : Value) : Prop := ∀ (a : Act) (w : World), Agree n ρ a → (execOp a.eval o).run P w = .ok (.value v) w
theorem TO.pv {rest : List Oper} {sf : Option (List Bool × List HProp)} {d : Nat} {op : Op} {ty : TypeId} {pos : String} {af : Array Edge} {g : Option (Nat × Bool)} {v : Value}
    (hw : wants ops ρ g = some true) (hd : Nat.blt d n = true) (hv : PV P n ρ ⟨some d, op, ty, pos, af, g⟩ v) (h : TO P fid n post ops rest sf k ((d, v) :: ρ) L) :
    TO P fid n post ops (⟨some d, op, ty, pos, af, g⟩ :: rest) sf k ρ L :=
  TO.val hw hd fun w0 F a w gr st => ⟨v, L, w, hv a w gr, st, h⟩
theorem TO.pv0 {rest : List Oper} {sf : Option (List Bool × List HProp)} {op : Op} {ty : TypeId} {pos : String} {af : Array Edge} {g : Option (Nat × Bool)} {v : Value}
    (hw : wants ops ρ g = some true) (hv : PV P n ρ ⟨none, op, ty, pos, af, g⟩ v) (h : TO P fid n post ops rest sf k ρ L) :
    TO P fid n post ops (⟨none, op, ty, pos, af, g⟩ :: rest) sf k ρ L :=
  TO.val (o := ⟨none, op, ty, pos, af, g⟩) hw rfl fun w0 F a w gr st => ⟨v, L, w, hv a w gr, st, h⟩
def tmpsOf : List Operand → List Nat
  | [] => []
  | .tmp t :: l => t :: tmpsOf l
  | _ :: l => tmpsOf l
def hasN (t : Nat) : List Nat → Bool
  | [] => false
  | s :: l => bif Nat.beq t s then true else hasN t l
def rd (ops : List Oper) (o : Oper) : List Nat := match guardSlot ops o.guard with
  | some d => d :: tmpsOf o.op.operands.toList
  | none => tmpsOf o.op.operands.toList
def indep (ops : List Oper) (d : Nat) (oi oj : Oper) : Bool :=
  bif hasN d (rd ops oj) then false else match oj.dst with
    | none => true
    | some e => bif Nat.beq d e then false else !hasN e (rd ops oi)
def firstOk (all : List Oper) (ls : List Bool) (i d : Nat) (oi : Oper) : List Oper → Nat → Bool
  | [], _ => true
  | o :: r, j => bif nthB ls j then firstOk all ls i d oi r (j + 1) else bif Nat.beq j i then firstOk all ls i d oi r (j + 1) else
    bif edgeTo i o.after.toList then firstOk all ls i d oi r (j + 1) else bif indep all d oi o then firstOk all ls i d oi r (j + 1) else false
theorem hasN_iff {t : Nat} {l : List Nat} : hasN t l = true ↔ t ∈ l := by
  induction l with
  | nil => simp [hasN]
  | cons s l ih =>
    simp only [hasN]
    by_cases e : t = s
    · subst e; simp
    · rw [beq_ne e]; simp [ih, e]
theorem mem_tmpsOf {t : Nat} {l : List Operand} : t ∈ tmpsOf l ↔ .tmp t ∈ l := by
  induction l with
  | nil => simp [tmpsOf]
  | cons x l ih => cases x <;> simp [tmpsOf, ih]
theorem firstOk_spec {all : List Oper} {ls : List Bool} {i d : Nat} {oi : Oper} : ∀ (l : List Oper) (b : Nat), firstOk all ls i d oi l b = true →
    ∀ j o, l[j]? = some o → nthB ls (b + j) = true ∨ b + j = i ∨ edgeTo i o.after.toList = true ∨ indep all d oi o = true
  | [], b, _, j, o, hj => by simp at hj
  | x :: l, b, h, j, o, hj => by
    simp only [firstOk] at h
    cases j with
    | zero =>
      simp at hj
      subst hj
      simp only [Nat.add_zero]
      by_cases h1 : nthB ls b = true
      · exact .inl h1
      · by_cases h2 : b = i
        · exact .inr (.inl h2)
        · by_cases h3 : edgeTo i x.after.toList = true
          · exact .inr (.inr (.inl h3))
          · by_cases h4 : indep all d oi x = true
            · exact .inr (.inr (.inr h4))
            · simp [h1, beq_ne h2, h3, h4] at h
    | succ j =>
      have hrec : firstOk all ls i d oi l (b + 1) = true := by
        cases h1 : nthB ls b <;> cases h2 : Nat.beq b i <;> cases h3 : edgeTo i x.after.toList <;> cases h4 : indep all d oi x <;> simp_all
      have := firstOk_spec l (b + 1) hrec j o (by simpa using hj)
      rwa [show b + 1 + j = b + (j + 1) from by omega] at this
theorem edgeTo_spec {i : Nat} {es : List Edge} (h : edgeTo i es = true) : ∃ e ∈ es, e.on = i ∧ binds e = true := by
  induction es with
  | nil => simp [edgeTo] at h
  | cons e r ih =>
    simp only [edgeTo] at h
    by_cases h1 : e.on = i
    · by_cases h2 : binds e = true
      · exact ⟨e, by simp, h1, h2⟩
      · simp [h1, h2] at h
        obtain ⟨x, hx, hy⟩ := ih h
        exact ⟨x, by simp [hx], hy⟩
    · rw [beq_ne h1] at h
      simp at h
      obtain ⟨x, hx, hy⟩ := ih h
      exact ⟨x, by simp [hx], hy⟩
def Closed (ops : List Oper) (ls : List Bool) : Prop := ∀ j o, ops[j]? = some o → nthB ls j = true → edgesOk ls o.after.toList = true
def closedB (ls : List Bool) : List Oper → Nat → Bool
  | [], _ => true
  | o :: r, i => bif nthB ls i then (bif edgesOk ls o.after.toList then closedB ls r (i + 1) else false) else closedB ls r (i + 1)
theorem closedB_spec {ls : List Bool} : ∀ {l : List Oper} {b : Nat}, closedB ls l b = true → ∀ j o, l[j]? = some o → nthB ls (b + j) = true → edgesOk ls o.after.toList = true
  | [], b, _, j, o, hj, _ => by simp at hj
  | x :: l, b, h, j, o, hj, hn => by
    simp only [closedB] at h
    cases j with
    | zero =>
      simp at hj
      subst hj
      rw [Nat.add_zero] at hn
      rw [hn] at h
      cases he : edgesOk ls x.after.toList
      · simp [he] at h
      · rfl
    | succ j =>
      have hr : closedB ls l (b + 1) = true := by
        cases h1 : nthB ls b <;> cases h2 : edgesOk ls x.after.toList <;> simp_all
      exact closedB_spec hr j o (by simpa using hj) (by rwa [show b + 1 + j = b + (j + 1) from by omega])
theorem Closed.of {ls : List Bool} (h : closedB ls ops 0 = true) : Closed ops ls := fun j o hj hn => closedB_spec h j o hj (by rwa [Nat.zero_add])
theorem edgesOk_mono {ls : List Bool} {i : Nat} {es : List Edge} (h : edgesOk ls es = true) : edgesOk (setB ls i) es = true := by
  simp only [edgesOk_eq, List.all_eq_true, Bool.or_eq_true] at *
  exact fun e he => (h e he).imp id (nthB_setB _ _ _)
theorem Closed.set {ls : List Bool} {i : Nat} (h : Closed ops ls) (hc : can ls ops i = true) : Closed ops (setB ls i) := by
  intro j o hj hn
  by_cases e : j = i
  · subst e
    simp only [can, hj, Option.map_some, Option.getD_some, Bool.and_eq_true] at hc
    exact edgesOk_mono hc.2
  · rw [nthB_setB_ne _ (fun c => e c.symm)] at hn
    exact edgesOk_mono (h j o hj hn)
theorem val_split {i : Nat} : ∀ (s : List Nat) (ls : List Bool), Val ops ls s → Closed ops ls → can ls ops i = true → i < ops.length →
    ∃ s1 s2, s = s1 ++ i :: s2 ∧ (∀ j ∈ s1, j ≠ i ∧ ∃ ls', can ls' ops j = true ∧ nthB ls' i = false ∧ Closed ops ls' ∧ (∀ x, nthB ls x = true → nthB ls' x = true)) ∧ Val ops (setB ls i) (s1 ++ s2)
  | [], ls, hv, hcl, hc, hi => by
    have : enab ls ops 0 = [] := hv
    have h2 : i ∈ enab ls ops 0 := mem_enab.2 ⟨hi, hc⟩
    rw [this] at h2; simp at h2
  | j :: s, ls, hv, hcl, hc, hi => by
    obtain ⟨hj, hv'⟩ := hv
    by_cases e : j = i
    · subst e
      exact ⟨[], s, rfl, by simp, hv'⟩
    · obtain ⟨s1, s2, he, hall, hv2⟩ := val_split s (setB ls j) hv' (hcl.set (mem_enab.1 hj).2) (can_mono hc e) hi
      have hjc := (mem_enab.1 hj)
      refine ⟨j :: s1, s2, by simp [he], ?_, ?_⟩
      · intro x hx
        rcases List.mem_cons.1 hx with rfl | hx
        · exact ⟨e, ls, hjc.2, by simp [can] at hc; exact hc.1, hcl, fun _ h => h⟩
        · obtain ⟨a, ls', b, c, c2, d⟩ := hall x hx
          exact ⟨a, ls', b, c, c2, fun y hy => d y (nthB_setB _ _ _ hy)⟩
      · show j ∈ enab (setB ls i) ops 0 ∧ Val ops (setB (setB ls i) j) (s1 ++ s2)
        refine ⟨mem_enab.2 ⟨hjc.1, can_mono hjc.2 (fun h => e h.symm)⟩, ?_⟩
        rw [setB_comm]
        exact hv2
theorem eval_put {a : Act} {d : Nat} {v : Value} {x : Operand} (h : x ≠ .tmp d) : (a.put (some d) v).eval x = a.eval x := by
  cases x with
  | tmp t =>
    have : d ≠ t := fun e => h (by rw [e])
    simp [Act.eval, Act.put, Array.getD_eq_getD_getElem?, Array.getElem?_setIfInBounds_ne this]
  | const c => rfl
  | global g => rfl
  | func f => rfl
theorem arr_map_congr {α β : Type} {f g : α → β} {xs : Array α} (h : ∀ x ∈ xs, f x = g x) : xs.map f = xs.map g := Array.map_congr_left h
theorem opt_map_congr {f g : Operand → Value} {o : Option Operand} (h : ∀ x, o = some x → f x = g x) : o.map f = o.map g := by
  cases o with
  | none => rfl
  | some x => simp [h x rfl]
theorem execOp_congr {f g : Operand → Value} (o : Oper) (h : ∀ x ∈ o.op.operands.toList, f x = g x) : execOp f o = execOp g o := by
  obtain ⟨dst, op, ty, pos, af, gd⟩ := o
  have hcall : ∀ c : Call, (∀ x ∈ c.operands.toList, f x = g x) → resolve f c ty = resolve g c ty := by
    intro c hc
    obtain ⟨ce, xs, tys⟩ := c
    have hx : xs.map f = xs.map g := arr_map_congr fun x hx => hc x (by simp [Call.operands]; exact .inr hx)
    cases ce with
    | value y => have := hc y (by simp [Call.operands]); simp only [resolve, hx, this]
    | invoke y m => have := hc y (by simp [Call.operands]); simp only [resolve, hx, this]
    | builtin b => simp only [resolve, hx]
  cases op
  case call c => simp only [execOp, hcall c h]
  case go c => simp only [execOp, hcall c h]
  case defer c => simp only [execOp, hcall c h]
  case build t ps =>
    have : (ps.map fun (i, x) => (i, f x)) = ps.map fun (i, x) => (i, g x) := arr_map_congr fun p hp => by
      have := h p.2 (by simp only [Op.operands, List.mem_map, Array.mem_toList_iff]; exact ⟨p, hp, rfl⟩)
      simp [this]
    simp only [execOp, this]
  case buildSlice t len ps =>
    have : (ps.map fun (i, x) => (i, f x)) = ps.map fun (i, x) => (i, g x) := arr_map_congr fun p hp => by
      have := h p.2 (by simp only [Op.operands, List.mem_map, Array.mem_toList_iff]; exact ⟨p, hp, rfl⟩)
      simp [this]
    simp only [execOp, this]
  case makeFunc fn fi cap =>
    have h1 : fi.map f = fi.map g := arr_map_congr fun x hx => h x (by simp [Op.operands, hx])
    have h2 : cap.map f = cap.map g := arr_map_congr fun x hx => h x (by simp [Op.operands, hx])
    simp only [execOp, h1, h2]
  case makeMap t r =>
    have h1 : r.map f = r.map g := opt_map_congr fun x hx => h x (by subst hx; simp [Op.operands])
    simp only [execOp, h1]
  case slice t x lo hi mx =>
    have h0 : f x = g x := h x (by simp [Op.operands])
    have h1 : lo.map f = lo.map g := opt_map_congr fun x hx => h x (by subst hx; simp [Op.operands])
    have h2 : hi.map f = hi.map g := opt_map_congr fun x hx => h x (by subst hx; simp [Op.operands])
    have h3 : mx.map f = mx.map g := opt_map_congr fun x hx => h x (by subst hx; simp [Op.operands])
    simp only [execOp, h0, h1, h2, h3]
  case select cs bl =>
    have : ∀ s ∈ cs, f s.chan = g s.chan ∧ s.send.map f = s.send.map g := by
      intro s hs
      have hm : ∀ x ∈ (#[s.chan] ++ s.send.toArray), f x = g x := fun x hx => h x (by
        simp only [Op.operands, Array.mem_toList_iff, Array.mem_flatMap]
        exact ⟨s, hs, hx⟩)
      exact ⟨hm _ (by simp), opt_map_congr fun x hx => hm x (by simp [hx])⟩
    have e : (cs.mapM fun s => (do pure { chan := f s.chan, send := s.send.map f, zero := ← zeroValue s.elem : CommCase } : Sem CommCase)) =
        cs.mapM fun s => (do pure { chan := g s.chan, send := s.send.map g, zero := ← zeroValue s.elem : CommCase } : Sem CommCase) := by
      rw [Array.mapM_eq_mapM_toList, Array.mapM_eq_mapM_toList]
      congr 1
      have aux : ∀ l : List SelectCase, (∀ s ∈ l, f s.chan = g s.chan ∧ s.send.map f = s.send.map g) →
          (l.mapM fun s => (do pure { chan := f s.chan, send := s.send.map f, zero := ← zeroValue s.elem : CommCase } : Sem CommCase)) =
          l.mapM fun s => (do pure { chan := g s.chan, send := s.send.map g, zero := ← zeroValue s.elem : CommCase } : Sem CommCase) := by
        intro l
        induction l with
        | nil => intro _; rfl
        | cons s l ih =>
          intro hl
          have hs := hl s (by simp)
          simp only [List.mapM_cons, ih (fun x hx => hl x (by simp [hx])), hs.1, hs.2]
      exact aux _ fun s hs => this s (by simpa using hs)
    simp only [execOp, e]
  all_goals
    simp only [Op.operands] at h
    simp [execOp]
    try simp_all
theorem put_comm {a : Act} {d e : Nat} (h : d ≠ e) (v x : Value) : (a.put (some d) v).put (some e) x = (a.put (some e) x).put (some d) v := by
  simp only [Act.put]
  rw [Array.setIfInBounds_comm _ _ h]
theorem first_one {N : Prop} {w0 : World} {F : HProp} {I : World → Prop} {i d : Nat} {oi : Oper} {v : Value} :
    ∀ (s1 s2 : List Nat) (a : Act) (w : World),
      (∀ (a' : Act) (w : World) (s : List Nat), (N → I w) → (∀ t ∈ rd ops oi, a'.tmps[t]? = a.tmps[t]?) → wpI P ops I (QK P fid post k w0 F) s (a'.put (some d) v) w → wpI P ops I (QK P fid post k w0 F) (i :: s) a' w) →
      (∀ j ∈ s1, (N → isLate ops j = false) ∧ ∀ oj, ops[j]? = some oj → indep ops d oi oj = true) → (N → I w) →
      wpI P ops I (QK P fid post k w0 F) (s1 ++ s2) (a.put (some d) v) w → wpI P ops I (QK P fid post k w0 F) (s1 ++ i :: s2) a w
  | [], s2, a, w, hst, _, hI, h => hst a w s2 hI (fun _ _ => rfl) h
  | j :: s1, s2, a, w, hst, hind, hI, h => by
    have ih := fun (a2 : Act) (w : World) (hs : ∀ t ∈ rd ops oi, a2.tmps[t]? = a.tmps[t]?) hI h =>
      first_one (N := N) (w0 := w0) (F := F) (v := v) s1 s2 a2 w (fun a' w s hI he hh => hst a' w s hI (fun t ht => (he t ht).trans (hs t ht)) hh) (fun x hx => hind x (by simp [hx])) hI h
    have hlate := (hind j (by simp)).1
    cases hoj : ops[j]? with
    | none =>
      simp only [List.cons_append, wpI, hoj] at h ⊢
      exact ih a w (fun _ _ => rfl) hI h
    | some oj =>
      have hin := (hind j (by simp)).2 oj hoj
      simp only [indep] at hin
      have hnr : d ∉ rd ops oj := by
        intro hm
        rw [hasN_iff.2 hm] at hin
        simp at hin
      have hnr' : hasN d (rd ops oj) = false := by
        cases hx : hasN d (rd ops oj) with
        | false => rfl
        | true => exact absurd (hasN_iff.1 hx) hnr
      rw [hnr'] at hin
      have hops : ∀ x ∈ oj.op.operands.toList, (a.put (some d) v).eval x = a.eval x := by
        intro x hx
        refine eval_put fun e => hnr ?_
        subst e
        have := mem_tmpsOf.2 hx
        unfold rd; split
        · simp [this]
        · exact this
      have hex : execOp (a.put (some d) v).eval oj = execOp a.eval oj := execOp_congr oj hops
      have hyj : Region.wanted oj (yielded ops.toArray (a.put (some d) v).tmps) = Region.wanted oj (yielded ops.toArray a.tmps) := by
        unfold Region.wanted
        cases hg : oj.guard with
        | none => rfl
        | some p =>
          obtain ⟨q, want⟩ := p
          simp only [yielded]
          cases hq : ops[q]? with
          | none => simp [hq]
          | some oq =>
            cases hdq : oq.dst with
            | none => simp [hq, hdq]
            | some dq =>
              have : d ≠ dq := by
                intro e
                apply hnr
                unfold rd
                have : guardSlot ops oj.guard = some dq := by
                  rw [hg]; simp only [guardSlot, nth_eq, hq]
                  obtain ⟨x1, x2, x3, x4, x5, x6⟩ := oq
                  simp at hdq; subst hdq; rfl
                rw [this]; simp [e]
              simp [hq, hdq, Act.put, Array.getElem?_setIfInBounds_ne this]
      have hnext : ∀ (a2 : Act) (x : Value) (w' : World), a2.tmps = a.tmps → (N → I w') → wpI P ops I (QK P fid post k w0 F) (s1 ++ s2) ((a2.put (some d) v).put oj.dst x) w' →
          wpI P ops I (QK P fid post k w0 F) (s1 ++ i :: s2) (a2.put oj.dst x) w' := by
        intro a2 x w' ha2 hI' hx
        cases hdj : oj.dst with
        | none =>
          rw [hdj] at hx
          exact ih a2 w' (fun t _ => by rw [ha2]) hI' hx
        | some e =>
          rw [hdj] at hx hin
          replace hin : (bif Nat.beq d e then false else !hasN e (rd ops oi)) = true := hin
          have hde : d ≠ e := by
            intro c; subst c; simp at hin
          rw [put_comm hde] at hx
          have hne : e ∉ rd ops oi := by
            intro hm
            rw [beq_ne hde, hasN_iff.2 hm] at hin
            simp at hin
          refine ih (a2.put (some e) x) w' (fun t ht => ?_) hI' hx
          have : e ≠ t := fun c => hne (by rw [c]; exact ht)
          simp only [Act.put]
          rw [Array.getElem?_setIfInBounds_ne this, ha2]
      simp only [List.cons_append, wpI, hoj, hyj] at h ⊢
      split
      · rename_i hwj
        rw [if_pos hwj] at h
        simp only [hex] at h ⊢
        unfold upS at h ⊢
        split at h
        · exact ⟨h.1, hnext a _ _ rfl (fun hn => (h.1 (hlate hn)).elim id (fun e => by rw [e]; exact hI hn)) h.2⟩
        · exact ⟨h.1, hnext a _ _ rfl (fun hn => (h.1 (hlate hn)).elim id (fun e => by rw [e]; exact hI hn)) h.2⟩
        · exact h.mono fun e w' ⟨x, e1, e2⟩ => ⟨x, e1, e2.1, hnext a _ _ rfl (fun hn => (e2.1 (hlate hn)).elim id (fun e => by rw [e]; exact hI hn)) e2.2⟩
        · exact Rows.mono h fun x w' hx => ⟨hx.1, hnext a _ _ rfl (fun hn => (hx.1 (hlate hn)).elim id (fun e => by rw [e]; exact hI hn)) hx.2⟩
        · exact Rnds.mono h fun x w' hx => ⟨hx.1, hnext a _ _ rfl (fun hn => (hx.1 (hlate hn)).elim id (fun e => by rw [e]; exact hI hn)) hx.2⟩
        · exact h.elim
      · rename_i hwj
        rw [if_neg hwj] at h
        exact hnext a _ _ rfl hI h
theorem wanted_congr {oi : Oper} {a a' : Act} (h : ∀ t ∈ rd ops oi, a'.tmps[t]? = a.tmps[t]?) : Region.wanted oi (yielded ops.toArray a'.tmps) = Region.wanted oi (yielded ops.toArray a.tmps) := by
  unfold Region.wanted
  cases hg : oi.guard with
  | none => rfl
  | some p =>
    obtain ⟨q, want⟩ := p
    simp only [yielded]
    cases hq : ops[q]? with
    | none => simp [hq]
    | some oq =>
      cases hdq : oq.dst with
      | none => simp [hq, hdq]
      | some dq =>
        have hs : guardSlot ops oi.guard = some dq := by
          rw [hg]; simp only [guardSlot, nth_eq, hq]
          obtain ⟨x1, x2, x3, x4, x5, x6⟩ := oq
          simp at hdq; subst hdq; rfl
        have := h dq (by unfold rd; rw [hs]; simp)
        simp [hq, hdq, this]
theorem exec_congr {oi : Oper} {a a' : Act} (h : ∀ t ∈ rd ops oi, a'.tmps[t]? = a.tmps[t]?) : execOp a'.eval oi = execOp a.eval oi := by
  refine execOp_congr oi fun x hx => ?_
  cases x with
  | tmp t =>
    have := h t (by
      have := mem_tmpsOf.2 hx
      unfold rd; split
      · simp [this]
      · exact this)
    simp [Act.eval, Array.getD_eq_getD_getElem?, this]
  | const c => rfl
  | global g => rfl
  | func f => rfl
theorem loudEdges_spec {all : List Oper} {es : List Edge} {j : Nat} : ∀ {l : List Oper} {b : Nat}, loudEdges all es j l b = true → ∀ i o, l[i]? = some o → b + i ≠ j → pureOp o.op = false → storeOp o.op = false → edgeL all (b + i) es = true
  | [], b, _, i, o, ho, _, _, _ => by simp at ho
  | x :: l, b, h, i, o, ho, hj, hp, hst => by
    simp only [loudEdges] at h
    cases i with
    | zero =>
      simp at ho
      subst ho
      rw [Nat.add_zero] at hj ⊢
      rw [beq_ne hj, hp, hst] at h
      cases he : edgeL all b es
      · simp [he] at h
      · rfl
    | succ i =>
      have hr : loudEdges all es j l (b + 1) = true := by
        cases h1 : Nat.beq b j <;> cases h2 : pureOp x.op <;> cases h3 : storeOp x.op <;> cases h4 : edgeL all b es <;> simp_all
      have := loudEdges_spec hr i o (by simpa using ho) (by omega) hp hst
      rwa [show b + 1 + i = b + (i + 1) from by omega] at this
theorem late_spec {j : Nat} (h : isLate ops j = true) : ∃ o, ops[j]? = some o ∧ ∀ i oi, i ≠ j → ops[i]? = some oi → pureOp oi.op = false → storeOp oi.op = false → edgeL ops i o.after.toList = true := by
  unfold isLate at h
  rw [nth_eq] at h
  cases ho : ops[j]? with
  | none => simp [ho] at h
  | some o =>
    simp only [ho] at h
    exact ⟨o, rfl, fun i oi hi hoi hp hst => by
      have := loudEdges_spec h i oi hoi (by omega) hp hst
      rwa [Nat.zero_add] at this⟩
theorem restLate_spec {all : List Oper} {ls : List Bool} : ∀ {l : List Oper} {b : Nat}, restLate all ls l b = true → ∀ i, i < l.length → nthB ls (b + i) = false → isLate all (b + i) = true
  | [], b, _, i, hi, _ => by simp at hi
  | x :: l, b, h, i, hi, hn => by
    simp only [restLate] at h
    cases i with
    | zero =>
      rw [Nat.add_zero] at hn ⊢
      rw [hn] at h
      cases he : isLate all b
      · simp [he] at h
      · rfl
    | succ i =>
      have hr : restLate all ls l (b + 1) = true := by
        cases h1 : nthB ls b <;> cases h2 : isLate all b <;> simp_all
      have := restLate_spec hr i (by simpa using hi) (by rwa [show b + 1 + i = b + (i + 1) from by omega])
      rwa [show b + 1 + i = b + (i + 1) from by omega] at this
theorem can_edge {ls : List Bool} {j i : Nat} {oj : Oper} (hoj : ops[j]? = some oj) (hc : can ls ops j = true) (he : edgeTo i oj.after.toList = true) : nthB ls i = true := by
  obtain ⟨e, he, h2, h3⟩ := edgeTo_spec he
  simp only [can, hoj, Option.map_some, Option.getD_some, edgesOk_eq, Bool.and_eq_true, List.all_eq_true] at hc
  have := hc.2 e he
  rw [h3, h2] at this
  simpa using this
theorem edge2_ex {ls : List Bool} {i : Nat} (hcl : Closed ops ls) : ∀ {es : List Edge}, (∀ e ∈ es, (!binds e || nthB ls e.on) = true) → edge2 ops i es = true → nthB ls i = true := by
  intro es hall he
  induction es with
  | nil => simp [edge2] at he
  | cons e r ih =>
    have ih' := fun h => ih (fun x hx => hall x (by simp [hx])) h
    simp only [edge2] at he
    cases hb : binds e
    · simp [hb] at he; exact ih' he
    · have hon : nthB ls e.on = true := by
        have := hall e (by simp)
        rw [hb] at this
        simpa using this
      simp only [hb, cond_true] at he
      by_cases h1 : e.on = i
      · rw [← h1]; exact hon
      · rw [beq_ne h1] at he
        simp only [cond_false, nth_eq] at he
        cases ho : ops[e.on]? with
        | none => simp [ho] at he; exact ih' he
        | some o =>
          simp only [ho] at he
          cases h2 : edgeTo i o.after.toList
          · simp [h2] at he; exact ih' he
          · have hcl2 := hcl e.on o ho hon
            simp only [edgesOk_eq, List.all_eq_true] at hcl2
            obtain ⟨e', he', h3, h4⟩ := edgeTo_spec h2
            have := hcl2 e' he'
            rw [h4, h3] at this
            simpa using this
theorem edge3_ex {ls : List Bool} {i : Nat} (hcl : Closed ops ls) : ∀ {es : List Edge}, (∀ e ∈ es, (!binds e || nthB ls e.on) = true) → edge3 ops i es = true → nthB ls i = true := by
  intro es hall he
  induction es with
  | nil => simp [edge3] at he
  | cons e r ih =>
    have ih' := fun h => ih (fun x hx => hall x (by simp [hx])) h
    simp only [edge3] at he
    cases hb : binds e
    · simp [hb] at he; exact ih' he
    · have hon : nthB ls e.on = true := by
        have := hall e (by simp)
        rw [hb] at this
        simpa using this
      simp only [hb, cond_true] at he
      by_cases h1 : e.on = i
      · rw [← h1]; exact hon
      · rw [beq_ne h1] at he
        simp only [cond_false, nth_eq] at he
        cases ho : ops[e.on]? with
        | none => simp [ho] at he; exact ih' he
        | some o =>
          simp only [ho] at he
          cases h2 : edge2 ops i o.after.toList
          · simp [h2] at he; exact ih' he
          · have hcl2 := hcl e.on o ho hon
            simp only [edgesOk_eq, List.all_eq_true] at hcl2
            exact edge2_ex hcl hcl2 h2
theorem can_edge2 {ls : List Bool} {j i : Nat} {oj : Oper} (hcl : Closed ops ls) (hoj : ops[j]? = some oj) (hc : can ls ops j = true) (he : edgeL ops i oj.after.toList = true) : nthB ls i = true := by
  simp only [can, hoj, Option.map_some, Option.getD_some, edgesOk_eq, Bool.and_eq_true, List.all_eq_true] at hc
  unfold edgeL at he
  cases h2 : edge2 ops i oj.after.toList
  · rw [h2] at he
    exact edge3_ex hcl hc.2 he
  · exact edge2_ex hcl hc.2 h2
theorem TD.firstAny {ls ls' : List Bool} {R : List HProp} {i d : Nat} {op : Op} {ty : TypeId} {pos : String} {af : Array Edge} {g : Option (Nat × Bool)} {v : Value} (N : Prop) (hN : N → pureOp op = false ∧ storeOp op = false)
    (hi : i ∈ enab ls ops 0) (ho : nth ops i = some ⟨some d, op, ty, pos, af, g⟩) (hd : Nat.blt d n = true)
    (hok : firstOk ops ls i d ⟨some d, op, ty, pos, af, g⟩ ops 0 = true) (hcl : closedB ls ops 0 = true)
    (hv : ∀ (w0 : World) (F : HProp) (a : Act), Agree n ρ a → ∀ (a' : Act) (w : World) (s : List Nat), (N → IW w0 (sep (seps R) F) w) → (∀ t ∈ rd ops ⟨some d, op, ty, pos, af, g⟩, a'.tmps[t]? = a.tmps[t]?) →
      wpI P ops (IW w0 (sep (seps R) F)) (QK P fid post k w0 F) s (a'.put (some d) v) w → wpI P ops (IW w0 (sep (seps R) F)) (QK P fid post k w0 F) (i :: s) a' w) (hl : setB ls i = ls')
    (h : TD P fid n post ops ls' R k ((d, v) :: ρ) L) : TD P fid n post ops ls R k ρ L := by
  subst hl
  intro w0 F a w s gr st hs
  obtain ⟨hi1, hi2⟩ := mem_enab.1 hi
  obtain ⟨s1, s2, rfl, hall, hv2⟩ := val_split s ls hs (Closed.of hcl) hi2 hi1
  refine first_one (N := N) (oi := ⟨some d, op, ty, pos, af, g⟩) (v := v) s1 s2 a w (hv w0 F a gr) ?_ (fun _ => ⟨L, st⟩) (h w0 F _ w _ (gr.put hd v) st hv2)
  intro j hj
  obtain ⟨hne, ls2, hc, hn, hcl2, hmono⟩ := hall j hj
  constructor
  · intro hn'
    cases hlj : isLate ops j with
    | false => rfl
    | true =>
      obtain ⟨o, h2, h3⟩ := late_spec hlj
      have := can_edge2 hcl2 h2 hc (h3 i _ (fun e => hne e.symm) (by rw [← nth_eq]; exact ho) (hN hn').1 (hN hn').2)
      rw [hn] at this; cases this
  · intro oj hoj
    rcases firstOk_spec ops 0 hok j oj hoj with h1 | h1 | h1 | h1
    · rw [Nat.zero_add] at h1
      have := hmono j h1
      simp [can, this] at hc
    · exact absurd (by simpa using h1) hne
    · have := can_edge hoj hc h1
      rw [hn] at this; cases this
    · exact h1
def firstPure (ls : List Bool) : List Oper → Nat → Option Nat
  | [], _ => none
  | o :: r, i => bif nthB ls i then firstPure ls r (i + 1) else bif edgesOk ls o.after.toList then (bif pureOp o.op then some i else firstPure ls r (i + 1)) else firstPure ls r (i + 1)
def firstSkip (all : List Oper) (ρ : Env) (ls : List Bool) : List Oper → Nat → Option Nat
  | [], _ => none
  | o :: r, i => bif nthB ls i then firstSkip all ρ ls r (i + 1) else bif edgesOk ls o.after.toList then (match o.guard with
    | none => firstSkip all ρ ls r (i + 1)
    | some g => match wants all ρ (some g) with
      | some false => some i
      | _ => firstSkip all ρ ls r (i + 1)) else firstSkip all ρ ls r (i + 1)
theorem firstPure_mem {ls : List Bool} : ∀ {l : List Oper} {b i : Nat}, firstPure ls l b = some i → i ∈ enab ls l b
  | [], b, i, h => by simp [firstPure] at h
  | o :: l, b, i, h => by
    simp only [firstPure] at h
    simp only [enab]
    cases h1 : nthB ls b <;> cases h2 : edgesOk ls o.after.toList <;> cases h3 : pureOp o.op <;> simp [h1, h2, h3] at h ⊢
    · exact firstPure_mem h
    · exact firstPure_mem h
    · exact .inr (firstPure_mem h)
    · exact .inl h.symm
    all_goals exact firstPure_mem h
theorem firstSkip_mem {all : List Oper} {ls : List Bool} : ∀ {l : List Oper} {b i : Nat}, firstSkip all ρ ls l b = some i → i ∈ enab ls l b
  | [], b, i, h => by simp [firstSkip] at h
  | o :: l, b, i, h => by
    simp only [firstSkip] at h
    simp only [enab]
    cases h1 : nthB ls b <;> cases h2 : edgesOk ls o.after.toList <;> simp [h1, h2] at h ⊢
    · exact firstSkip_mem h
    · split at h
      · exact .inr (firstSkip_mem h)
      · split at h
        · cases h; exact .inl rfl
        · exact .inr (firstSkip_mem h)
    all_goals exact firstSkip_mem h
theorem TD.pure {ls ls' : List Bool} {R : List HProp} {i d : Nat} {op : Op} {ty : TypeId} {pos : String} {af : Array Edge} {g : Option (Nat × Bool)} {v : Value}
    (hi : firstPure ls ops 0 = some i) (ho : nth ops i = some ⟨some d, op, ty, pos, af, g⟩) (hw : wants ops ρ g = some true) (hd : Nat.blt d n = true)
    (hok : firstOk ops ls i d ⟨some d, op, ty, pos, af, g⟩ ops 0 = true) (hcl : closedB ls ops 0 = true) (hv : PV P n ρ ⟨some d, op, ty, pos, af, g⟩ v) (hl : setB ls i = ls')
    (h : TD P fid n post ops ls' R k ((d, v) :: ρ) L) : TD P fid n post ops ls R k ρ L := by
  refine TD.firstAny False (fun h => h.elim) (firstPure_mem hi) ho hd hok hcl ?_ hl h
  intro w0 F a gr a' w s hI he hh
  have ho' : ops[i]? = some (⟨some d, op, ty, pos, af, g⟩ : Oper) := by rw [nth_eq] at ho; exact ho
  have hwt : Region.wanted (⟨some d, op, ty, pos, af, g⟩ : Oper) (yielded ops.toArray a'.tmps) = true := by rw [wanted_congr he]; exact wanted_eq gr hw
  have hr : (execOp a'.eval (⟨some d, op, ty, pos, af, g⟩ : Oper)).run P w = .ok (.value v) w := by rw [exec_congr he]; exact hv a w gr
  exact wpI_value ho' hwt hr (.inr rfl) hh
theorem TD.pass {ls ls' : List Bool} {R : List HProp} {i d : Nat} {op : Op} {ty : TypeId} {pos : String} {af : Array Edge} {g : Option (Nat × Bool)}
    (hi : firstSkip ops ρ ls ops 0 = some i) (ho : nth ops i = some ⟨some d, op, ty, pos, af, g⟩) (hw : wants ops ρ g = some false) (hd : Nat.blt d n = true)
    (hok : firstOk ops ls i d ⟨some d, op, ty, pos, af, g⟩ ops 0 = true) (hcl : closedB ls ops 0 = true) (hl : setB ls i = ls')
    (h : TD P fid n post ops ls' R k ((d, undef) :: ρ) L) : TD P fid n post ops ls R k ρ L := by
  refine TD.firstAny False (fun h => h.elim) (firstSkip_mem hi) ho hd hok hcl ?_ hl h
  intro w0 F a gr a' w s hI he hh
  have ho' : ops[i]? = some (⟨some d, op, ty, pos, af, g⟩ : Oper) := by rw [nth_eq] at ho; exact ho
  have hwt : Region.wanted (⟨some d, op, ty, pos, af, g⟩ : Oper) (yielded ops.toArray a'.tmps) = false := by rw [wanted_congr he]; exact wanted_eq gr hw
  simp only [wpI, ho', hwt, Bool.false_eq_true, if_false]
  exact hh
def isLoad : Op → Bool
  | .load .. => true
  | _ => false
def firstLoad (ls : List Bool) : List Oper → Nat → Option Nat
  | [], _ => none
  | o :: r, i => bif nthB ls i then firstLoad ls r (i + 1) else bif edgesOk ls o.after.toList then (bif isLoad o.op then some i else firstLoad ls r (i + 1)) else firstLoad ls r (i + 1)
theorem firstLoad_mem {ls : List Bool} : ∀ {l : List Oper} {b i : Nat}, firstLoad ls l b = some i → i ∈ enab ls l b
  | [], b, i, h => by simp [firstLoad] at h
  | o :: l, b, i, h => by
    simp only [firstLoad] at h
    simp only [enab]
    cases h1 : nthB ls b <;> cases h2 : edgesOk ls o.after.toList <;> cases h3 : isLoad o.op <;> simp [h1, h2, h3] at h ⊢
    · exact firstLoad_mem h
    · exact firstLoad_mem h
    · exact .inr (firstLoad_mem h)
    · exact .inl h.symm
    all_goals exact firstLoad_mem h
theorem TD.load {ls ls' : List Bool} {R r : List HProp} {i d t : Nat} {x : Operand} {c : HProp} {ty : TypeId} {pos : String} {af : Array Edge} {g : Option (Nat × Bool)} {v : Value}
    (hi : firstLoad ls ops 0 = some i) (ho : nth ops i = some ⟨some d, .load t x, ty, pos, af, g⟩) (hw : wants ops ρ g = some true) (hd : Nat.blt d n = true)
    (hok : firstOk ops ls i d ⟨some d, .load t x, ty, pos, af, g⟩ ops 0 = true) (hcl : closedB ls ops 0 = true) (hp : Pick R c r)
    (hv : ∀ (w0 : World) (F : HProp) (a : Act) (w : World), Agree n ρ a → Sat w0 [c] F w → (execOp a.eval (⟨some d, .load t x, ty, pos, af, g⟩ : Oper)).run P w = .ok (.value v) w) (hl : setB ls i = ls')
    (h : TD P fid n post ops ls' R k ((d, v) :: ρ) L) : TD P fid n post ops ls R k ρ L := by
  refine TD.firstAny True (fun _ => ⟨rfl, rfl⟩) (firstLoad_mem hi) ho hd hok hcl ?_ hl h
  intro w0 F a gr a' w s hI he hh
  have ho' : ops[i]? = some (⟨some d, .load t x, ty, pos, af, g⟩ : Oper) := by rw [nth_eq] at ho; exact ho
  have hwt : Region.wanted (⟨some d, .load t x, ty, pos, af, g⟩ : Oper) (yielded ops.toArray a'.tmps) = true := by rw [wanted_congr he]; exact wanted_eq gr hw
  obtain ⟨L1, s1⟩ := hI trivial
  have s2 : Sat w0 [c] (sep (seps r) (sep F (seps L1))) w := by
    refine ⟨s1.os, s1.tape, s1.out, ?_⟩
    obtain ⟨hp', hsub, hx⟩ := s1.heap
    refine ⟨hp', hsub, ?_⟩
    have x1 := sep_comm hx
    have x2 := sep_assoc.1 x1
    have x3 := sep_mono (fun _ y => (hp _).1 y) (fun _ y => y) x2
    have x4 := sep_assoc.1 x3
    exact sep_mono (fun _ y => sep_comm (sep_emp.2 y)) (fun _ y => y) x4
  have hr : (execOp a'.eval (⟨some d, .load t x, ty, pos, af, g⟩ : Oper)).run P w = .ok (.value v) w := by rw [exec_congr he]; exact hv w0 _ a w gr s2
  exact wpI_value ho' hwt hr (.inl ⟨L1, s1⟩) hh
theorem TD.thaw {ls : List Bool} {R : List HProp} {i : Nat} (_he : enab ls ops 0 = [i]) (_hl : isLate ops i = true) (hcl : restLate ops ls ops 0 = true) (h : TD P fid n post ops ls [] k ρ (L ++ R)) : TD P fid n post ops ls R k ρ L := by
  intro w0 F a w s g st hs
  have st' : Sat w0 (L ++ R) (sep (seps []) F) w := by
    refine ⟨st.os, st.tape, st.out, ?_⟩
    obtain ⟨hh, hsub, hx⟩ := st.heap
    refine ⟨hh, hsub, ?_⟩
    have x1 := sep_assoc.2 hx
    exact sep_mono (fun _ y => seps_append.2 y) (fun _ y => sep_emp.2 y) x1
  have h1 := h w0 F a w s g st' hs
  refine wpI_mono s a w ?_ h1
  intro j hj hlj
  exfalso
  have hall : ∀ (s : List Nat) (ls2 : List Bool), (∀ x, nthB ls x = true → nthB ls2 x = true) → Val ops ls2 s → ∀ y ∈ s, y < ops.length ∧ nthB ls y = false := by
    intro s
    induction s with
    | nil => intro ls2 _ _ y hy; simp at hy
    | cons z s ih =>
      intro ls2 hb hv y hy
      obtain ⟨hz, hv'⟩ := hv
      obtain ⟨hz1, hz2⟩ := mem_enab.1 hz
      rcases List.mem_cons.1 hy with rfl | hy
      · refine ⟨hz1, ?_⟩
        cases hx : nthB ls y with
        | false => rfl
        | true => have := hb y hx; simp [can, this] at hz2
      · exact ih (setB ls2 z) (fun x hx => nthB_setB _ _ _ (hb x hx)) hv' y hy
  obtain ⟨a1, a2⟩ := hall s ls (fun _ h => h) hs j hj
  have := restLate_spec hcl j a1 (by rwa [Nat.zero_add])
  rw [Nat.zero_add, hlj] at this
  cases this
theorem TD.env {ls : List Bool} {R : List HProp} (s : Sub ρ ρ') (h : TD P fid n post ops ls R k ρ' L) : TD P fid n post ops ls R k ρ L :=
  fun w0 F a w x g st hs => h w0 F a w x (g.sub s) st hs
theorem TD.guardP {ls : List Bool} {R : List HProp} {i d : Nat} {p : Prop} [Decidable p] {o : Oper} (hi : i ∈ enab ls ops 0) (ho : nth ops i = some o) (hgd : guardSlot ops o.guard = some d) (hl : look d ρ = some (.bool (decide p)))
    (ht : p → TD P fid n post ops ls R k ((d, .bool true) :: ρ) L) (hf : ¬ p → TD P fid n post ops ls R k ((d, .bool false) :: ρ) L) : TD P fid n post ops ls R k ρ L := by
  by_cases h : p
  · exact TD.env (Sub.cons (by rw [hl, decide_eq_true h]) rfl (Sub.refl _)) (ht h)
  · exact TD.env (Sub.cons (by rw [hl, decide_eq_false h]) rfl (Sub.refl _)) (hf h)
theorem TD.guardB {ls : List Bool} {R : List HProp} {i d : Nat} {t : Bool} {o : Oper} (hi : i ∈ enab ls ops 0) (ho : nth ops i = some o) (hgd : guardSlot ops o.guard = some d) (hl : look d ρ = some (.bool t))
    (ht : t = true → TD P fid n post ops ls R k ((d, .bool true) :: ρ) L) (hf : t = false → TD P fid n post ops ls R k ((d, .bool false) :: ρ) L) : TD P fid n post ops ls R k ρ L := by
  cases t
  · exact TD.env (Sub.cons hl rfl (Sub.refl _)) (hf rfl)
  · exact TD.env (Sub.cons hl rfl (Sub.refl _)) (ht rfl)
theorem mem0 {i : Nat} {es l : List Nat} (h : l = i :: es) : i ∈ l := by rw [h]; simp
theorem PV.door {o : Oper} {v : Value} (h : PV P n ρ o v) : PV P n ρ o v := h
theorem isCall {v : Value} {dst : Option Nat} {c : Call} {ty : TypeId} {pos : String} {af : Array Edge} {g : Option (Nat × Bool)}
    (h : PV P n ρ ⟨dst, .call c, ty, pos, af, g⟩ v) : PV P n ρ ⟨dst, .call c, ty, pos, af, g⟩ v := h
theorem isSlice {v : Value} {dst : Option Nat} {t : TypeId} {x : Operand} {lo hi mx : Option Operand} {ty : TypeId} {pos : String} {af : Array Edge} {g : Option (Nat × Bool)}
    (h : PV P n ρ ⟨dst, .slice t x lo hi mx, ty, pos, af, g⟩ v) : PV P n ρ ⟨dst, .slice t x lo hi mx, ty, pos, af, g⟩ v := h
theorem TO.isCall {rest : List Oper} {sf : Option (List Bool × List HProp)} {dst : Option Nat} {c : Call} {ty : TypeId} {pos : String} {af : Array Edge} {g : Option (Nat × Bool)}
    (h : TO P fid n post ops (⟨dst, .call c, ty, pos, af, g⟩ :: rest) sf k ρ L) : TO P fid n post ops (⟨dst, .call c, ty, pos, af, g⟩ :: rest) sf k ρ L := h
theorem TO.is {l : List Oper} {sf : Option (List Bool × List HProp)} (h : TO P fid n post ops l sf k ρ L) : TO P fid n post ops l sf k ρ L := h
theorem TO.door {o : Oper} {rest : List Oper} {sf : Option (List Bool × List HProp)} (h : TO P fid n post ops (o :: rest) sf k ρ L) : TO P fid n post ops (o :: rest) sf k ρ L := h
theorem TD.is {ls : List Bool} {R : List HProp} (h : TD P fid n post ops ls R k ρ L) : TD P fid n post ops ls R k ρ L := h
theorem TK.is (h : TK P fid n post k ρ L) : TK P fid n post k ρ L := h
end
end SL
end
section
set_option linter.unusedVariables false
set_option linter.unusedSimpArgs false
namespace SL
open Go
class TSc (P : Program) (t : Nat) : Prop where
  run : ∀ w : World, (isAgg t).run P w = Go.Result.ok false w ∧ (Go.sizeOf t).run P w = Go.Result.ok 1 w
class TAg (P : Program) (t : Nat) (n : outParam Nat) : Prop where
  run : ∀ w : World, (isAgg t).run P w = Go.Result.ok true w ∧ (Go.sizeOf t).run P w = Go.Result.ok n w
class TZe (P : Program) (t : Nat) (z : outParam Value) : Prop where
  run : ∀ w : World, (zeroValue t).run P w = Go.Result.ok z w
class TFa (P : Program) (s f : Nat) (off : outParam Nat) : Prop where
  run : ∀ (b o : Nat) (w : World), (Instr.fieldAt s (.pointer (some ⟨b, o, Option.none⟩)) f).run P w = Go.Result.ok (.pointer (some ⟨b, o + off, Option.none⟩)) w
class TSl (P : Program) (t : Nat) (e sz by_ : outParam Nat) : Prop where
  und : P.underlying t = some (.slice e)
  size : ∀ w : World, (Go.sizeOf e).run P w = Go.Result.ok sz w
  info : ∀ w : World, (typeInfo e).run P w = Go.Result.ok ((P.info? e).getD default) w
  bytes : ((P.info? e).getD default).bytes = by_
class TPt (P : Program) (t : Nat) : Prop where
  und : ∃ e, P.underlying t = some (.pointer e)
class TMp (P : Program) (t : Nat) (k e : outParam Nat) : Prop where
  und : P.underlying t = some (.map k e)
theorem run_und {P : Program} {t : Nat} {d : TypeDesc} (h : P.underlying t = some d) (w : World) : (underlying t).run P w = Go.Result.ok d w := by
  simp [underlying, h]
def Cut (cs : List Value) (off n : Nat) (vs : List Value) : Prop := vs.length = n ∧ ∀ j v, vs[j]? = some v → cs[off + j]? = some v
theorem Cut.intro {cs vs : List Value} {off n : Nat} (h1 : vs.length = n) (h2 : ∀ j v, vs[j]? = some v → cs[off + j]? = some v) : Cut cs off n vs := ⟨h1, h2⟩
theorem Cut.at_ {cs vs : List Value} {off n j : Nat} {v : Value} (h : Cut cs off n vs) (hv : vs[j]? = some v) : cs[off + j]? = some v := h.2 j v hv
theorem Cut.zero (cs : List Value) : Cut cs 0 0 [] := ⟨rfl, by simp⟩
theorem Cut.take {c : Value} {cs vs : List Value} {n : Nat} (h : Cut cs 0 n vs) : Cut (c :: cs) 0 (n + 1) (c :: vs) := by
  refine ⟨by simp [h.1], fun j v hj => ?_⟩
  cases j with
  | zero => simpa using hj
  | succ j => have := h.2 j v (by simpa using hj); simpa using this
theorem Cut.drop {c : Value} {cs vs : List Value} {m n : Nat} (h : Cut cs m n vs) : Cut (c :: cs) (m + 1) n vs := by
  refine ⟨h.1, fun j v hj => ?_⟩
  have := h.2 j v hj
  rw [show m + 1 + j = (m + j) + 1 from by omega]
  simpa using this
def PutAt (cs : List Value) (off : Nat) (vs cs' : List Value) : Prop := off + vs.length ≤ cs.length ∧ cs' = cs.take off ++ vs ++ cs.drop (off + vs.length)
theorem PutAt.intro {cs vs cs' : List Value} {off : Nat} (h1 : off + vs.length ≤ cs.length) (h2 : cs' = cs.take off ++ vs ++ cs.drop (off + vs.length)) : PutAt cs off vs cs' := ⟨h1, h2⟩
theorem PutAt.nil (cs : List Value) : PutAt cs 0 [] cs := ⟨by simp, by simp⟩
theorem PutAt.here {c v : Value} {cs vs cs' : List Value} (h : PutAt cs 0 vs cs') : PutAt (c :: cs) 0 (v :: vs) (v :: cs') := by
  obtain ⟨h1, h2⟩ := h
  refine ⟨by simp at h1 ⊢; omega, ?_⟩
  subst h2
  simp
theorem PutAt.there {c : Value} {cs vs cs' : List Value} {m : Nat} (h : PutAt cs m vs cs') : PutAt (c :: cs) (m + 1) vs (c :: cs') := by
  obtain ⟨h1, h2⟩ := h
  refine ⟨by simp; omega, ?_⟩
  subst h2
  simp [show m + 1 + vs.length = (m + vs.length) + 1 from by omega]
def blk (b T : Nat) (cs : List Value) : HProp := pt b (.cells cs.toArray T (0, 0))
def ex {α : Type} (p : α → HProp) : HProp := fun h => ∃ x, p x h
variable {w0 w : World} {L L' r : List HProp} {F : HProp}
theorem Sat.cell {b T : Nat} {cs : List Value} (s : Sat w0 L F w) (k : Pick L (blk b T cs) r) {o : Nat} {v : Value} (hv : cs[o]? = some v) :
    w.cell? ⟨b, o, Option.none⟩ = some v := by
  have := s.read k
  simp [World.cell?, this, hv]
theorem Sat.unfrozen {b T : Nat} {cs : List Value} (s : Sat w0 L F w) (k : Pick L (blk b T cs) r) (o : Nat) (sp : Option Nat) : w.frozen? ⟨b, o, sp⟩ = false := by
  have := s.read k
  simp [World.frozen?, this]
theorem Sat.stores {P : Program} {b T : Nat} : ∀ (vs : List Value) (cs : List Value) (off i : Nat) (L r : List HProp) (w : World), Sat w0 L F w → Pick L (blk b T cs) r →
    (∀ v ∈ vs, v.oneCell' = true) → off + i + vs.length ≤ cs.length →
    ∃ w', (storeCells ⟨b, off, Option.none⟩ vs i).run P w = .ok () w' ∧ Sat w0 (blk b T (cs.take (off + i) ++ vs ++ cs.drop (off + i + vs.length)) :: r) F w'
  | [], cs, off, i, L, r, w, s, k, _, _ => by
    refine ⟨w, by simp [storeCells], s.map fun h a => ?_⟩
    have := (k h).1 a
    simpa [seps] using this
  | v :: vs, cs, off, i, L, r, w, s, k, h1, hl => by
    have hlt : off + i < cs.length := by simp at hl; omega
    have ha : (⟨b, off, Option.none⟩ : Addr).add i = ⟨b, off + i, Option.none⟩ := by
      unfold Addr.add; split <;> simp_all
    have hc : w.cell? ⟨b, off + i, Option.none⟩ = some (cs[off + i]) := s.cell k (by simp [hlt])
    have hf : w.frozen? ⟨b, off + i, Option.none⟩ = false := s.unfrozen k _ _
    have hw' : (w.setCell ⟨b, off + i, Option.none⟩ v) = { w with heap := w.heap.setIfInBounds b (.cells (cs.set (off + i) v).toArray T (0, 0)) } := by
      have hr := s.read k
      have hlt' : b < w.heap.size := (Array.getElem?_eq_some_iff.1 hr).1
      have hval : w.heap[b] = .cells cs.toArray T (0, 0) := by
        have := Array.getElem?_eq_getElem hlt'
        rw [hr] at this; simpa using this.symm
      unfold World.setCell
      congr 1
      apply Array.ext
      · simp
      · intro j hj hj'
        rw [Array.getElem_modify, Array.getElem_setIfInBounds]
        · by_cases e : b = j
          · subst e; simp [hval]
          · simp [e]
        · simpa using hj
    have s' := s.write k (o' := .cells (cs.set (off + i) v).toArray T (0, 0))
    obtain ⟨w', hr', st'⟩ := Sat.stores (P := P) vs (cs.set (off + i) v) off (i + 1) _ _ _ s' Pick.head (fun x hx => h1 x (by simp [hx])) (by simp at hl ⊢; omega)
    refine ⟨w', ?_, ?_⟩
    · have h1v := h1 v (by simp)
      simp only [storeCells, Sem.run_bind, ha, run_store P w _ v .plain h1v, hc, hf, Bool.false_eq_true, if_false, Result.andThen_ok, hw', hr']
    · refine st'.map fun h a => ?_
      have e : (cs.set (off + i) v).take (off + (i + 1)) ++ vs ++ (cs.set (off + i) v).drop (off + (i + 1) + vs.length) = cs.take (off + i) ++ (v :: vs) ++ cs.drop (off + i + (v :: vs).length) := by
        rw [List.drop_set_of_lt (by omega), show off + (i + 1) = (off + i) + 1 from by omega, List.take_add_one, List.take_set_of_le (by omega)]
        simp [hlt, show off + i + 1 + vs.length = off + i + (vs.length + 1) from by omega]
      rw [e] at a
      exact a
theorem Sat.loads {P : Program} {b T : Nat} {cs vs : List Value} {off n : Nat} (s : Sat w0 L F w) (k : Pick L (blk b T cs) r) (h : Cut cs off n vs) :
    (loadCells ⟨b, off, Option.none⟩ n).run P w = .ok vs.toArray w := by
  obtain ⟨h1, h2⟩ := h
  subst h1
  refine run_loadCells_list w _ vs fun j v hj => ?_
  have ha : (⟨b, off, Option.none⟩ : Addr).add j = ⟨b, off + j, Option.none⟩ := by
    unfold Addr.add; split <;> simp_all
  rw [ha]
  exact s.cell k (h2 j v hj)
theorem run_eqPtr {P : Program} {t e : Nat} (he : P.underlying t = some (.pointer e)) {p q : Option Addr} (hn : p = none ∨ q = none) (w : World) :
    (Op.equal t (.pointer p) (.pointer q)).run P w = .ok (p.isNone && q.isNone) w := by
  show (Op.equalIn (9999 + 1) t (.pointer p) (.pointer q)).run P w = _
  generalize 9999 = m
  rcases hn with rfl | rfl
  · simp [Op.equalIn, run_und he]
  · cases p <;> simp [Op.equalIn, run_und he]
theorem run_eqSlice {P : Program} {t e : Nat} (he : P.underlying t = some (.slice e)) {p q : Option Addr} {i j i' j' : Nat} (hn : p = none ∨ q = none) (w : World) :
    (Op.equal t (.slice p i j) (.slice q i' j')).run P w = .ok (p.isNone && q.isNone) w := by
  show (Op.equalIn (9999 + 1) t (.slice p i j) (.slice q i' j')).run P w = _
  generalize 9999 = m
  cases p with
  | none => simp [Op.equalIn, run_und he]
  | some p =>
    rcases hn with h | rfl
    · cases h
    · simp [Op.equalIn, run_und he]
theorem run_eqMap {P : Program} {t e f : Nat} (he : P.underlying t = some (.map e f)) {p q : Option Nat} (hn : p = none ∨ q = none) (w : World) :
    (Op.equal t (.map p) (.map q)).run P w = .ok (p.isNone && q.isNone) w := by
  show (Op.equalIn (9999 + 1) t (.map p) (.map q)).run P w = _
  generalize 9999 = m
  cases p with
  | none => simp [Op.equalIn, run_und he]
  | some p =>
    rcases hn with h | rfl
    · cases h
    · simp [Op.equalIn, run_und he]
section
variable {P : Program} {fid : Fm} {n : Nat} {post : Post} {k : List Item} {ρ ρ' : Env} {ops rest : List Oper} {g : Option (Nat × Bool)} {ty : TypeId} {pos : String} {af : Array Edge} {d : Nat} {sf : Option (List Bool × List HProp)}
theorem PV.move {dst : Option Nat} {x : Operand} {v : Value} (hx : ev ρ x = some v) : PV P n ρ ⟨dst, .move x, ty, pos, af, g⟩ v := fun a w gr => by simp [execOp, gr.eval hx]
theorem PV.assign {dst : Option Nat} {x : Operand} {v : Value} (hx : ev ρ x = some v) : PV P n ρ ⟨dst, .assign x, ty, pos, af, g⟩ v := fun a w gr => by simp [execOp, gr.eval hx]
theorem PV.pickT {dst : Option Nat} {c x y : Operand} {v : Value} (hc : ev ρ c = some (.bool true)) (hx : ev ρ x = some v) : PV P n ρ ⟨dst, .pick c x y, ty, pos, af, g⟩ (v) := fun a w gr => by simp [execOp, gr.eval hc, gr.eval hx, asBool]
theorem PV.pickF {dst : Option Nat} {c x y : Operand} {v : Value} (hc : ev ρ c = some (.bool false)) (hx : ev ρ y = some v) : PV P n ρ ⟨dst, .pick c x y, ty, pos, af, g⟩ (v) := fun a w gr => by simp [execOp, gr.eval hc, gr.eval hx, asBool]
theorem PV.notP {dst : Option Nat} {x : Operand} {p : Prop} [Decidable p] {t : TypeId} (hx : ev ρ x = some (.bool (decide p))) : PV P n ρ ⟨dst, .unOp .not t x, ty, pos, af, g⟩ (.bool (decide (¬ p))) := fun a w gr => by simp [execOp, gr.eval hx, Op.unary]
theorem PV.notB {dst : Option Nat} {x : Operand} {p : Bool} {t : TypeId} (hx : ev ρ x = some (.bool p)) : PV P n ρ ⟨dst, .unOp .not t x, ty, pos, af, g⟩ (.bool !p) := fun a w gr => by simp [execOp, gr.eval hx, Op.unary]
theorem PV.neg {dst : Option Nat} {x : Operand} {kd : IntKind} {i r : Int} {t : TypeId} (hx : ev ρ x = some (.int kd i)) (hr : kd.wrap (0 - i) = r) : PV P n ρ ⟨dst, .unOp .neg t x, ty, pos, af, g⟩ (.int kd r) := fun a w gr => by simp [execOp, gr.eval hx, Op.unary, Op.intArith, ← hr]
theorem PV.nilPtr {dst : Option Nat} {x : Operand} {a : Addr} (hx : ev ρ x = some (.pointer (some a))) : PV P n ρ ⟨dst, .nilCheck x, ty, pos, af, g⟩ (.pointer (some a)) := fun a w gr => by simp [execOp, gr.eval hx]
theorem PV.nilFun {dst : Option Nat} {x : Operand} {f : Nat} {fi cap : Array Value} (hx : ev ρ x = some (.func (.func f) fi cap)) : PV P n ρ ⟨dst, .nilCheck x, ty, pos, af, g⟩ (.func (.func f) fi cap) := fun a w gr => by simp [execOp, gr.eval hx]
theorem PV.add {dst : Option Nat} {x y : Operand} {kd : IntKind} {i j r : Int} {t u : TypeId} (hx : ev ρ x = some (.int kd i)) (hy : ev ρ y = some (.int kd j)) (hr : kd.wrap (i + j) = r) : PV P n ρ ⟨dst, .binOp .add t x y u, ty, pos, af, g⟩ (.int kd r) := fun a w gr => by simp [execOp, eqGuard, binOp, gr.eval hx, gr.eval hy, Op.intArith, hr]
theorem PV.sub {dst : Option Nat} {x y : Operand} {kd : IntKind} {i j r : Int} {t u : TypeId} (hx : ev ρ x = some (.int kd i)) (hy : ev ρ y = some (.int kd j)) (hr : kd.wrap (i - j) = r) : PV P n ρ ⟨dst, .binOp .sub t x y u, ty, pos, af, g⟩ (.int kd r) := fun a w gr => by simp [execOp, eqGuard, binOp, gr.eval hx, gr.eval hy, Op.intArith, hr]
theorem PV.mul {dst : Option Nat} {x y : Operand} {kd : IntKind} {i j r : Int} {t u : TypeId} (hx : ev ρ x = some (.int kd i)) (hy : ev ρ y = some (.int kd j)) (hr : kd.wrap (i * j) = r) : PV P n ρ ⟨dst, .binOp .mul t x y u, ty, pos, af, g⟩ (.int kd r) := fun a w gr => by simp [execOp, eqGuard, binOp, gr.eval hx, gr.eval hy, Op.intArith, hr]
theorem PV.quo {dst : Option Nat} {x y : Operand} {kd : IntKind} {i j r : Int} {t u : TypeId} (hx : ev ρ x = some (.int kd i)) (hy : ev ρ y = some (.int kd j)) (h0 : j ≠ 0) (hr : kd.wrap (i.tdiv j) = r) : PV P n ρ ⟨dst, .binOp .quo t x y u, ty, pos, af, g⟩ (.int kd r) := fun a w gr => by simp [execOp, eqGuard, binOp, gr.eval hx, gr.eval hy, Op.intDiv, hr, h0]
theorem PV.rem {dst : Option Nat} {x y : Operand} {kd : IntKind} {i j r : Int} {t u : TypeId} (hx : ev ρ x = some (.int kd i)) (hy : ev ρ y = some (.int kd j)) (h0 : j ≠ 0) (hr : i.tmod j = r) : PV P n ρ ⟨dst, .binOp .rem t x y u, ty, pos, af, g⟩ (.int kd r) := fun a w gr => by simp [execOp, eqGuard, binOp, gr.eval hx, gr.eval hy, Op.intDiv, hr, h0]
def andI (k : IntKind) (x y : Int) : Int := k.wrap (BitVec.ofInt k.bits x &&& BitVec.ofInt k.bits y).toNat
def orI (k : IntKind) (x y : Int) : Int := k.wrap (BitVec.ofInt k.bits x ||| BitVec.ofInt k.bits y).toNat
def xorI (k : IntKind) (x y : Int) : Int := k.wrap (BitVec.ofInt k.bits x ^^^ BitVec.ofInt k.bits y).toNat
def andNotI (k : IntKind) (x y : Int) : Int := k.wrap (BitVec.ofInt k.bits x &&& ~~~BitVec.ofInt k.bits y).toNat
def shlI (k : IntKind) (x y : Int) : Int := k.wrap (x * 2 ^ (min y.toNat k.bits))
def shrI (k : IntKind) (x y : Int) : Int := x.fdiv (2 ^ (min y.toNat k.bits))
theorem PV.and {dst : Option Nat} {x y : Operand} {kd : IntKind} {i j r : Int} {t u : TypeId} (hx : ev ρ x = some (.int kd i)) (hy : ev ρ y = some (.int kd j)) (hr : andI kd i j = r) : PV P n ρ ⟨dst, .binOp .and t x y u, ty, pos, af, g⟩ (.int kd r) := fun a w gr => by unfold andI at hr; simp [execOp, eqGuard, binOp, gr.eval hx, gr.eval hy, Op.intBits, ← hr]
theorem PV.or {dst : Option Nat} {x y : Operand} {kd : IntKind} {i j r : Int} {t u : TypeId} (hx : ev ρ x = some (.int kd i)) (hy : ev ρ y = some (.int kd j)) (hr : orI kd i j = r) : PV P n ρ ⟨dst, .binOp .or t x y u, ty, pos, af, g⟩ (.int kd r) := fun a w gr => by unfold orI at hr; simp [execOp, eqGuard, binOp, gr.eval hx, gr.eval hy, Op.intBits, ← hr]
theorem PV.xor {dst : Option Nat} {x y : Operand} {kd : IntKind} {i j r : Int} {t u : TypeId} (hx : ev ρ x = some (.int kd i)) (hy : ev ρ y = some (.int kd j)) (hr : xorI kd i j = r) : PV P n ρ ⟨dst, .binOp .xor t x y u, ty, pos, af, g⟩ (.int kd r) := fun a w gr => by unfold xorI at hr; simp [execOp, eqGuard, binOp, gr.eval hx, gr.eval hy, Op.intBits, ← hr]
theorem PV.shl {dst : Option Nat} {x y : Operand} {kd kd' : IntKind} {i j r : Int} {t u : TypeId} (hx : ev ρ x = some (.int kd i)) (hy : ev ρ y = some (.int kd' j)) (h0 : 0 ≤ j) (hr : shlI kd i j = r) : PV P n ρ ⟨dst, .binOp .shl t x y u, ty, pos, af, g⟩ (.int kd r) := fun a w gr => by unfold shlI at hr; simp [execOp, eqGuard, binOp, gr.eval hx, gr.eval hy, Op.shift, ← hr, show ¬ j < 0 from by omega]
theorem PV.shr {dst : Option Nat} {x y : Operand} {kd kd' : IntKind} {i j r : Int} {t u : TypeId} (hx : ev ρ x = some (.int kd i)) (hy : ev ρ y = some (.int kd' j)) (h0 : 0 ≤ j) (hr : shrI kd i j = r) : PV P n ρ ⟨dst, .binOp .shr t x y u, ty, pos, af, g⟩ (.int kd r) := fun a w gr => by unfold shrI at hr; simp [execOp, eqGuard, binOp, gr.eval hx, gr.eval hy, Op.shift, ← hr, show ¬ j < 0 from by omega]
theorem PV.eqI {dst : Option Nat} {x y : Operand} {kd : IntKind} {i j : Int} {t u : TypeId} (hx : ev ρ x = some (.int kd i)) (hy : ev ρ y = some (.int kd j)) : PV P n ρ ⟨dst, .binOp .eql t x y u, ty, pos, af, g⟩ (.bool (decide (i = j))) := fun a w gr => by simp [execOp, eqGuard, binOp, gr.eval hx, gr.eval hy, Op.intCmp]; rfl
theorem PV.neI {dst : Option Nat} {x y : Operand} {kd : IntKind} {i j : Int} {t u : TypeId} (hx : ev ρ x = some (.int kd i)) (hy : ev ρ y = some (.int kd j)) : PV P n ρ ⟨dst, .binOp .neq t x y u, ty, pos, af, g⟩ (.bool (decide (¬ i = j))) := fun a w gr => by simp [execOp, eqGuard, binOp, gr.eval hx, gr.eval hy, Op.intCmp, bne]; rfl
theorem PV.ltI {dst : Option Nat} {x y : Operand} {kd : IntKind} {i j : Int} {t u : TypeId} (hx : ev ρ x = some (.int kd i)) (hy : ev ρ y = some (.int kd j)) : PV P n ρ ⟨dst, .binOp .lss t x y u, ty, pos, af, g⟩ (.bool (decide (i < j))) := fun a w gr => by simp [execOp, eqGuard, binOp, gr.eval hx, gr.eval hy, Op.intCmp]
theorem PV.leI {dst : Option Nat} {x y : Operand} {kd : IntKind} {i j : Int} {t u : TypeId} (hx : ev ρ x = some (.int kd i)) (hy : ev ρ y = some (.int kd j)) : PV P n ρ ⟨dst, .binOp .leq t x y u, ty, pos, af, g⟩ (.bool (decide (i ≤ j))) := fun a w gr => by simp [execOp, eqGuard, binOp, gr.eval hx, gr.eval hy, Op.intCmp]
theorem PV.gtI {dst : Option Nat} {x y : Operand} {kd : IntKind} {i j : Int} {t u : TypeId} (hx : ev ρ x = some (.int kd i)) (hy : ev ρ y = some (.int kd j)) : PV P n ρ ⟨dst, .binOp .gtr t x y u, ty, pos, af, g⟩ (.bool (decide (j < i))) := fun a w gr => by simp [execOp, eqGuard, binOp, gr.eval hx, gr.eval hy, Op.intCmp]
theorem PV.geI {dst : Option Nat} {x y : Operand} {kd : IntKind} {i j : Int} {t u : TypeId} (hx : ev ρ x = some (.int kd i)) (hy : ev ρ y = some (.int kd j)) : PV P n ρ ⟨dst, .binOp .geq t x y u, ty, pos, af, g⟩ (.bool (decide (j ≤ i))) := fun a w gr => by simp [execOp, eqGuard, binOp, gr.eval hx, gr.eval hy, Op.intCmp]
theorem PV.toInt {dst : Option Nat} {x : Operand} {kd kd' : IntKind} {i r : Int} {s t : TypeId} (hx : ev ρ x = some (.int kd i)) (hs : ∃ e, P.underlying s = some e) (ht : P.underlying t = some (.int kd')) (hr : kd'.wrap i = r) : PV P n ρ ⟨dst, .convert s t x, ty, pos, af, g⟩ (.int kd' r) := fun a w gr => by
    obtain ⟨e, hs⟩ := hs
    simp [execOp, convert, gr.eval hx, run_und hs, run_und ht, Conv.intToInt, hr]
theorem PV.eqPN {dst : Option Nat} {x y : Operand} {p q : Option Addr} {t u : TypeId} [ht : TPt P t] (hx : ev ρ x = some (.pointer p)) (hy : ev ρ y = some (.pointer q)) (hn : p = none ∨ q = none) : PV P n ρ ⟨dst, .binOp .eql t x y u, ty, pos, af, g⟩ (.bool (p.isNone && q.isNone)) := fun a w gr => by
    obtain ⟨e, he⟩ := ht.und
    simp [execOp, eqGuard, binOp, gr.eval hx, gr.eval hy, run_eqPtr he hn]
theorem PV.nePN {dst : Option Nat} {x y : Operand} {p q : Option Addr} {t u : TypeId} [ht : TPt P t] (hx : ev ρ x = some (.pointer p)) (hy : ev ρ y = some (.pointer q)) (hn : p = none ∨ q = none) : PV P n ρ ⟨dst, .binOp .neq t x y u, ty, pos, af, g⟩ (.bool !(p.isNone && q.isNone)) := fun a w gr => by
    obtain ⟨e, he⟩ := ht.und
    simp [execOp, eqGuard, binOp, gr.eval hx, gr.eval hy, run_eqPtr he hn]
theorem PV.eqSN {dst : Option Nat} {x y : Operand} {p q : Option Addr} {i j i' j' : Nat} {t u e sz by_ : Nat} [ht : TSl P t e sz by_] (hx : ev ρ x = some (.slice p i j)) (hy : ev ρ y = some (.slice q i' j')) (hn : p = none ∨ q = none) : PV P n ρ ⟨dst, .binOp .eql t x y u, ty, pos, af, g⟩ (.bool (p.isNone && q.isNone)) := fun a w gr => by
    simp [execOp, eqGuard, binOp, gr.eval hx, gr.eval hy, run_eqSlice ht.und hn]
theorem PV.eqMN {dst : Option Nat} {x y : Operand} {p q : Option Nat} {t u e sz : Nat} [ht : TMp P t e sz] (hx : ev ρ x = some (.map p)) (hy : ev ρ y = some (.map q)) (hn : p = none ∨ q = none) : PV P n ρ ⟨dst, .binOp .eql t x y u, ty, pos, af, g⟩ (.bool (p.isNone && q.isNone)) := fun a w gr => by
    simp [execOp, eqGuard, binOp, gr.eval hx, gr.eval hy, run_eqMap ht.und hn]
def aggO (P : Program) (t : TypeId) : Option Bool := (P.underlying t).map fun d => match d with
  | .struct _ => true
  | .array _ _ => true
  | _ => false
def fieldInfo (P : Program) (s f : Nat) : Option (Nat × Option Nat × Option Bool) := match P.underlying s with
  | some (.struct fs) => (fs[f]?).map fun fl => (fl.offset, (P.info? fl.type).map (·.size), aggO P fl.type)
  | _ => none
class TFv (P : Program) (s f : Nat) (off sz : outParam Nat) (agg : outParam Bool) : Prop where
  info : fieldInfo P s f = some (off, some sz, some agg)
theorem TFv.run {P : Program} {s f off sz : Nat} {agg : Bool} (h : TFv P s f off sz agg) (vs : Array Value) (w : World) :
    (Instr.field s (.agg vs) f).run P w = (if agg then Go.Result.ok (.agg (vs.extract off (off + sz))) w else match vs[off]? with
    | some v => Go.Result.ok v w
    | none => Go.Result.halt (.stuck "part: no such cell") w) := by
  have hi := h.info
  unfold fieldInfo at hi
  cases hu : P.underlying s with
  | none => simp [hu] at hi
  | some d =>
    cases d <;> simp [hu] at hi
    rename_i fs
    obtain ⟨fl, hf, h1, ⟨i, h2, h3⟩, h4⟩ := hi
    have hag : (isAgg fl.type).run P w = Go.Result.ok agg w := by
      unfold aggO at h4
      cases hx : P.underlying fl.type with
      | none => simp [hx] at h4
      | some d =>
        simp only [hx, Option.map_some, Option.some.injEq] at h4
        simp only [isAgg, Sem.run_bind, run_und hx, Go.Result.andThen_ok]
        subst h4
        cases d <;> rfl
    have hsz : (Go.sizeOf fl.type).run P w = Go.Result.ok sz w := by
      simp [Go.sizeOf, typeInfo, h2, h3]
    simp only [Instr.field, Sem.run_bind, run_und hu, Go.Result.andThen_ok, hf]
    simp only [asAgg, Sem.run_bind, Sem.run_pure, Go.Result.andThen_ok, part, hag]
    cases agg
    · subst h1
      simp only [Bool.false_eq_true, if_false]
      cases vs[fl.offset]? <;> simp
    · subst h1
      simp [hsz]
theorem PV.field {dst : Option Nat} {x : Operand} {s f off sz : Nat} {vs : List Value} {v : Value} [ht : TFv P s f off sz false] (hx : ev ρ x = some (.agg vs.toArray)) (hv : nth vs off = some v) :
    PV P n ρ ⟨dst, .field s x f, ty, pos, af, g⟩ v := fun a w gr => by
  rw [nth_eq] at hv
  simp [execOp, gr.eval hx, ht.run, hv]
theorem PV.fieldA {dst : Option Nat} {x : Operand} {s f off sz : Nat} {vs us : List Value} [ht : TFv P s f off sz true] (hx : ev ρ x = some (.agg vs.toArray)) (hv : Cut vs off sz us) :
    PV P n ρ ⟨dst, .field s x f, ty, pos, af, g⟩ (.agg us.toArray) := fun a w gr => by
  have e : vs.toArray.extract off (off + sz) = us.toArray := by
    obtain ⟨h1, h2⟩ := hv
    subst h1
    apply Array.ext'
    simp only [List.extract_toArray, List.extract_eq_take_drop]
    apply List.ext_getElem?
    intro j
    by_cases hj : j < us.length
    · have := h2 j _ (List.getElem?_eq_getElem hj)
      simp [List.getElem?_take, hj, this]
    · simp [List.getElem?_take, hj, List.getElem?_eq_none (Nat.le_of_not_lt hj)]
  simp [execOp, gr.eval hx, ht.run, e]
def sl (p : Option Addr) (lo hi cap sz : Nat) : Value := .slice (if cap = lo then p else p.map (·.add (lo * sz))) (hi - lo) (cap - lo)
theorem PV.slice {dst : Option Nat} {x y z : Operand} {t e sz by_ len cap lo hi : Nat} {p : Option Addr} {kd kd' : IntKind} {i j : Int} [ht : TSl P t e sz by_]
    (hx : ev ρ x = some (.slice p len cap)) (hy : ev ρ y = some (.int kd i)) (hz : ev ρ z = some (.int kd' j)) (h1 : i = lo) (h2 : j = hi) (h3 : lo ≤ hi) (h4 : hi ≤ cap) :
    PV P n ρ ⟨dst, .slice t x (some y) (some z) none, ty, pos, af, g⟩ (sl p lo hi cap sz) := fun a w gr => by
  subst h1 h2
  simp [execOp, gr.eval hx, gr.eval hy, gr.eval hz, Instr.sliceAt, Instr.slice, run_und ht.und, Instr.sliceBounds, Instr.sliceBound, asIntOf, ht.size, sl, h4, h3]
theorem PV.sliceHi {dst : Option Nat} {x z : Operand} {t e sz by_ len cap hi : Nat} {p : Option Addr} {kd' : IntKind} {j : Int} [ht : TSl P t e sz by_]
    (hx : ev ρ x = some (.slice p len cap)) (hz : ev ρ z = some (.int kd' j)) (h2 : j = hi) (h4 : hi ≤ cap) :
    PV P n ρ ⟨dst, .slice t x none (some z) none, ty, pos, af, g⟩ (.slice p hi cap) := fun a w gr => by
  subst h2
  have e : (if cap = 0 then p else p.map fun x => x.add (0 * sz)) = p := by
    split
    · rfl
    · cases p <;> simp [Addr.add]
  simp [execOp, gr.eval hx, gr.eval hz, Instr.sliceAt, Instr.slice, run_und ht.und, Instr.sliceBounds, Instr.sliceBound, asIntOf, ht.size, h4] at e ⊢
  cases p <;> simp [Addr.add]
theorem PV.sliceLo {dst : Option Nat} {x y : Operand} {t e sz by_ len cap lo : Nat} {p : Option Addr} {kd : IntKind} {i : Int} [ht : TSl P t e sz by_]
    (hx : ev ρ x = some (.slice p len cap)) (hy : ev ρ y = some (.int kd i)) (h1 : i = lo) (h3 : lo ≤ len) :
    PV P n ρ ⟨dst, .slice t x (some y) none none, ty, pos, af, g⟩ (sl p lo len cap sz) := fun a w gr => by
  subst h1
  simp [execOp, gr.eval hx, gr.eval hy, Instr.sliceAt, Instr.slice, run_und ht.und, Instr.sliceBounds, Instr.sliceBound, asIntOf, ht.size, sl, h3]
theorem PV.minI {dst : Option Nat} {x y : Operand} {kd : IntKind} {i j r : Int} {tys : Array TypeId} (hx : ev ρ x = some (.int kd i)) (hy : ev ρ y = some (.int kd j)) (hr : min i j = r) :
    PV P n ρ ⟨dst, .call ⟨.builtin .min, [x, y].toArray, tys⟩, ty, pos, af, g⟩ (.int kd r) := fun a w gr => by
  have : (if j < i then j else i) = r := by rw [← hr]; split <;> omega
  simp [execOp, resolve, invoke, builtin, gr.eval hx, gr.eval hy, Builtin.min_, Builtin.min2, this]
theorem PV.maxI {dst : Option Nat} {x y : Operand} {kd : IntKind} {i j r : Int} {tys : Array TypeId} (hx : ev ρ x = some (.int kd i)) (hy : ev ρ y = some (.int kd j)) (hr : max i j = r) :
    PV P n ρ ⟨dst, .call ⟨.builtin .max, [x, y].toArray, tys⟩, ty, pos, af, g⟩ (.int kd r) := fun a w gr => by
  have : (if j > i then j else i) = r := by rw [← hr]; split <;> omega
  simp [execOp, resolve, invoke, builtin, gr.eval hx, gr.eval hy, Builtin.max_, Builtin.max2, this]
theorem TO.box {x : Operand} {v : Value} {e : Nat} {cs : List Value} (hw : wants ops ρ g = some true) (hd : Nat.blt d n = true) (hx : ev ρ x = some v) (hc : v.cells = cs.toArray)
    (h : ∀ b, TO P fid n post ops rest sf k ((d, .pointer (some ⟨b, 0, none⟩)) :: ρ) (blk b e cs :: L)) : TO P fid n post ops (⟨some d, .box e x, ty, pos, af, g⟩ :: rest) sf k ρ L :=
  TO.val hw hd fun w0 F a w gr st => ⟨.pointer (some ⟨w.heap.size, 0, none⟩), _, { w with heap := w.heap.push (.cells cs.toArray e) }, by
    simp [execOp, gr.eval hx, Instr.box, newVar, newRow, hc], st.new, h w.heap.size⟩
theorem TO.alloc {z : Value} {e : Nat} {cs : List Value} [hz : TZe P e z] (hw : wants ops ρ g = some true) (hd : Nat.blt d n = true) (hc : z.cells = cs.toArray)
    (h : ∀ b, TO P fid n post ops rest sf k ((d, .pointer (some ⟨b, 0, none⟩)) :: ρ) (blk b e cs :: L)) : TO P fid n post ops (⟨some d, .alloc e, ty, pos, af, g⟩ :: rest) sf k ρ L :=
  TO.val hw hd fun w0 F a w gr st => ⟨.pointer (some ⟨w.heap.size, 0, none⟩), _, { w with heap := w.heap.push (.cells cs.toArray e) }, by
    simp [execOp, Instr.alloc, hz.run, newVar, newRow, hc], st.new, h w.heap.size⟩
theorem TO.load {x : Operand} {t b off T : Nat} {cs : List Value} {v : Value} [ht : TSc P t] (hw : wants ops ρ g = some true) (hd : Nat.blt d n = true) (hx : ev ρ x = some (.pointer (some ⟨b, off, none⟩)))
    (hp : Pick L (blk b T cs) r) (hv : nth cs off = some v) (h : TO P fid n post ops rest sf k ((d, v) :: ρ) L) : TO P fid n post ops (⟨some d, .load t x, ty, pos, af, g⟩ :: rest) sf k ρ L :=
  TO.val hw hd fun w0 F a w gr st => ⟨v, L, w, by
    have hc := st.cell hp (o := off) (v := v) (by rw [← nth_eq]; exact hv)
    simp [execOp, gr.eval hx, Instr.loadAt, Instr.sureAddr, loadVar, (ht.run w).1, hc], st, h⟩
theorem TO.loadA {x : Operand} {t b off T sz : Nat} {cs vs : List Value} [ht : TAg P t sz] (hw : wants ops ρ g = some true) (hd : Nat.blt d n = true) (hx : ev ρ x = some (.pointer (some ⟨b, off, none⟩)))
    (hp : Pick L (blk b T cs) r) (hv : Cut cs off sz vs) (h : TO P fid n post ops rest sf k ((d, .agg vs.toArray) :: ρ) L) : TO P fid n post ops (⟨some d, .load t x, ty, pos, af, g⟩ :: rest) sf k ρ L :=
  TO.val hw hd fun w0 F a w gr st => ⟨.agg vs.toArray, L, w, by
    simp [execOp, gr.eval hx, Instr.loadAt, Instr.sureAddr, loadVar, (ht.run w).1, (ht.run w).2, st.loads hp hv], st, h⟩
theorem TD.frz {ls : List Bool} {R : List HProp} {i d' t b off T : Nat} {x : Operand} {cs : List Value} (hi : firstLoad ls ops 0 = some i) (ho : nth ops i = some ⟨some d', .load t x, ty, pos, af, g⟩)
    (hx : ev ρ x = some (.pointer (some ⟨b, off, none⟩))) (hp : Pick L (blk b T cs) r) (h : TD P fid n post ops ls (blk b T cs :: R) k ρ r) : TD P fid n post ops ls R k ρ L := TD.freeze hp h
theorem TD.loadC {ls ls' : List Bool} {R : List HProp} {i d' t b off T : Nat} {x : Operand} {cs : List Value} {v : Value} (hi : firstLoad ls ops 0 = some i) (ho : nth ops i = some ⟨some d', .load t x, ty, pos, af, g⟩) (ht : TSc P t)
    (hw : wants ops ρ g = some true) (hd : Nat.blt d' n = true) (hok : firstOk ops ls i d' ⟨some d', .load t x, ty, pos, af, g⟩ ops 0 = true) (hcl : closedB ls ops 0 = true)
    (hx : ev ρ x = some (.pointer (some ⟨b, off, none⟩))) (hp : Pick R (blk b T cs) r) (hv : nth cs off = some v) (hl : setB ls i = ls')
    (h : TD P fid n post ops ls' R k ((d', v) :: ρ) L) : TD P fid n post ops ls R k ρ L :=
  TD.load hi ho hw hd hok hcl hp (fun w0 F a w gr st => by
    have hc := st.cell Pick.head (o := off) (v := v) (by rw [← nth_eq]; exact hv)
    simp [execOp, gr.eval hx, Instr.loadAt, Instr.sureAddr, loadVar, (ht.run w).1, hc]) hl h
theorem TD.loadCA {ls ls' : List Bool} {R : List HProp} {i d' t b off T sz : Nat} {x : Operand} {cs vs : List Value} (hi : firstLoad ls ops 0 = some i) (ho : nth ops i = some ⟨some d', .load t x, ty, pos, af, g⟩) (ht : TAg P t sz)
    (hw : wants ops ρ g = some true) (hd : Nat.blt d' n = true) (hok : firstOk ops ls i d' ⟨some d', .load t x, ty, pos, af, g⟩ ops 0 = true) (hcl : closedB ls ops 0 = true)
    (hx : ev ρ x = some (.pointer (some ⟨b, off, none⟩))) (hp : Pick R (blk b T cs) r) (hv : Cut cs off sz vs) (hl : setB ls i = ls')
    (h : TD P fid n post ops ls' R k ((d', .agg vs.toArray) :: ρ) L) : TD P fid n post ops ls R k ρ L :=
  TD.load hi ho hw hd hok hcl hp (fun w0 F a w gr st => by
    have hl := st.loads (P := P) Pick.head hv
    simp [execOp, gr.eval hx, Instr.loadAt, Instr.sureAddr, loadVar, (ht.run w).1, (ht.run w).2, hl]) hl h
theorem TD.thaw1 {ls : List Bool} {R : List HProp} {c : HProp} {i : Nat} (he : enab ls ops 0 = [i]) (hl : isLate ops i = true) (hcl : restLate ops ls ops 0 = true) (h : TD P fid n post ops ls [] k ρ (L ++ c :: R)) : TD P fid n post ops ls (c :: R) k ρ L := TD.thaw he hl hcl h
theorem TO.store {x y : Operand} {t b off T : Nat} {cs cs' : List Value} {v : Value} [ht : TSc P t] (hw : wants ops ρ g = some true) (hx : ev ρ x = some (.pointer (some ⟨b, off, none⟩)))
    (hy : ev ρ y = some v) (h1 : v.oneCell' = true) (hp : Pick L (blk b T cs) r) (hv : PutAt cs off [v] cs') (h : TO P fid n post ops rest sf k ρ (blk b T cs' :: r)) :
    TO P fid n post ops (⟨none, .store t x y, ty, pos, af, g⟩ :: rest) sf k ρ L :=
  TO.unit hw rfl fun w0 F a w gr st => by
    have hcs : v.cells = #[v] := by cases v <;> simp_all [Value.cells, Value.oneCell']
    obtain ⟨w', hr, st'⟩ := Sat.stores (P := P) [v] cs off 0 L r w st hp (by simpa using h1) hv.1
    refine ⟨_, w', ?_, st', ?_⟩
    · simp [execOp, gr.eval hx, gr.eval hy, Instr.storeAt, Instr.sureAddr, storeVar, hcs, (ht.run w).2, hr]
    · have := hv.2
      simp only [Nat.add_zero]
      rw [← this]; exact h
theorem TO.storeA {x y : Operand} {t b off T sz : Nat} {cs cs' vs : List Value} [ht : TAg P t sz] (hw : wants ops ρ g = some true) (hx : ev ρ x = some (.pointer (some ⟨b, off, none⟩)))
    (hy : ev ρ y = some (.agg vs.toArray)) (hl : vs.length = sz) (h1 : vs.all (·.oneCell') = true) (hp : Pick L (blk b T cs) r) (hv : PutAt cs off vs cs') (h : TO P fid n post ops rest sf k ρ (blk b T cs' :: r)) :
    TO P fid n post ops (⟨none, .store t x y, ty, pos, af, g⟩ :: rest) sf k ρ L :=
  TO.unit hw rfl fun w0 F a w gr st => by
    obtain ⟨w', hr, st'⟩ := Sat.stores (P := P) vs cs off 0 L r w st hp (by simpa using h1) hv.1
    refine ⟨_, w', ?_, st', ?_⟩
    · simp [execOp, gr.eval hx, gr.eval hy, Instr.storeAt, Instr.sureAddr, storeVar, Value.cells, (ht.run w).2, hl, hr]
    · have := hv.2
      simp only [Nat.add_zero]
      rw [← this]; exact h
theorem PV.fieldAddr {dst : Option Nat} {x : Operand} {s f b o off o' : Nat} [ht : TFa P s f off] (hx : ev ρ x = some (.pointer (some ⟨b, o, none⟩))) (ho : o' = o + off) : PV P n ρ ⟨dst, .fieldAddr s x f, ty, pos, af, g⟩ (.pointer (some ⟨b, o', none⟩)) := fun a w gr => by subst ho; simp [execOp, gr.eval hx, ht.run]
theorem PV.indexAddr {dst : Option Nat} {x y : Operand} {t e sz by_ b o len cap i' o' : Nat} {i : Int} {kd : IntKind} [ht : TSl P t e sz by_]
    (hx : ev ρ x = some (.slice (some ⟨b, o, none⟩) len cap)) (hy : ev ρ y = some (.int kd i)) (hi : i = (i' : Int)) (hb : i' < len) (ho : o' = o + i' * sz) :
    PV P n ρ ⟨dst, .indexAddr t x y, ty, pos, af, g⟩ (.pointer (some ⟨b, o', none⟩)) := fun a w gr => by
  subst hi ho
  have ha : (⟨b, o, Option.none⟩ : Addr).add (i' * sz) = ⟨b, o + i' * sz, Option.none⟩ := by
    unfold Addr.add; split <;> simp_all
  simp [execOp, gr.eval hx, gr.eval hy, Instr.indexAt, asIntOf, run_und ht.und, hb, ht.size, ha]
theorem sl_in {b o lo hi cap sz : Nat} (h : lo < cap) : sl (some ⟨b, o, none⟩) lo hi cap sz = .slice (some ⟨b, o + lo * sz, none⟩) (hi - lo) (cap - lo) := by
  unfold sl
  rw [if_neg (by omega)]
  have ha : (⟨b, o, Option.none⟩ : Addr).add (lo * sz) = ⟨b, o + lo * sz, Option.none⟩ := by
    unfold Addr.add; split <;> simp_all
  simp [ha]
theorem PV.sliceIn {dst : Option Nat} {x y z : Operand} {t e sz by_ len cap lo hi b o o' m c : Nat} {kd kd' : IntKind} {i j : Int} [ht : TSl P t e sz by_]
    (hx : ev ρ x = some (.slice (some ⟨b, o, none⟩) len cap)) (hy : ev ρ y = some (.int kd i)) (hz : ev ρ z = some (.int kd' j)) (h1 : i = lo) (h2 : j = hi) (h3 : lo ≤ hi) (h4 : hi ≤ cap) (h5 : lo < cap) (ho : o' = o + lo * sz) (hm : m = hi - lo) (hc : c = cap - lo) :
    PV P n ρ ⟨dst, .slice t x (some y) (some z) none, ty, pos, af, g⟩ (.slice (some ⟨b, o', none⟩) m c) := by
  subst ho hm hc
  have := PV.slice (P := P) (n := n) (ty := ty) (pos := pos) (af := af) (g := g) (dst := dst) (ht := ht) hx hy hz h1 h2 h3 h4
  rwa [sl_in h5] at this
theorem PV.sliceLoIn {dst : Option Nat} {x y : Operand} {t e sz by_ len cap lo b o o' m c : Nat} {kd : IntKind} {i : Int} [ht : TSl P t e sz by_]
    (hx : ev ρ x = some (.slice (some ⟨b, o, none⟩) len cap)) (hy : ev ρ y = some (.int kd i)) (h1 : i = lo) (h3 : lo ≤ len) (h5 : lo < cap) (ho : o' = o + lo * sz) (hm : m = len - lo) (hc : c = cap - lo) :
    PV P n ρ ⟨dst, .slice t x (some y) none none, ty, pos, af, g⟩ (.slice (some ⟨b, o', none⟩) m c) := by
  subst ho hm hc
  have := PV.sliceLo (P := P) (n := n) (ty := ty) (pos := pos) (af := af) (g := g) (dst := dst) (ht := ht) hx hy h1 h3
  rwa [sl_in h5] at this
theorem PV.slice3 {dst : Option Nat} {x y z u : Operand} {t e sz by_ len cap lo hi mx : Nat} {p : Option Addr} {kd kd' kd'' : IntKind} {i j q : Int} [ht : TSl P t e sz by_]
    (hx : ev ρ x = some (.slice p len cap)) (hy : ev ρ y = some (.int kd i)) (hz : ev ρ z = some (.int kd' j)) (hu : ev ρ u = some (.int kd'' q)) (h1 : i = lo) (h2 : j = hi) (h3 : q = mx) (h4 : lo ≤ hi) (h5 : hi ≤ mx) (h6 : mx ≤ cap) :
    PV P n ρ ⟨dst, .slice t x (some y) (some z) (some u), ty, pos, af, g⟩ (sl p lo hi mx sz) := fun a w gr => by
  subst h1 h2 h3
  simp [execOp, gr.eval hx, gr.eval hy, gr.eval hz, gr.eval hu, Instr.sliceAt, Instr.slice, run_und ht.und, Instr.sliceBounds, Instr.sliceBound, asIntOf, ht.size, sl, h4, h5, h6]
theorem PV.len {dst : Option Nat} {x : Operand} {t e sz by_ len cap : Nat} {p : Option Addr} [ht : TSl P t e sz by_] (hx : ev ρ x = some (.slice p len cap)) : PV P n ρ ⟨dst, .call ⟨.builtin .len, [x].toArray, [t].toArray⟩, ty, pos, af, g⟩ (.int .i64 len) := fun a w gr => by simp [execOp, resolve, invoke, builtin, gr.eval hx, Builtin.len_, run_und ht.und, goInt]
theorem PV.extract {dst : Option Nat} {x : Operand} {i : Nat} {vs : List Value} {v : Value} (hx : ev ρ x = some (.tuple vs.toArray)) (hv : nth vs i = some v) : PV P n ρ ⟨dst, .extract x i, ty, pos, af, g⟩ (v) := fun a w gr => by rw [nth_eq] at hv; simp [execOp, gr.eval hx, Instr.extract, hv]
theorem PV.makeFunc {dst : Option Nat} {f : Nat} {fi cap : List Operand} {vf vc : List Value} (hf : EvAll ρ fi vf) (hc : EvAll ρ cap vc) : PV P n ρ ⟨dst, .makeFunc (.func f) fi.toArray cap.toArray, ty, pos, af, g⟩ (.func (.func f) vf.toArray vc.toArray) := fun a w gr => by simp [execOp, Instr.makeFunc, EvAll.map gr hf, EvAll.map gr hc]
end
theorem nc1 (k : Nat) : (k : Int) + 1 = ((k + 1 : Nat) : Int) := by omega
theorem nc2 (a b : Nat) : (a : Int) + (b : Int) = ((a + b : Nat) : Int) := by omega
theorem nc3 (a b : Nat) : (a : Int) * (b : Int) = ((a * b : Nat) : Int) := by simp
theorem nc4 (a b : Nat) : (a : Int) / (b : Int) = ((a / b : Nat) : Int) := by simp
theorem nc8 (a : Nat) : (a : Int) / 8 = ((a / 8 : Nat) : Int) := by omega
theorem nc5 (a b : Nat) : (a : Int) + (b : Int) + 1 = ((a + (b + 1) : Nat) : Int) := by omega
theorem nc6 (a b : Nat) : (a : Int) + ((b : Int) + 1) = ((a + (b + 1) : Nat) : Int) := by omega
theorem int_eq {k : IntKind} {a b : Int} (h : a = b) : Value.int k a = Value.int k b := by rw [h]
theorem wrap_i64 {n : Int} (h : -9223372036854775808 ≤ n ∧ n ≤ 9223372036854775807) : IntKind.i64.wrap n = n := IntWalk.i64_in n h
theorem wrap_u64 {n : Int} (h : 0 ≤ n ∧ n ≤ 18446744073709551615) : IntKind.u64.wrap n = n := IntWalk.u64_in n h
theorem wrap_u32 {n : Int} (h : 0 ≤ n ∧ n ≤ 4294967295) : IntKind.u32.wrap n = n := IntWalk.u32_in n h
theorem wrap_u8 {n : Int} (h : 0 ≤ n ∧ n ≤ 255) : IntKind.u8.wrap n = n := IntWalk.u8_in n h
theorem quo_i64 {x y : Int} (h : 0 ≤ x ∧ x ≤ 9223372036854775807 ∧ 1 ≤ y) : IntKind.i64.wrap (x.tdiv y) = x / y := IntWalk.i64_quo x y h
theorem rem_nn {x y : Int} (h : 0 ≤ x) : x.tmod y = x % y := Int.tmod_eq_emod_of_nonneg h
end SL
end
section
set_option linter.unusedVariables false
set_option linter.unusedSimpArgs false
namespace SL
open Go
class TNI (P : Program) (t : Nat) : Prop where
  und : ∃ dt, P.underlying t = some dt ∧ ∀ ik, dt ≠ .int ik
def notInt : TypeDesc → Bool
  | .int _ => false
  | _ => true
theorem TNI.mk' {P : Program} {t : Nat} (h : (P.underlying t).map notInt = some true) : TNI P t := by
  cases hu : P.underlying t with
  | none => simp [hu] at h
  | some d => exact ⟨⟨d, hu, fun ik e => by simp [hu, e, notInt] at h⟩⟩
def own (e sz : Nat) (a : Option Addr) (n cap : Nat) (cs : List Value) : HProp := fun h =>
  (a = none ∧ n = 0 ∧ cap = 0 ∧ cs = [] ∧ emp h) ∨
  (∃ (b : Nat) (extra : List Value), a = some ⟨b, 0, none⟩ ∧ cs.length = n * sz ∧ (cs ++ extra).length = cap * sz ∧ n ≤ cap ∧ blk b e (cs ++ extra) h)
theorem own_nil {e sz : Nat} {h : Hp} (he : emp h) : own e sz none 0 0 [] h := .inl ⟨rfl, rfl, rfl, rfl, he⟩
theorem own_blk {e sz b n cap : Nat} {cs extra : List Value} {h : Hp} (h1 : cs.length = n * sz) (h2 : (cs ++ extra).length = cap * sz) (h3 : n ≤ cap) (hb : blk b e (cs ++ extra) h) :
    own e sz (some ⟨b, 0, none⟩) n cap cs h := .inr ⟨b, extra, rfl, h1, h2, h3, hb⟩
variable {w0 w : World} {L L' r : List HProp} {F : HProp}
theorem Ent.own_nil {e sz : Nat} (h : Ent L L') : Ent L (own e sz none 0 0 [] :: L') := fun hp a =>
  sep_emp.1 (sep_mono (fun _ x => x) (fun _ x => x) (by
    refine sep_emp.2 ?_
    refine ⟨fun _ => none, hp, fun _ => .inl rfl, (emp_join (fun _ => rfl)).symm, SL.own_nil (fun _ => rfl), h _ a⟩))
theorem Ent.own_blk {e sz b n cap : Nat} {cs cs' extra : List Value} (k : Pick L (blk b e cs') r) (hc : cs' = cs ++ extra) (h1 : cs.length = n * sz) (h2 : (cs ++ extra).length = cap * sz) (h3 : n ≤ cap) (h : Ent r L') :
    Ent L (own e sz (some ⟨b, 0, none⟩) n cap cs :: L') := fun hp a => by
  subst hc
  exact sep_mono (fun _ x => SL.own_blk h1 h2 h3 x) (fun _ x => h _ x) ((k hp).1 a)
def Src (P : Program) (L : List HProp) (sz m : Nat) (y : Value) (new : List Value) : Prop :=
  new.length = m * sz ∧ ∀ (w0 : World) (F : HProp) (w : World), Sat w0 L F w → (Builtin.firstCells sz m y).run P w = .ok new.toArray w ∧ (Builtin.lenOf y).run P w = .ok m w
theorem Src.nil {P : Program} {sz c : Nat} : Src P L sz 0 (.slice none 0 c) [] :=
  ⟨by simp, fun _ _ w _ => ⟨by simp [Builtin.firstCells], by simp [Builtin.lenOf]⟩⟩
theorem Src.blk {P : Program} {b T off sz m c : Nat} {cs new : List Value} (k : Pick L (blk b T cs) r) (h : Cut cs off (m * sz) new) : Src P L sz m (.slice (some ⟨b, off, none⟩) m c) new :=
  ⟨h.1, fun _ _ w s => ⟨by simp only [Builtin.firstCells]; exact s.loads k h, by simp [Builtin.lenOf]⟩⟩
theorem Sat.owned {P : Program} {e sz n cap : Nat} {a : Option Addr} {cs : List Value} (s : Sat w0 L F w) (k : Pick L (own e sz a n cap cs) r) :
    (a = none ∧ n = 0 ∧ cap = 0 ∧ cs = [] ∧ Sat w0 r F w) ∨ ∃ (b : Nat) (extra : List Value), a = some ⟨b, 0, none⟩ ∧ cs.length = n * sz ∧ (cs ++ extra).length = cap * sz ∧ n ≤ cap ∧ Sat w0 (SL.blk b e (cs ++ extra) :: r) F w := by
  obtain ⟨hp, hs, h1, h2, d, rfl, x, y⟩ := s.heap
  obtain ⟨h3, h4, d', rfl, p, q⟩ := (k _).1 x
  rcases p with ⟨e1, e2, e3, e4, e5⟩ | ⟨b, extra, e1, e2, e3, e4, e5⟩
  · refine .inl ⟨e1, e2, e3, e4, s.os, s.tape, s.out, _, hs, join h3 h4, h2, d, rfl, ?_, y⟩
    rw [emp_join e5]; exact q
  · exact .inr ⟨b, extra, e1, e2, e3, e4, s.os, s.tape, s.out, _, hs, join h3 h4, h2, d, rfl, ⟨h3, h4, d', rfl, e5, q⟩, y⟩
theorem Src.own {P : Program} {e sz m c : Nat} {a : Option Addr} {new : List Value} (k : Pick L (own e sz a m c new) r) (hl : new.length = m * sz) : Src P L sz m (.slice a m c) new :=
  ⟨hl, fun _ _ w s => by
    rcases s.owned (P := P) k with ⟨rfl, rfl, rfl, rfl, _⟩ | ⟨b, extra, rfl, h1, h2, h3, s'⟩
    · exact ⟨by simp [Builtin.firstCells], by simp [Builtin.lenOf]⟩
    · refine ⟨?_, by simp [Builtin.lenOf]⟩
      simp only [Builtin.firstCells]
      refine s'.loads Pick.head ⟨h1, fun j v hj => ?_⟩
      have : j < new.length := (List.getElem?_eq_some_iff.1 hj).1
      rw [Nat.zero_add, List.getElem?_append_left this]; exact hj⟩
theorem Src.orig {P : Program} {v : World} {b off sz m c : Nat} {new : List Value} (k : Pick L (orig v) r) (hl : new.length = m * sz) (h : ∀ j x, new[j]? = some x → v.cell? ⟨b, off + j, none⟩ = some x) :
    Src P L sz m (.slice (some ⟨b, off, none⟩) m c) new :=
  ⟨hl, fun _ _ w s => ⟨by
    simp only [Builtin.firstCells]
    rw [← hl]
    refine run_loadCells_list w _ new fun j x hj => ?_
    have ha : (⟨b, off, Option.none⟩ : Addr).add j = ⟨b, off + j, Option.none⟩ := by
      unfold Addr.add; split <;> simp_all
    rw [ha]
    have hc := h j x hj
    unfold World.cell? at hc ⊢
    simp only at hc ⊢
    cases hb : v.heap[b]? with
    | none => simp [hb] at hc
    | some o => rw [s.readOrig k hb]; simpa [hb] using hc, by simp [Builtin.lenOf]⟩⟩
theorem Sat.drop {p : HProp} (s : Sat w0 L F w) (k : Pick L p r) : Sat w0 r F w := by
  obtain ⟨hp, hs, h1, h2, d, rfl, x, y⟩ := s.heap
  obtain ⟨h3, h4, d', rfl, p, q⟩ := (k _).1 x
  have dd := disj_join.1 d
  refine ⟨s.os, s.tape, s.out, join h4 h2, ?_, h4, h2, dd.2, rfl, q, y⟩
  intro b o hb
  refine hs b o ?_
  rcases d' b with e | e
  · simp only [join, e] at hb ⊢
    exact hb
  · simp only [join, e] at hb
    rcases dd.1 b with e' | e'
    · simp only [join, e', e]; exact hb
    · rw [e'] at hb; cases hb
theorem Src.sl {P : Program} {b T off lo hi cap sz : Nat} {cs new : List Value} (k : Pick L (SL.blk b T cs) r) (h1 : lo ≤ hi) (h2 : hi ≤ cap) (h : Cut cs (off + lo * sz) ((hi - lo) * sz) new) :
    Src P L sz (hi - lo) (sl (some ⟨b, off, none⟩) lo hi cap sz) new := by
  by_cases hc : lo < cap
  · rw [sl_in hc]
    exact Src.blk k h
  · have e1 : hi - lo = 0 := by omega
    have e2 : cap = lo := by omega
    have e3 : new = [] := by
      apply List.eq_nil_of_length_eq_zero
      rw [h.1, e1]; simp
    subst e3 e2
    refine ⟨by simp [e1], fun w0 F w s => ⟨?_, ?_⟩⟩
    · unfold SL.sl
      simp [e1, Builtin.firstCells, loadCells, loadCellsFrom]
    · unfold SL.sl
      simp [Builtin.lenOf]
section
variable {P : Program} {fid : Fm} {n : Nat} {post : Post} {k : List Item} {ρ ρ' : Env} {ops rest : List Oper} {g : Option (Nat × Bool)} {ty : TypeId} {pos : String} {af : Array Edge} {d : Nat} {sf : Option (List Bool × List HProp)}
theorem TK.ownPos {e sz m cap : Nat} {a : Option Addr} {cs : List Value} (hp : Pick L (own e sz a m cap cs) r) (hn : 0 < m)
    (h : ∀ (b : Nat) (extra : List Value), a = some ⟨b, 0, none⟩ → cs.length = m * sz → (cs ++ extra).length = cap * sz → m ≤ cap → TK P fid n post k ρ (blk b e (cs ++ extra) :: r)) : TK P fid n post k ρ L := by
  intro w0 F a' w cs' g st
  rcases st.owned (P := P) hp with ⟨_, rfl, _⟩ | ⟨b', extra, h1, h2, h3, h4, s'⟩
  · omega
  · exact h b' extra h1 h2 h3 h4 w0 F a' w cs' g s'
theorem TO.ownPos {e sz m cap : Nat} {a : Option Addr} {cs : List Value} {l : List Oper} (hp : Pick L (own e sz a m cap cs) r) (hn : 0 < m)
    (h : ∀ (b : Nat) (extra : List Value), a = some ⟨b, 0, none⟩ → cs.length = m * sz → (cs ++ extra).length = cap * sz → m ≤ cap → TO P fid n post ops l sf k ρ (blk b e (cs ++ extra) :: r)) : TO P fid n post ops l sf k ρ L := by
  intro w0 F a' w is s g st hi hs
  rcases st.owned (P := P) hp with ⟨_, rfl, _⟩ | ⟨b', extra, h1, h2, h3, h4, s'⟩
  · omega
  · exact h b' extra h1 h2 h3 h4 w0 F a' w is s g s' hi hs
theorem TK.ownLen {e sz m cap : Nat} {a : Option Addr} {cs : List Value} (hp : Pick L (own e sz a m cap cs) r) (h : cs.length = m * sz → m ≤ cap → TK P fid n post k ρ L) : TK P fid n post k ρ L := by
  intro w0 F a' w cs' g st
  rcases st.owned (P := P) hp with ⟨_, rfl, rfl, rfl, _⟩ | ⟨b', extra, h1, h2, h3, h4, s'⟩
  · exact h (by simp) (Nat.le_refl _) w0 F a' w cs' g st
  · exact h h2 h4 w0 F a' w cs' g st
theorem TK.ownNone {e sz m cap : Nat} {cs : List Value} (hp : Pick L (own e sz none m cap cs) r) (h : m = 0 → cap = 0 → cs = [] → TK P fid n post k ρ r) : TK P fid n post k ρ L := by
  intro w0 F a' w cs' g st
  rcases st.owned (P := P) hp with ⟨_, h1, h2, h3, s'⟩ | ⟨b', extra, h1, h2, h3, h4, s'⟩
  · exact h h1 h2 h3 w0 F a' w cs' g s'
  · cases h1
theorem zeroCells_length (z : Array Value) (m : Nat) : (Builtin.zeroCells z m).size = m * z.size := by simp [Builtin.zeroCells]
theorem TO.append {x y : Operand} {t t' e sz by_ m m' cap : Nat} {a : Option Addr} {cs new cs2 : List Value} {s2 : Nat} {yv z : Value} [ht : TSl P t e sz by_] [hz : TZe P e z] [hni' : TNI P t']
    (hw : wants ops ρ g = some true) (hd : Nat.blt d n = true) (hx : ev ρ x = some (.slice a m cap)) (hy : ev ρ y = some yv) (hzs : z.cells.size = sz)
    (hp : Pick L (own e sz a m cap cs) r) (hs : Src P L sz m' yv new) (h1 : ∀ v ∈ new, v.oneCell' = true) (hb0 : by_ ≠ 0) (hb : (m + m') * by_ ≤ 140737488355328)
    (hs2 : m + m' = s2) (hcs2 : cs ++ new = cs2)
    (h : ∀ (a' : Option Addr) (cap' : Nat), TO P fid n post ops rest sf k ((d, .slice a' s2 cap') :: ρ) (own e sz a' s2 cap' cs2 :: r)) :
    TO P fid n post ops (⟨some d, .call ⟨.builtin .append, [x, y].toArray, [t, t'].toArray⟩, ty, pos, af, g⟩ :: rest) sf k ρ L :=
  TO.val hw hd fun w0 F act w gr st => by
    subst hs2 hcs2
    obtain ⟨hnl, hsr⟩ := hs
    obtain ⟨hsr1, hsr2⟩ := hsr w0 F w st
    obtain ⟨dt, hdt, hni⟩ := hni'.und
    have hzero : (underlying t').run P w = .ok dt w := run_und hdt w
    have hnm : (dt matches .int _) = false := by
      cases dt <;> first | rfl | exact absurd rfl (hni _)
    have hhead : ∀ (f : Value → Result Next), True := fun _ => trivial
    by_cases hfit : m + m' ≤ cap
    ·
      rcases st.owned (P := P) hp with ⟨rfl, rfl, rfl, rfl, s'⟩ | ⟨b, extra, rfl, e1, e2, e3, s'⟩
      · have hm0 : m' = 0 := by omega
        subst hm0
        have : new = [] := by simpa using hnl
        subst this
        refine ⟨.slice none 0 0, own e sz none 0 0 [] :: r, w, ?_, s'.map (fun h x => ⟨fun _ => Option.none, h, fun _ => .inl rfl, (emp_join (fun _ => rfl)).symm, SL.own_nil (fun _ => rfl), x⟩), ?_⟩
        · simp [execOp, resolve, invoke, builtin, gr.eval hx, gr.eval hy, Builtin.append_, run_und ht.und, ht.size, hzero, hnm, hsr1, hsr2]
        · have := h none 0
          simp only [Nat.zero_add, List.append_nil] at this
          exact this
      · obtain ⟨w', hr, st'⟩ := Sat.stores (P := P) new (cs ++ extra) (m * sz) 0 _ r w s' Pick.head h1 (by
          rw [e2, hnl]
          have : (m + m') * sz ≤ cap * sz := Nat.mul_le_mul_right _ hfit
          rw [Nat.add_mul] at this
          omega)
        have ha : (⟨b, 0, Option.none⟩ : Addr).add (m * sz) = ⟨b, m * sz, Option.none⟩ := by
          unfold Addr.add; split <;> simp_all
        refine ⟨.slice (some ⟨b, 0, Option.none⟩) (m + m') cap, own e sz (some ⟨b, 0, Option.none⟩) (m + m') cap (cs ++ new) :: r, w', ?_, st'.map ?_, h _ cap⟩
        · simp [execOp, resolve, invoke, builtin, gr.eval hx, gr.eval hy, Builtin.append_, run_und ht.und, ht.size, hzero, hnm, hsr1, hsr2, hfit, ha, hr]
        · intro hp' a
          refine sep_mono (fun h' x => ?_) (fun _ x => x) a
          have hcs : (cs ++ extra).take (m * sz + 0) = cs := by rw [Nat.add_zero, ← e1, List.take_left]
          rw [hcs] at x
          refine SL.own_blk (extra := (cs ++ extra).drop (m * sz + 0 + new.length)) (by simp [e1, hnl, Nat.add_mul]) ?_ hfit x
          have hle : m * sz + 0 + new.length ≤ (cs ++ extra).length := by
            rw [e2, hnl]
            have : (m + m') * sz ≤ cap * sz := Nat.mul_le_mul_right _ hfit
            rw [Nat.add_mul] at this
            omega
          simp only [List.length_append, List.length_drop] at *
          omega
    ·
      have hgrow : ¬ Builtin.nextslicecap (m + m') cap * ((P.info? e).getD default).bytes > 281474976710656 := by
        rw [ht.bytes]
        have := growslice_fits (need := m + m') (old := cap) (bytes := by_) (by omega) hb
        omega
      have hc : Question.forced (.appendCap (m + m') cap e) = false := rfl
      have hbne : ((P.info? e).getD default).bytes ≠ 0 := by rw [ht.bytes]; exact hb0
      obtain ⟨hcsl, hold⟩ : cs.length = m * sz ∧ (Builtin.firstCells sz m (.slice a m cap)).run P w.drew = .ok cs.toArray w.drew := by
        rcases (show Sat w0 L F w.drew from st.drawn (w.drawn + 1)).owned (P := P) hp with ⟨rfl, rfl, rfl, rfl, s'⟩ | ⟨b, extra, rfl, e1, e2, e3, s'⟩
        · exact ⟨by simp, by simp [Builtin.firstCells]⟩
        · refine ⟨e1, ?_⟩
          simp only [Builtin.firstCells]
          refine s'.loads Pick.head ⟨e1, fun j v hj => ?_⟩
          have : j < cs.length := (List.getElem?_eq_some_iff.1 hj).1
          rw [Nat.zero_add, List.getElem?_append_left this]; exact hj
      obtain ⟨hsr1', hsr2'⟩ := hsr w0 F w.drew (st.drawn _)
      let nc := (Question.appendCap (m + m') cap e).cut (w.tape w.drawn (.appendCap (m + m') cap e))
      have hnc : m + m' ≤ nc := Nat.le_add_right _ _
      have hst := (st.drawn (w.drawn + 1)).new (o := .cells (cs.toArray ++ new.toArray ++ Builtin.zeroCells z.cells (nc - (m + m'))) e)
      refine ⟨.slice (some ⟨w.heap.size, 0, Option.none⟩) (m + m') nc, own e sz (some ⟨w.heap.size, 0, Option.none⟩) (m + m') nc (cs ++ new) :: r,
        { w with drawn := w.drawn + 1, heap := w.heap.push (.cells (cs.toArray ++ new.toArray ++ Builtin.zeroCells z.cells (nc - (m + m'))) e) }, ?_, ?_, h _ nc⟩
      · simp [execOp, resolve, invoke, builtin, gr.eval hx, gr.eval hy, Builtin.append_, run_und ht.und, ht.size, hzero, hnm, hsr1', hsr2, hfit, ht.info, hgrow, hc, hold, hz.run, newRow, hbne]
        refine ⟨rfl, ?_⟩
        have ea : cs.toArray ++ (new.toArray ++ Builtin.zeroCells z.cells ((Question.appendCap (m + m') cap e).cut (w.tape w.drawn (Question.appendCap (m + m') cap e)) - (m + m'))) =
            (cs ++ new).toArray ++ Builtin.zeroCells z.cells (nc - (m + m')) := by
          apply Array.ext'
          simp [nc]
        rw [ea]
        rfl
      ·
        refine Sat.map (L' := own e sz (some ⟨w.heap.size, 0, Option.none⟩) (m + m') nc (cs ++ new) :: r) (s := (?_ : Sat w0 (blk w.heap.size e ((cs ++ new) ++ (Builtin.zeroCells z.cells (nc - (m + m'))).toList) :: r) F _)) ?_
        · have e1 : (cs.toArray ++ new.toArray ++ Builtin.zeroCells z.cells (nc - (m + m'))) = ((cs ++ new) ++ (Builtin.zeroCells z.cells (nc - (m + m'))).toList).toArray := by
            apply Array.ext'
            simp
          rw [e1] at hst ⊢
          exact hst.drop (Pick.tail hp)
        · intro hp' x
          refine sep_mono (fun h' x => ?_) (fun _ x => x) x
          refine SL.own_blk (by simp [hcsl, hnl, Nat.add_mul]) ?_ hnc x
          have : nc * sz = (m + m') * sz + (nc - (m + m')) * sz := by rw [← Nat.add_mul]; congr 1; omega
          simp [zeroCells_length, hzs, hcsl, hnl, this, Nat.add_mul]
          omega
end
end SL
end
section
set_option linter.unusedVariables false
set_option linter.unusedSimpArgs false
namespace SL
open Go
def layF (P : Program) : List Field → Option (List (Nat × Nat))
  | [] => some []
  | f :: l => match P.info? f.type with
    | some i => (layF P l).map ((f.offset, i.size) :: ·)
    | none => none
def layA (sz : Nat) : Nat → Nat → List (Nat × Nat)
  | _, 0 => []
  | i, n + 1 => (i * sz, sz) :: layA sz (i + 1) n
def layOf (P : Program) (t : Nat) : Option (List (Nat × Nat)) := match P.underlying t with
  | some (.struct fs) => layF P fs.toList
  | some (.array n e) => match P.info? e with
    | some i => some (layA i.size 0 n)
    | none => none
  | _ => none
class TSt (P : Program) (t : Nat) (zs : outParam (List Value)) (lay : outParam (List (Nat × Nat))) : Prop where
  zero : ∀ w : World, (zeroValue t).run P w = Go.Result.ok (.agg zs.toArray) w
  lay : layOf P t = some lay
def EvP (ρ : Env) (ps : List (Nat × Operand)) (vs : List (Nat × Value)) : Prop := ps.map (fun p => (ev ρ p.2).map (p.1, ·)) = vs.map some
theorem EvP.nil {ρ : Env} : EvP ρ [] [] := rfl
theorem EvP.cons {ρ : Env} {i : Nat} {x : Operand} {v : Value} {ps : List (Nat × Operand)} {vs : List (Nat × Value)} (h : ev ρ x = some v) (t : EvP ρ ps vs) : EvP ρ ((i, x) :: ps) ((i, v) :: vs) := by
  unfold EvP at *
  simp [h, t]
theorem EvP.map {n : Nat} {ρ : Env} {a : Act} (g : Agree n ρ a) : ∀ {ps : List (Nat × Operand)} {vs : List (Nat × Value)} (h : EvP ρ ps vs), ps.map (fun p => (p.1, a.eval p.2)) = vs
  | [], [], _ => rfl
  | [], _ :: _, h => by simp [EvP] at h
  | _ :: _, [], h => by simp [EvP] at h
  | p :: ps, v :: vs, h => by
    simp only [EvP, List.map_cons, List.cons.injEq, Option.map_eq_some_iff] at h
    obtain ⟨⟨u, h1, h2⟩, h3⟩ := h
    simp only [List.map_cons, g.eval h1, EvP.map g h3, h2]
def Fill (lay : List (Nat × Nat)) (zs : List Value) (vs : List (Nat × Value)) (cs : List Value) : Prop :=
  Instr.fill (nth lay) zs.toArray vs = some cs.toArray
theorem Fill.nil {lay : List (Nat × Nat)} {zs : List Value} : Fill lay zs [] zs := by simp [Fill, Instr.fill]
theorem fold_set : ∀ (us : List Value) (off j : Nat) (cs : List Value), off + j + us.length ≤ cs.length →
    (us.zipIdx j).foldl (fun (acc : Array Value) p => acc.setIfInBounds (off + p.2) p.1) cs.toArray = (cs.take (off + j) ++ us ++ cs.drop (off + j + us.length)).toArray
  | [], off, j, cs, h => by simp
  | u :: us, off, j, cs, h => by
    simp only [List.zipIdx_cons, List.foldl_cons]
    have e : cs.toArray.setIfInBounds (off + j) u = (cs.set (off + j) u).toArray := by simp
    rw [e, fold_set us off (j + 1) (cs.set (off + j) u) (by simp at h ⊢; omega)]
    have hlt : off + j < cs.length := by simp at h; omega
    congr 1
    rw [List.drop_set_of_lt (by omega), show off + (j + 1) = (off + j) + 1 from by omega, List.take_add_one, List.take_set_of_le (by omega)]
    simp [hlt, show off + j + 1 + us.length = off + j + (us.length + 1) from by omega]
theorem Fill.cons {lay : List (Nat × Nat)} {zs zs' us cs : List Value} {i off sz : Nat} {v : Value} {vs : List (Nat × Value)} (h1 : nth lay i = some (off, sz)) (h2 : v.cells = us.toArray) (h3 : us.length = sz)
    (h4 : PutAt zs off us zs') (h : Fill lay zs' vs cs) : Fill lay zs ((i, v) :: vs) cs := by
  obtain ⟨ha, hb⟩ := h4
  unfold Fill at *
  simp only [Instr.fill, h1, h2]
  rw [if_neg (by simp [h3] at ha ⊢; omega)]
  have := fold_set us off 0 zs (by simpa using ha)
  rw [Nat.add_zero] at this
  have e : us.toArray.zipIdx.foldl (fun cs (x : Value × Nat) => cs.setIfInBounds (off + x.2) x.1) zs.toArray = zs'.toArray := by
    rw [hb, ← this, ← Array.foldl_toList]
    simp
  simp only [e]
  exact h
theorem range0 : Array.range 0 = #[] := by
  apply Array.ext'
  simp [Array.toList_range]
def zeros (z : List Value) : Nat → List Value
  | 0 => []
  | n + 1 => z ++ zeros z n
theorem zeros_length (z : List Value) (n : Nat) : (zeros z n).length = n * z.length := by
  induction n with
  | zero => simp [zeros]
  | succ n ih => simp [zeros, ih, Nat.add_mul]; omega
theorem zeros_getElem? (z : List Value) : ∀ (n j : Nat), j < n * z.length → (zeros z n)[j]? = z[j % z.length]?
  | 0, j, h => by simp at h
  | n + 1, j, h => by
    simp only [zeros]
    by_cases hj : j < z.length
    · rw [List.getElem?_append_left hj, Nat.mod_eq_of_lt hj]
    · have hm : j % z.length = (j - z.length) % z.length := Nat.mod_eq_sub_mod (by omega)
      rw [List.getElem?_append_right (by omega), zeros_getElem? z n (j - z.length) (by rw [Nat.add_mul] at h; omega), hm]
theorem zeros_eq (z : Value) (n : Nat) : ((Array.range (n * z.cells.size)).map fun i => z.cells[i % z.cells.size]!) = (zeros z.cells.toList n).toArray := by
  apply Array.ext'
  apply List.ext_getElem?
  intro j
  by_cases hj : j < n * z.cells.size
  · have h0 : 0 < z.cells.size := by
      rcases Nat.eq_zero_or_pos z.cells.size with h | h
      · rw [h] at hj; simp at hj
      · exact h
    have hm : j % z.cells.size < z.cells.size := Nat.mod_lt _ h0
    have hm' : j % z.cells.toList.length < z.cells.size := by simpa using hm
    have := zeros_getElem? z.cells.toList n j (by simpa using hj)
    simp only [this]
    have hg : z.cells[j % z.cells.size]! = z.cells[j % z.cells.size] := getElem!_pos z.cells (j % z.cells.size) hm
    simp [hj, hg, hm]
  · have h1 : (zeros z.cells.toList n).length ≤ j := by rw [zeros_length]; simp; omega
    rw [List.getElem?_eq_none h1]
    simp
    omega
variable {w0 w : World} {L L' r : List HProp} {F : HProp}
variable {P : Program} {fid : Fm} {n : Nat} {post : Post} {k : List Item} {ρ ρ' : Env} {ops rest : List Oper} {g : Option (Nat × Bool)} {ty : TypeId} {pos : String} {af : Array Edge} {d : Nat} {sf : Option (List Bool × List HProp)}
theorem layF_spec : ∀ {fs : List Field} {lay : List (Nat × Nat)}, layF P fs = some lay → ∀ (w : World), (fs.mapM fun f => (do pure (f.offset, ← Go.sizeOf f.type) : Sem (Nat × Nat))).run P w = .ok lay w
  | [], lay, h, w => by simp [layF] at h; subst h; simp
  | f :: fs, lay, h, w => by
    simp only [layF] at h
    cases hi : P.info? f.type with
    | none => simp [hi] at h
    | some i =>
      simp only [hi, Option.map_eq_some_iff] at h
      obtain ⟨l, h1, h2⟩ := h
      subst h2
      have ih := layF_spec h1 w
      have hs : (Go.sizeOf f.type).run P w = .ok i.size w := by simp [Go.sizeOf, typeInfo, hi]
      simp only [List.mapM_cons, Sem.run_bind, hs, Result.andThen_ok, Sem.run_pure, ih]
theorem nth_layA (sz : Nat) : ∀ (n i j : Nat), nth (layA sz i n) j = if j < n then some ((i + j) * sz, sz) else none
  | 0, i, j => by simp [layA, nth]
  | n + 1, i, 0 => by simp [layA, nth]
  | n + 1, i, j + 1 => by
    simp only [layA, nth, nth_layA sz n (i + 1) j]
    simp [Nat.add_assoc, Nat.add_comm 1 j]
theorem fill_congr {p q : Nat → Option (Nat × Nat)} : ∀ (vs : List (Nat × Value)) (cs : Array Value), (∀ x ∈ vs, p x.1 = q x.1) → Instr.fill p cs vs = Instr.fill q cs vs
  | [], cs, _ => rfl
  | (i, v) :: vs, cs, h => by
    simp only [Instr.fill, h (i, v) (by simp)]
    cases q i with
    | none => rfl
    | some x =>
      simp only []
      split
      · rfl
      · exact fill_congr vs _ fun y hy => h y (by simp [hy])
theorem PV.build {dst : Option Nat} {t : Nat} {zs cs : List Value} {lay : List (Nat × Nat)} {ps : List (Nat × Operand)} {vs : List (Nat × Value)} [ht : TSt P t zs lay]
    (he : EvP ρ ps vs) (hf : Fill lay zs vs cs) : PV P n ρ ⟨dst, .build t ps.toArray, ty, pos, af, g⟩ (.agg cs.toArray) := fun a w gr => by
  have hl := ht.lay
  unfold layOf at hl
  have e : (ps.toArray.map fun (x : Nat × Operand) => (x.1, a.eval x.2)) = vs.toArray := by
    rw [List.map_toArray, EvP.map gr he]
  cases hu : P.underlying t with
  | none => simp [hu] at hl
  | some dd =>
    cases dd <;> simp [hu] at hl
    case struct fs =>
      have hm := layF_spec hl w
      have hm' : (fs.mapM fun f => (do pure (f.offset, ← Go.sizeOf f.type) : Sem (Nat × Nat))).run P w = .ok lay.toArray w := by
        rw [Array.mapM_eq_mapM_toList]
        simp only [Sem.run_map, hm, Result.andThen_ok]
      have hf' : Instr.fill (fun x => lay.toArray[x]?) zs.toArray vs = some cs.toArray := by
        rw [← hf]
        exact fill_congr vs _ fun x _ => by simp [nth_eq]
      simp only [execOp, Sem.run_bind, Instr.build, ht.zero, Result.andThen_ok, run_und hu, hm', e, Value.cells, hf', Sem.run_pure]
    case array m el =>
      cases hi : P.info? el with
      | none => simp [hi] at hl
      | some i =>
        simp [hi] at hl
        have hs : (Go.sizeOf el).run P w = .ok i.size w := by simp [Go.sizeOf, typeInfo, hi]
        have hf' : Instr.fill (fun x => some (x * i.size, i.size)) zs.toArray vs = some cs.toArray := by
          have aux : ∀ (vs : List (Nat × Value)) (c c' : Array Value), Instr.fill (nth lay) c vs = some c' → Instr.fill (fun x => some (x * i.size, i.size)) c vs = some c' := by
            intro vs
            induction vs with
            | nil => intro c c' h; exact h
            | cons x vs ih =>
              obtain ⟨j, v⟩ := x
              intro c c' h
              simp only [Instr.fill] at h ⊢
              rw [← hl, nth_layA] at h
              by_cases hj : j < m
              · simp only [hj, if_true, Nat.zero_add] at h
                split
                · rename_i hc; rw [if_pos hc] at h; cases h
                · rename_i hc; rw [if_neg hc] at h; exact ih _ _ (by rw [← hl]; exact h)
              · simp [hj] at h
          exact aux _ _ _ hf
        simp only [execOp, Sem.run_bind, Instr.build, ht.zero, Result.andThen_ok, run_und hu, e, Value.cells, hs, hf', Sem.run_pure]
theorem fold_size : ∀ (us : List (Value × Nat)) (off : Nat) (cs : Array Value), (us.foldl (fun (acc : Array Value) p => acc.setIfInBounds (off + p.2) p.1) cs).size = cs.size
  | [], off, cs => rfl
  | u :: us, off, cs => by simp only [List.foldl_cons, fold_size us, Array.size_setIfInBounds]
theorem fill_size {p : Nat → Option (Nat × Nat)} : ∀ (vs : List (Nat × Value)) (cs cs' : Array Value), Instr.fill p cs vs = some cs' → cs'.size = cs.size
  | [], cs, cs', h => by simp [Instr.fill] at h; rw [h]
  | (i, v) :: vs, cs, cs', h => by
    simp only [Instr.fill] at h
    cases hp : p i with
    | none => simp [hp] at h
    | some x =>
      simp only [hp] at h
      split at h
      · cases h
      · rw [fill_size vs _ _ h, ← Array.foldl_toList]
        exact fold_size _ _ _
theorem Fill.length {lay : List (Nat × Nat)} {zs cs : List Value} {vs : List (Nat × Value)} (h : Fill lay zs vs cs) : cs.length = zs.length := by
  have := fill_size _ _ _ h
  simpa using this
theorem TO.buildSlice {t e sz by_ len : Nat} {z : Value} {zs0 cs : List Value} {ps : List (Nat × Operand)} {vs : List (Nat × Value)} [ht : TSl P t e sz by_] [hz : TZe P e z]
    (hw : wants ops ρ g = some true) (hd : Nat.blt d n = true) (hzs : z.cells.size = sz) (hsm : len * sz ≤ 16777216) (he : EvP ρ ps vs) (hz0 : zeros z.cells.toList len = zs0) (hf : Fill (layA sz 0 len) zs0 vs cs)
    (h : ∀ b, TO P fid n post ops rest sf k ((d, .slice (some ⟨b, 0, none⟩) len len) :: ρ) (own e sz (some ⟨b, 0, none⟩) len len cs :: L)) : TO P fid n post ops (⟨some d, .buildSlice t len ps.toArray, ty, pos, af, g⟩ :: rest) sf k ρ L :=
  TO.val hw hd fun w0 F a w gr st => by
    subst hz0
    have hcl : cs.length = len * sz := by rw [hf.length, zeros_length]; simp [hzs]
    refine ⟨.slice (some ⟨w.heap.size, 0, none⟩) len len, own e sz (some ⟨w.heap.size, 0, none⟩) len len cs :: L, { w with heap := w.heap.push (.cells cs.toArray e) }, ?_, st.new.map (fun hp x => sep_mono (fun h' y => SL.own_blk (extra := []) hcl (by simpa using hcl) (Nat.le_refl _) (by rw [List.append_nil]; exact y)) (fun _ y => y) x), h w.heap.size⟩
    have e1 : (ps.toArray.map fun (x : Nat × Operand) => (x.1, a.eval x.2)) = vs.toArray := by
      rw [List.map_toArray, EvP.map gr he]
    have e2 : ((Array.range (len * sz)).map fun i => z.cells[i % z.cells.size]!) = (zeros z.cells.toList len).toArray := by rw [← hzs]; exact zeros_eq z len
    have hf' : Instr.fill (fun x => some (x * sz, sz)) (zeros z.cells.toList len).toArray vs = some cs.toArray := by
      have aux : ∀ (vs : List (Nat × Value)) (c c' : Array Value), Instr.fill (nth (layA sz 0 len)) c vs = some c' → Instr.fill (fun x => some (x * sz, sz)) c vs = some c' := by
        intro vs
        induction vs with
        | nil => intro c c' h; exact h
        | cons x vs ih =>
          obtain ⟨j, v⟩ := x
          intro c c' h
          simp only [Instr.fill] at h ⊢
          rw [nth_layA] at h
          by_cases hj : j < len
          · simp only [hj, if_true, Nat.zero_add] at h
            split
            · rename_i hc; rw [if_pos hc] at h; cases h
            · rename_i hc; rw [if_neg hc] at h; exact ih _ _ h
          · simp [hj] at h
      exact aux _ _ _ hf
    simp only [execOp, Sem.run_bind, Instr.buildSlice, run_und ht.und, Result.andThen_ok, ht.size, e1]
    rw [if_neg (by omega)]
    by_cases h0 : len * sz = 0
    · have hzl : zeros z.cells.toList len = [] := by
        apply List.eq_nil_of_length_eq_zero
        rw [zeros_length]; simpa [hzs] using h0
      rw [hzl] at hf'
      simp [h0, range0, hf', newRow]
    · simp [h0, hz.run, e2, hf', newRow]
theorem TO.makeSlice {t e sz by_ len cap : Nat} {x y : Operand} {kd kd' : IntKind} {i j : Int} {z : Value} [ht : TSl P t e sz by_] [hz : TZe P e z]
    (hw : wants ops ρ g = some true) (hd : Nat.blt d n = true) (hx : ev ρ x = some (.int kd i)) (hy : ev ρ y = some (.int kd' j)) (hi : i = len) (hj : j = cap) (hlc : len ≤ cap) (hzs : z.cells.size = sz) (hb : cap * by_ ≤ 140737488355328) (hc : cap ≤ 140737488355328)
    (h : ∀ b, TO P fid n post ops rest sf k ((d, .slice (some ⟨b, 0, none⟩) len cap) :: ρ) (own e sz (some ⟨b, 0, none⟩) len cap (zeros z.cells.toList len) :: L)) : TO P fid n post ops (⟨some d, .makeSlice t x y, ty, pos, af, g⟩ :: rest) sf k ρ L :=
  TO.val hw hd fun w0 F a w gr st => by
    subst hi hj
    have hwr : IntKind.i64.wrap (len : Int) = len := IntWalk.i64_in _ ⟨by omega, by omega⟩
    have hwr' : IntKind.i64.wrap (cap : Int) = cap := IntWalk.i64_in _ ⟨by omega, by omega⟩
    have e2 : ((Array.range (cap * sz)).map fun i => z.cells[i % z.cells.size]!) = (zeros z.cells.toList cap).toArray := by rw [← hzs]; exact zeros_eq z cap
    refine ⟨.slice (some ⟨w.heap.size, 0, none⟩) len cap, own e sz (some ⟨w.heap.size, 0, none⟩) len cap (zeros z.cells.toList len) :: L, { w with heap := w.heap.push (.cells (zeros z.cells.toList cap).toArray e) }, ?_, st.new.map ?_, h w.heap.size⟩
    · have hbig : ¬ ((((P.info? e).getD default).bytes : Int) * (cap : Int) > 281474976710656) := by
        rw [ht.bytes]
        have : (by_ : Int) * (cap : Int) = ((cap * by_ : Nat) : Int) := by rw [Int.mul_comm]; simp
        rw [this]
        omega
      simp only [execOp, Sem.run_bind, Instr.makeSlice, run_und ht.und, Result.andThen_ok, gr.eval hx, gr.eval hy, asInt, asIntOf, Sem.run_pure, ht.info, hwr, hwr']
      have hc1 : ¬ ((decide ((cap : Int) < 0) || decide ((((P.info? e).getD default).bytes : Int) * (cap : Int) > 2 ^ 48) || decide ((len : Int) < 0) || decide ((len : Int) > (cap : Int))) = true) := by
        simp only [Bool.or_eq_true, decide_eq_true_eq]
        have hp : (2 : Int) ^ 48 = 281474976710656 := by decide
        rintro (((h | h) | h) | h)
        · omega
        · rw [hp] at h; exact hbig h
        · omega
        · omega
      rw [if_neg hc1]
      by_cases h0 : cap * sz = 0
      · have hzl : zeros z.cells.toList cap = [] := by
          apply List.eq_nil_of_length_eq_zero
          rw [zeros_length]; simpa [hzs] using h0
        simp [ht.size, h0, newRow, hzl, range0]
      · simp [ht.size, h0, hz.run, newRow, e2]
    · intro hp' x
      refine sep_mono (fun h' x => ?_) (fun _ x => x) x
      have hsplit : zeros z.cells.toList cap = zeros z.cells.toList len ++ zeros z.cells.toList (cap - len) := by
        have aux : ∀ p q, zeros z.cells.toList (p + q) = zeros z.cells.toList p ++ zeros z.cells.toList q := by
          intro p q
          induction p with
          | zero => simp [zeros]
          | succ p ih => rw [show p + 1 + q = (p + q) + 1 from by omega]; simp [zeros, ih]
        rw [← aux]; congr 1; omega
      refine SL.own_blk (extra := zeros z.cells.toList (cap - len)) (by rw [zeros_length]; simp [hzs]) (by rw [← hsplit, zeros_length]; simp [hzs]) hlc ?_
      rw [← hsplit]
      exact x
end SL
end
section
set_option linter.unusedVariables false
set_option linter.unusedSimpArgs false
namespace SL
open Go
variable {w0 w : World} {L L' r : List HProp} {F : HProp}
theorem Ent.ofSeps {l m l' : List HProp} (k : Pick l (seps m) r) (h : Ent (m ++ r) l') : Ent l l' := fun hp a =>
  h _ (seps_append.2 ((k hp).1 a))
theorem Ent.ex {α : Type} {p : α → HProp} {l l' : List HProp} (x : α) (k : Pick l (p x) r) (h : Ent r l') : Ent l (SL.ex p :: l') := fun hp a =>
  sep_mono (fun _ y => ⟨x, y⟩) (fun _ y => h _ y) ((k hp).1 a)
section
variable {P : Program} {fid : Fm} {n : Nat} {post : Post} {k : List Item} {ρ ρ' : Env} {ops rest : List Oper} {g : Option (Nat × Bool)} {ty : TypeId} {pos : String} {af : Array Edge} {d : Nat} {sf : Option (List Bool × List HProp)}
theorem TK.exC {α : Type} {p : α → HProp} (hp : Pick L (ex p) r) (h : ∀ x, TK P fid n post k ρ (p x :: r)) : TK P fid n post k ρ L :=
  TK.openEx (L' := fun x => p x :: r) (fun hh a => by
    obtain ⟨h1, h2, d, rfl, ⟨x, px⟩, y⟩ := (hp hh).1 a
    exact ⟨x, h1, h2, d, rfl, px, y⟩) h
theorem TO.exC {α : Type} {p : α → HProp} {l : List Oper} (hp : Pick L (ex p) r) (h : ∀ x, TO P fid n post ops l sf k ρ (p x :: r)) : TO P fid n post ops l sf k ρ L :=
  TO.openEx (L' := fun x => p x :: r) (fun hh a => by
    obtain ⟨h1, h2, d, rfl, ⟨x, px⟩, y⟩ := (hp hh).1 a
    exact ⟨x, h1, h2, d, rfl, px, y⟩) h
theorem TK.sepsC {m : List HProp} (hp : Pick L (seps m) r) (h : TK P fid n post k ρ (m ++ r)) : TK P fid n post k ρ L :=
  TK.ent (fun hh a => seps_append.2 ((hp hh).1 a)) h
theorem TO.sepsC {m : List HProp} {l : List Oper} (hp : Pick L (seps m) r) (h : TO P fid n post ops l sf k ρ (m ++ r)) : TO P fid n post ops l sf k ρ L :=
  TO.ent (fun hh a => seps_append.2 ((hp hh).1 a)) h
theorem TK.drop {p : HProp} (hp : Pick L p r) (h : TK P fid n post k ρ r) : TK P fid n post k ρ L :=
  fun w0 F a w cs g st => h w0 F a w cs g (st.drop hp)
theorem TO.drop {p : HProp} {l : List Oper} (hp : Pick L p r) (h : TO P fid n post ops l sf k ρ r) : TO P fid n post ops l sf k ρ L :=
  fun w0 F a w is s g st hi hs => h w0 F a w is s g (st.drop hp) hi hs
def EntD (l l' : List HProp) : Prop := ∀ (w0 : World) (F : HProp) (w : World), Sat w0 l F w → Sat w0 l' F w
theorem EntD.of_ent (h : Ent L L') : EntD L L' := fun w0 F w s => s.map h
theorem EntD.nil : EntD L [] := by
  intro w0 F w s
  refine ⟨s.os, s.tape, s.out, ?_⟩
  obtain ⟨hp, hs, h1, h2, d, rfl, x, y⟩ := s.heap
  refine ⟨h2, ?_, fun _ => none, h2, fun _ => .inl rfl, (emp_join (fun _ => rfl)).symm, fun _ => rfl, y⟩
  intro b o hb
  refine hs b o ?_
  rcases d b with e | e
  · simp only [join, e]; exact hb
  · rw [e] at hb; cases hb
theorem Frm.cons1 {p : HProp} {r : List HProp} : Frm (p :: r) r [p] := fun h a => by
  have := sep_comm a
  exact sep_mono (fun _ x => x) (fun _ x => sep_comm (sep_emp.2 x)) this
theorem EntD.cons {p : HProp} (k : Pick L p r) (h : EntD r L') : EntD L (p :: L') := by
  intro w0 F w s
  have s1 : Sat w0 (p :: r) F w := s.map fun _ a => (k _).1 a
  have s2 : Sat w0 r (sep (seps [p]) F) w := s1.frame (pre := r) (rest := [p]) Frm.cons1
  exact (h w0 _ w s2).unframe.map (fun _ a => by
    have := seps_append.1 a
    have h2 := sep_comm this
    exact sep_mono (fun _ x => by
      have := sep_comm x
      exact sep_emp.1 this) (fun _ x => x) h2)
theorem EntD.refl : EntD L L := fun _ _ _ s => s
theorem EntD.trans {A B C : List HProp} (h : EntD A B) (h' : EntD B C) : EntD A C := fun w0 F w s => h' w0 F w (h w0 F w s)
theorem EntD.frm {pre rest : List HProp} {q : HProp} (f : Frm L pre rest) (hq : ∀ h, seps pre h → q h) (h : EntD rest L') : EntD L (q :: L') :=
  fun w0 F w s => EntD.cons Pick.head h w0 F w (s.map fun _ a => sep_mono (fun _ x => hq _ x) (fun _ x => x) (f _ a))
theorem EntD.frmL {pre rest m : List HProp} (f : Frm L pre rest) (hq : ∀ h, seps pre h → seps m h) (h : EntD rest L') : EntD L (m ++ L') :=
  fun w0 F w s => (EntD.frm (q := seps m) f hq h w0 F w s).map fun _ a => seps_append.2 a
theorem EntD.all {pre rest m : List HProp} (f : Frm L pre rest) (hq : ∀ h, seps pre h → seps m h) : EntD L m :=
  EntD.trans (EntD.frmL f hq EntD.nil) (by rw [List.append_nil]; exact EntD.refl)
theorem EntD.fact {φ : Prop} (hφ : φ) (h : EntD L L') : EntD L (SL.fact φ :: L') := fun w0 F w s => (h w0 F w s).map fun _ a => sep_fact.2 ⟨hφ, a⟩
theorem EntD.drop {p : HProp} (k : Pick L p r) (h : EntD r L') : EntD L L' := fun w0 F w s => h w0 F w (s.drop k)
theorem TK.entD (e : EntD L L') (h : TK P fid n post k ρ L') : TK P fid n post k ρ L :=
  fun w0 F a w cs g st => h w0 F a w cs g (e w0 F w st)
theorem TO.entD {l : List Oper} (e : EntD L L') (h : TO P fid n post ops l sf k ρ L') : TO P fid n post ops l sf k ρ L :=
  fun w0 F a w is s g st hi hs => h w0 F a w is s g (e w0 _ w st) hi hs
theorem TK.retD {fn : Func} {v : Value} (hf : P.funcs[fid.fn]? = some fn) (hr : Res P n ρ L fn v) (hp : post v L') (he : EntD L L') (hn : fid.plain := by exact ⟨rfl, rfl⟩) : TK P fid n post (.code .ret :: k) ρ L := by
  intro w0 F a w cs g st
  refine ⟨v, w, L', hp, he w0 F w st, ?_⟩
  unfold Ends
  rw [hn.1]
  refine ⟨{ fid.at a (.code .ret :: k) with mode := .returning }, .one (stepR_ret (b := fid.frame) (a := fid.act a) hn.1), rfl, rfl, ?_, rfl, fn, hf, hr w0 F a w g st⟩
  show fid.marks.map mkD = []
  rw [hn.2]; rfl
theorem TK.finD {fn : Func} {v : Value} (hf : P.funcs[fid.fn]? = some fn) (hr : Res P n ρ L fn v) (hp : post v L') (he : EntD L L') (hn : fid.plain := by exact ⟨rfl, rfl⟩) : TK P fid n post [] ρ L := by
  intro w0 F a w cs g st
  refine ⟨v, w, L', hp, he w0 F w st, ?_⟩
  unfold Ends
  rw [hn.1]
  refine ⟨{ fid.at a [] with mode := .returning }, .one (stepR_end (b := fid.frame) (a := fid.act a) hn.1), rfl, rfl, ?_, rfl, fn, hf, hr w0 F a w g st⟩
  show fid.marks.map mkD = []
  rw [hn.2]; rfl
theorem Spec.postD {f : Nat} {args : List Value} {pre : List HProp} {post post' : Post} (h : Spec P f args pre post) (hp : ∀ v L, post v L → ∃ L', post' v L' ∧ EntD L L') :
    Spec P f args pre post' :=
  ⟨h.callable, fun w0 F w st => (h.runs w0 F w st).mono fun e w' ⟨v, L, he, hv, st'⟩ => let ⟨L', a, b⟩ := hp v L hv; ⟨v, L', he, a, b w0 F w' st'⟩⟩
theorem Spec.preD {f : Nat} {args : List Value} {pre pre' : List HProp} {post : Post} (h : Spec P f args pre post) (e : EntD pre' pre) : Spec P f args pre' post :=
  ⟨h.callable, fun w0 F w st => h.runs w0 F w (e w0 F w st)⟩
theorem Spec.openEx {α : Type} {f : Nat} {args : List Value} {pre : List HProp} {pre' : α → List HProp} {post : Post} (hne : Nonempty α) (e : ∀ h, seps pre h → ∃ x, seps (pre' x) h) (h : ∀ x, Spec P f args (pre' x) post) : Spec P f args pre post := by
  obtain ⟨x0⟩ := hne
  refine ⟨(h x0).callable, fun w0 F w st => ?_⟩
  obtain ⟨hp, hsub, h1, h2, d, rfl, x, y⟩ := st.heap
  obtain ⟨z, hz⟩ := e h1 x
  exact (h z).runs w0 F w ⟨st.os, st.tape, st.out, _, hsub, h1, h2, d, rfl, hz, y⟩
theorem TK.againD {c : Code} {Inv : Env → List HProp → Nat → Prop} {m : Nat}
    (ih : ∀ ρ' L' m', Inv ρ' L' m' → m' < m → TK P fid n post (.inLoop c :: k) ρ' L') {ρ1 : Env} {L1 : List HProp} {m1 : Nat}
    (h1 : Inv ρ1 L1 m1) (hρ : Sub ρ ρ1) (hL : EntD L L1) (hm : m1 < m) : TK P fid n post (.inLoop c :: k) ρ L :=
  TK.entD hL (TK.again ih h1 hρ Ent.refl hm)
theorem TK.loopD {c : Code} (Inv : Env → List HProp → Nat → Prop)
    (round : ∀ ρ L m, Inv ρ L m → (∀ ρ' L' m', Inv ρ' L' m' → m' < m → TK P fid n post (.inLoop c :: k) ρ' L') → TK P fid n post (.code c :: .inLoop c :: k) ρ L)
    {ρ0 : Env} {L0 : List HProp} {m0 : Nat} (h0 : Inv ρ0 L0 m0) (hρ : Sub ρ ρ0) (hL : EntD L L0) : TK P fid n post (.code (.loop c) :: k) ρ L :=
  TK.entD hL (TK.loop Inv round h0 hρ Ent.refl)
theorem Spec.framed {f : Nat} {args : List Value} {pre pre' : List HProp} {post : Post} (h : Spec P f args pre post) (rest : List HProp) (fr : Frm pre' pre rest) :
    Spec P f args pre' (fun v L => ∃ L1, post v L1 ∧ L = L1 ++ rest) :=
  ⟨h.callable, fun w0 F w st => (h.runs w0 _ w (st.frame fr)).mono fun e w' ⟨v, L, he, hv, st'⟩ => ⟨v, L ++ rest, he, ⟨L, hv, rfl⟩, st'.unframe⟩⟩
theorem Res.cellA {fn : Func} {t u T b sz : Nat} {cs vs : List Value} [ht : TAg P u sz] (h : fn.results = #[.cell t u]) (hv : look t ρ = some (.pointer (some ⟨b, 0, Option.none⟩))) (hp : Pick L (blk b T cs) r) (hc : Cut cs 0 sz vs) :
    Res P n ρ L fn (.agg vs.toArray) := fun w0 F a w gr st => by
  have e := gr.at_ t _ hv
  have hl := st.loads (P := P) hp hc
  simp [results, h, Array.getD_eq_getD_getElem?, e, asAddr, loadVar, (ht.run w).1, (ht.run w).2, hl]
theorem Res.cellAT {fn : Func} {t u T b sz s : Nat} {cs vs : List Value} {v : Value} [ht : TAg P u sz] (h : fn.results = #[.cell t u, .tmp s]) (hv : look t ρ = some (.pointer (some ⟨b, 0, Option.none⟩))) (hs : look s ρ = some v) (hp : Pick L (blk b T cs) r) (hc : Cut cs 0 sz vs) :
    Res P n ρ L fn (.tuple #[.agg vs.toArray, v]) := fun w0 F a w gr st => by
  have e := gr.at_ t _ hv
  have e2 := gr.at_ s _ hs
  have hl := st.loads (P := P) hp hc
  simp [results, h, Array.getD_eq_getD_getElem?, e, e2, asAddr, loadVar, (ht.run w).1, (ht.run w).2, hl]
theorem Res.cellS {fn : Func} {t u T b : Nat} {cs : List Value} {v : Value} [ht : TSc P u] (h : fn.results = #[.cell t u]) (hv : look t ρ = some (.pointer (some ⟨b, 0, Option.none⟩))) (hp : Pick L (blk b T cs) r) (hc : nth cs 0 = some v) :
    Res P n ρ L fn v := fun w0 F a w gr st => by
  have e := gr.at_ t _ hv
  have hl := st.cell hp (o := 0) (v := v) (by rw [← nth_eq]; exact hc)
  simp [results, h, Array.getD_eq_getD_getElem?, e, asAddr, loadVar, (ht.run w).1, (ht.run w).2, hl]
theorem TO.slot {d : Nat} {v v' : Value} {l : List Oper} (h : look d ρ = some v) (e : v = v') (ht : TO P fid n post ops l sf k ((d, v') :: ρ) L) : TO P fid n post ops l sf k ρ L :=
  TO.weak (Sub.cons h e (Sub.refl _)) Ent.refl ht
theorem TK.slot {d : Nat} {v v' : Value} (h : look d ρ = some v) (e : v = v') (ht : TK P fid n post k ((d, v') :: ρ) L) : TK P fid n post k ρ L :=
  TK.weak (Sub.cons h e (Sub.refl _)) Ent.refl ht
theorem TO.clear {x : Operand} {t e sz by_ m cap b off : Nat} {cs cs' : List Value} {z : Value} [ht : TSl P t e sz by_] [hz : TZe P e z]
    (hw : wants ops ρ g = some true) (hx : ev ρ x = some (.slice (some ⟨b, off, none⟩) m cap)) (hzs : z.cells.size = sz) (h1 : ∀ v ∈ z.cells.toList, v.oneCell' = true)
    (hp : Pick L (blk b e cs) r) (hv : PutAt cs off (zeros z.cells.toList m) cs')
    (h : TO P fid n post ops rest sf k ρ (blk b e cs' :: r)) :
    TO P fid n post ops (⟨none, .call ⟨.builtin .clear, [x].toArray, [t].toArray⟩, ty, pos, af, g⟩ :: rest) sf k ρ L := by
  have hz1 : ∀ m, ∀ v ∈ zeros z.cells.toList m, v.oneCell' = true := by
    intro m
    induction m with
    | zero => simp [zeros]
    | succ m ih => intro v hv; simp only [zeros, List.mem_append] at hv; rcases hv with hv | hv; exact h1 v hv; exact ih v hv
  refine TO.val (o := ⟨none, .call ⟨.builtin .clear, [x].toArray, [t].toArray⟩, ty, pos, af, g⟩) hw rfl fun w0 F act w gr st => ?_
  obtain ⟨w', hr, st'⟩ := Sat.stores (P := P) (zeros z.cells.toList m) cs off 0 L r w st hp (hz1 m) (by simpa using hv.1)
  have e2 : (Builtin.zeroCells z.cells m).toList = zeros z.cells.toList m := by
    have := zeros_eq z m
    unfold Builtin.zeroCells
    rw [this]
  refine ⟨.tuple #[], blk b e cs' :: r, w', ?_, ?_, h⟩
  · cases m with
    | zero =>
      simp only [zeros, storeCells] at hr
      simp at hr
      subst hr
      simp [execOp, resolve, invoke, builtin, gr.eval hx, Builtin.clear_, run_und ht.und]
    | succ m =>
      simp [execOp, resolve, invoke, builtin, gr.eval hx, Builtin.clear_, run_und ht.und, hz.run, e2, hr]
  · have := hv.2
    simp only [Nat.add_zero] at st'
    rw [← this] at st'
    exact st'
def byteV (b : UInt8) : Value := .int .u8 b.toNat
def strOf (bs : List UInt8) : ByteArray := ⟨bs.toArray⟩
theorem strOf_toList (bs : List UInt8) : (strOf bs).toList = bs := by
  rw [ByteArray.toList_eq]
  simp [strOf]
theorem foldl_push (bs : List UInt8) : ∀ (s : ByteArray), ((bs.map fun b => (b.toNat : Int)).foldl (fun (r : ByteArray) n => r.push (UInt8.ofNat n.toNat)) s) = ⟨s.data ++ bs.toArray⟩ := by
  induction bs with
  | nil => intro s; simp
  | cons b bs ih =>
    intro s
    simp only [List.map_cons, List.foldl_cons, ih]
    congr 1
    apply Array.ext'
    simp [ByteArray.push]
theorem TO.bytesToStr {x : Operand} {s t m cap e by_ : Nat} {p : Option Addr} {bs : List UInt8} [hs' : TSl P s e 1 by_] (hu : P.underlying t = some .string) (hu8 : P.underlying e = some (.int .u8)) (hw : wants ops ρ g = some true) (hd : Nat.blt d n = true)
    (hx : ev ρ x = some (.slice p m cap)) (hs : Src P L 1 m (.slice p m cap) (bs.map byteV))
    (h : TO P fid n post ops rest sf k ((d, .string (strOf bs)) :: ρ) L) : TO P fid n post ops (⟨some d, .convert s t x, ty, pos, af, g⟩ :: rest) sf k ρ L :=
  TO.val hw hd fun w0 F a w gr st => by
    refine ⟨.string (strOf bs), L, w, ?_, st, h⟩
    obtain ⟨hl, hr⟩ := hs
    obtain ⟨h1, h2⟩ := hr w0 F w st
    have hc : (Conv.bytesToString (.slice p m cap)).run P w = .ok (.string (strOf bs)) w := by
      cases p with
      | none =>
        have : bs = [] := by
          simp [Builtin.firstCells] at h1
          first | exact h1 | exact h1.symm
        subst this
        rfl
      | some q =>
        have h3 : (loadCells q m).run P w = .ok ((bs.map fun b => (b.toNat : Int)).map (Value.int .u8)).toArray w := by
          simp only [Builtin.firstCells, Nat.mul_one] at h1
          rw [h1]
          simp [byteV, Function.comp_def]
        rw [run_bytesToString w q m cap _ h3, foldl_push]
        simp [strOf, ByteArray.empty, ByteArray.emptyWithCapacity]
        try rfl
    simp only [execOp, gr.eval hx, Sem.run_bind, run_convert_bytes_string w s t e p m cap hs'.und hu8 hu, hc, Result.andThen_ok, Sem.run_pure]
theorem PV.eqStr {dst : Option Nat} {x y : Operand} {a b : ByteArray} {t u : TypeId} (hx : ev ρ x = some (.string a)) (hy : ev ρ y = some (.string b)) :
    PV P n ρ ⟨dst, .binOp .eql t x y u, ty, pos, af, g⟩ (.bool (decide (a.toList = b.toList))) := fun a' w gr => by
  simp [execOp, eqGuard, binOp, gr.eval hx, gr.eval hy, Op.stringOp]
  by_cases h : a.toList = b.toList <;> simp [h]
end
def Rd (X : HProp) (a : Option Addr) (cap : Nat) (bs : List UInt8) : Prop :=
  (a = none → bs = []) ∧ ∀ (P : Program) (L r : List HProp), Pick L X r → Src P L 1 bs.length (.slice a bs.length cap) (bs.map byteV)
theorem Rd.src {P : Program} {L r : List HProp} {X : HProp} {a : Option Addr} {cap m : Nat} {bs : List UInt8} (h : Rd X a cap bs) (hm : m = bs.length) (k : Pick L X r) : Src P L 1 m (.slice a m cap) (bs.map byteV) := by
  subst hm
  exact h.2 P L r k
theorem Rd.orig {v : World} {a : Option Addr} {cap : Nat} {bs : List UInt8} (h0 : a = none → bs = [])
    (h : ∀ b off, a = some ⟨b, off, none⟩ → ∀ (j : Nat) (x : UInt8), bs[j]? = some x → v.cell? ⟨b, off + j, none⟩ = some (byteV x)) (hz : ∀ q, a = some q → q.spot = none) : Rd (orig v) a cap bs := by
  refine ⟨h0, fun P L r k => ?_⟩
  cases a with
  | none => rw [h0 rfl]; exact Src.nil
  | some q =>
    obtain ⟨b, off, z⟩ := q
    have := hz _ rfl
    simp only at this
    subst this
    refine Src.orig k (by simp) fun j x hj => ?_
    rw [List.getElem?_map] at hj
    cases hb : bs[j]? with
    | none => simp [hb] at hj
    | some y => simp [hb] at hj; subst hj; exact h b off rfl j y hb
end SL
end
